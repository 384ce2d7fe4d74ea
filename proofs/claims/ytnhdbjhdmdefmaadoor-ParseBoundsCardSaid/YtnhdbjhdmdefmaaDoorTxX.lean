
/- Walks of package text: all tokens. -/
import Derived.Test.YtnhdbjhdmdefmaaDoorTxU
import Derived.Test.YtnhdbjhdmdefmaaDoorTrW
namespace Go.Proofs.YtnhdbjhdmdefmaaDoor
set_option linter.unusedSimpArgs false
set_option linter.unusedVariables false
open Go.RowKit Go.Maps Culp

/-- A token's cells. -/
def tcells (x : Tx.Tk × (Nat × Nat)) : List Value := [.int .i8 x.1.kind, .int .i64 x.1.n, .string (bs x.1.s), .int .i64 x.2.1, .int .i64 x.2.2]
def tflat (L : List (Tx.Tk × (Nat × Nat))) : List Value := L.flatMap tcells
theorem tok_info : (Tryd.prog.info? 60).map (fun i => (i.zero, i.size, i.bytes)) = some (some (.agg #[.int .i8 0, .int .i64 0, .string ByteArray.empty, .int .i64 0, .int .i64 0]), 5, 48) := by kernel_rfl
theorem build_tok (w : World) (k n : Int) (s : ByteArray) (l c : Int) : (Instr.buildSlice 61 1 #[(0, .agg #[.int .i8 k, .int .i64 n, .string s, .int .i64 l, .int .i64 c])]).run Tryd.prog w = .ok (.slice (some ⟨w.heap.size, 0, none⟩) 1 1) (w.alloc (.cells #[.int .i8 k, .int .i64 n, .string s, .int .i64 l, .int .i64 c] 60)) := by
  simp [go_sem, Instr.buildSlice, run_underlying Tryd.underlying61]
/-- What Tokens answers. -/
def ToksRes (l : List UInt8) (w : World) (e : Ending) (w' : World) : Prop := Below w.heap.size w w' ∧ match Tx.toks l with
  | .ok L => ∃ v, e = .returned (.tuple #[v, .int .i64 0, .agg #[.int .i64 0, .int .i64 0]]) ∧ w'.ownsRow w.heap.size 60 5 v L.length (tflat L)
  | .error (c, p) => e = .returned (.tuple #[.slice none 0 0, .int .i64 c, .agg #[.int .i64 p.1, .int .i64 p.2]])
/-- A place as it lies in memory. -/
def Pl2 (g : Nat) (a b : Int) (w : World) : Prop := w.heap[g]? = some (.cells #[.int .i64 a, .int .i64 b] 25 (0, 0))
section
variable {g : Nat} {a b : Int} {w w' : World}
theorem Pl2.lt (h : Pl2 g a b w) : g < w.heap.size := by
  rcases Nat.lt_or_ge g w.heap.size with hlt | hge
  · exact hlt
  · unfold Pl2 at h; rw [Array.getElem?_eq_none hge] at h; cases h
theorem Pl2.c0 (h : Pl2 g a b w) : w.cell? ⟨g, 0, none⟩ = some (.int .i64 a) := by unfold Pl2 at h; simp [World.cell?, h]
theorem Pl2.c1 (h : Pl2 g a b w) : w.cell? ⟨g, 1, none⟩ = some (.int .i64 b) := by unfold Pl2 at h; simp [World.cell?, h]
theorem Pl2.free (h : Pl2 g a b w) (i : Nat) : w.frozen? ⟨g, i, none⟩ = false := by unfold Pl2 at h; simp [World.frozen?, h]
theorem Pl2.later (h : Pl2 g a b w) (hb : Below w.heap.size w w') : Pl2 g a b w' := (hb.block g h.lt).trans h
theorem Pl2.keep {r : Nat} (h : Pl2 g a b w) (hk : Keep r w w') (hne : g ≠ r) : Pl2 g a b w' := (hk.block g h.lt hne).trans h
theorem pl2_alloc (w : World) (a b : Int) : Pl2 w.heap.size a b (w.alloc (.cells #[.int .i64 a, .int .i64 b] 25)) := (MapKept.heap_alloc w _).1
end
theorem Rd.norow {r : Nat} {v m : Value} {at_ line beg : Int} {w : World} (h : Rd r v at_ line beg m w) : ∀ cur, w.heap[r]? ≠ some (.cells cur 60 (0, 0)) := fun cur e => by
  unfold Rd at h; rw [h] at e; simp at e
theorem Pl2.norow {g : Nat} {a b : Int} {w : World} (h : Pl2 g a b w) : ∀ cur, w.heap[g]? ≠ some (.cells cur 60 (0, 0)) := fun cur e => by
  unfold Pl2 at h; rw [h] at e; simp at e
theorem WordsMap.norow {w : World} {B : Nat} (h : WordsMap w B) : ∀ cur, w.heap[B]? ≠ some (.cells cur 60 (0, 0)) := fun cur e => by
  obtain ⟨es, clock, h1, _⟩ := h; rw [h1] at e; cases e
theorem Rd.row {r : Nat} {v m : Value} {at_ line beg : Int} {w w' : World} {row : Option Nat} (h : Rd r v at_ line beg m w) (hg : w.grownBy w' row) (hne : row ≠ some r) : Rd r v at_ line beg m w' := (hg.block r h.lt (fun e => hne e.symm)).trans h
theorem Pl2.row {g : Nat} {a b : Int} {w w' : World} {row : Option Nat} (h : Pl2 g a b w) (hg : w.grownBy w' row) (hne : row ≠ some g) : Pl2 g a b w' := (hg.block g h.lt (fun e => hne e.symm)).trans h
theorem WordsMap.row {w w' : World} {B : Nat} {row : Option Nat} (h : WordsMap w B) (hg : w.grownBy w' row) (hne : row ≠ some B) : WordsMap w' B := h.same (hg.block B h.lt (fun e => hne e.symm))
/-- The loop of Tokens, all that it leans on. -/
structure TL (s : ByteArray) (r b o c B : Nat) (k : Nat) (line beg : Int) (u : Value) (acc : List (Tx.Tk × (Nat × Nat))) (w W : World) : Prop where
  rd : Rd r (.slice (some ⟨b, o, none⟩) s.size c) k line beg (.map (some B)) W
  byt : Lib.Bytes W b o s
  wm : WordsMap W B
  res : Pl2 w.heap.size 0 0 W
  own : W.ownsRow w.heap.size 60 5 u acc.length (tflat acc)
  bel : Below w.heap.size w W
theorem _root_.Go.RowKit.Below.keepTo {w W W' : World} {r : Nat} (hb : Below w.heap.size w W) (hk : Keep r W W') (hr : w.heap.size ≤ r) : Below w.heap.size w W' :=
  ⟨hk.os.trans hb.os, hk.tape.trans hb.tape, hk.output.trans hb.output, Nat.le_trans hb.size hk.size, fun j hj => (hk.block j (Nat.lt_of_lt_of_le hj hb.size) (by omega)).trans (hb.block j hj)⟩
section
variable {s : ByteArray} {r b o c B k : Nat} {line beg : Int} {u : Value} {acc : List (Tx.Tk × (Nat × Nat))} {w W W' : World}
theorem TL.later (h : TL s r b o c B k line beg u acc w W) (hb : Below W.heap.size W W') : TL s r b o c B k line beg u acc w W' :=
  ⟨h.rd.later hb, bytes_later h.byt hb, h.wm.later hb, h.res.later hb, own_later h.own hb, below_later hb h.bel⟩
theorem TL.keep (h : TL s r b o c B k line beg u acc w W) (hk : Keep r W W') (hb : b < w.heap.size) (hB : B ≠ r) (h0 : w.heap.size < r) {k' : Nat} {line' beg' : Int} (hr : Rd r (.slice (some ⟨b, o, none⟩) s.size c) k' line' beg' (.map (some B)) W') :
    TL s r b o c B k' line' beg' u acc w W' := by
  refine ⟨hr, bytes_keep h.byt hk (by omega), h.wm.keep hk hB, h.res.keep hk (by omega), own_keep h.own hk h.rd.norow, ?_⟩
  have hb2 := h.bel
  have hs := hb2.size
  exact ⟨hk.os.trans hb2.os, hk.tape.trans hb2.tape, hk.output.trans hb2.output, Nat.le_trans hb2.size hk.size, fun j hj => (hk.block j (Nat.lt_of_lt_of_le hj hs) (by omega)).trans (hb2.block j hj)⟩
end

set_option maxRecDepth 100000 in
set_option maxHeartbeats 800000 in
theorem passes_nil (r c : Nat) (A : Option Addr) (m : Value) (w : World) (hr : Rd r (.slice A 0 c) 0 1 0 m w) :
    Calls Tryd.prog 62 #[.pointer (some ⟨r, 0, none⟩)] w (Makes (.tuple #[]) w) := by
  have q0 := hr.c0
  have q1 := hr.c1
  clear hr
  go_enter Tryd.func62, Tryd.ntmps62
  go_step3
  go_wp2_with fail
  go_step3
  go_wp2_with fail
  go_loopg [] 0 (fun g wx => g = 0 ∧ wx = w)
  case atStart => exact ⟨rfl, rfl⟩
  case round =>
    obtain ⟨rfl, rfl⟩ := hrel
    go_wp2_with fail
    refine wp_region_plan (S := fun w' => w'.cell? ⟨r, 0, none⟩ = some (.slice A 0 c) ∧ w'.cell? ⟨r, 1, none⟩ = some (.int .i64 0))
      [(0, true), (1, true), (2, true), (3, true), (4, true), (5, true), (6, true), (7, true), (8, true), (9, true)] (by kernel_rfl) (by kernel_rfl) (by kernel_rfl) (fun _ _ _ _ _ h => h) ⟨q0, q1⟩ ?_
    intro HS
    repeat (first | (apply wpPlan_look; rfl; rfl; (intro wq hq; (try dsimp only at hq); go_split_ands; go_simp; (try rw [if_neg (by omega)]); (try rw [if_pos (by omega)]); try with_reducible rfl); simp only [Act.put, List.setIfInBounds_toArray, List.set_cons_zero, List.set_cons_succ]) | (apply wpPlan_skip; rfl; rfl; simp only [Act.put, List.setIfInBounds_toArray, List.set_cons_zero, List.set_cons_succ]) | (apply wpPlan_pass; rfl; rfl; assumption; simp only [Act.put, List.setIfInBounds_toArray, List.set_cons_zero, List.set_cons_succ]))
    apply wpPlan_done
    go_wp2_with fail
    rw [Exit.noGoto_normal]
    exact bodyPost_end (v := .tuple #[]) (by simp [results, Tryd.results62, go_sem]) rfl (Makes.mk rfl (Below.refl _ _).drew)
/-- A whole place is written. -/
def set2 (g : Nat) (a b : Int) (W : World) : World := (W.setCell ⟨g, 0, none⟩ (.int .i64 a)).setCell ⟨g, 1, none⟩ (.int .i64 b)
theorem set2_pl {g : Nat} {a b a' b' : Int} {W : World} (h : Pl2 g a b W) : Pl2 g a' b' (set2 g a' b' W) := by
  unfold Pl2 set2 at *
  simp [World.setCell, Array.getElem?_modify, h]
theorem set2_below {w W : World} {g : Nat} {a b : Int} (h : Below w.heap.size w W) (hg : w.heap.size ≤ g) : Below w.heap.size w (set2 g a b W) := by
  unfold set2
  exact (h.setCell hg _).setCell hg _
theorem set2_own {w W : World} {base g n : Nat} {a b : Int} {v : Value} {xs : List Value} {x y : Int} (h : W.ownsRow base 60 5 v n xs) (hp : Pl2 g x y W) : (set2 g a b W).ownsRow base 60 5 v n xs :=
  own_keep h (((Keep.refl g W).setCell 0 _).setCell 1 _) hp.norow
theorem toks_end {l : List UInt8} {w W : World} {tmps : Array Value} {v : Value} {x : Int} {a b : Int} (hp : Pl2 w.heap.size 0 0 W) (hb : Below w.heap.size w W)
    (h2 : tmps.getD 2 undef = v) (h3 : tmps.getD 3 undef = .int .i64 x) (h4 : tmps.getD 4 undef = .pointer (some ⟨w.heap.size, 0, none⟩))
    (h : Below w.heap.size w (set2 w.heap.size a b W) → ToksRes l w (.returned (.tuple #[v, .int .i64 x, .agg #[.int .i64 a, .int .i64 b]])) (set2 w.heap.size a b W)) :
    bodyPost Tryd.prog Tryd.f46 (ToksRes l w) .ret ⟨tmps, []⟩ (set2 w.heap.size a b W) := by
  rw [Array.getD_eq_getD_getElem?] at h2 h3 h4
  have hT := set2_pl (a' := a) (b' := b) hp
  have hB := h (set2_below hb (Nat.le_refl _))
  generalize set2 w.heap.size a b W = W2 at *
  exact bodyPost_ret (v := .tuple #[v, .int .i64 x, .agg #[.int .i64 a, .int .i64 b]]) (by simp [results, Tryd.results46, go_sem, h2, h3, h4, hT.c0, hT.c1]) rfl hB
theorem toks_nil : Tx.toks [] = .ok [] := by rfl
theorem bytes_row {s : ByteArray} {b o : Nat} {w W W1 W' : World} (h : Lib.Bytes W b o s) (hb : Below w.heap.size w W1) (hb' : Below w.heap.size W1 W') (hbl : b < w.heap.size) (h1 : Lib.Bytes W1 b o s) : Lib.Bytes W' b o s := fun i hi => by
  have := h1 i hi
  rw [World.cell?_of_block (w := W1) (hb'.block b hbl)]
  exact this
set_option maxRecDepth 100000 in
set_option maxHeartbeats 3200000 in
theorem tTokens_any (s : ByteArray) (sv : Value) (w : World) (hb : BytesV w sv s) (hs : s.size ≤ 140737488351232) (hS : Sp w) :
    Calls Tryd.prog 46 #[sv] w (ToksRes s.data.toList w) := by
  have hl := size_list s
  obtain ⟨A, c, rfl, hc, hA⟩ := hb
  have HS := Lib.hid hS
  have HA := Lib.hid hA
  clear hA hS
  by_cases hbig : 65536 < s.size
  · have HQ := Lib.hid (Tx.long_toks (l := s.data.toList) (by omega))
    clear hl
    go_enter Tryd.func46, Tryd.ntmps46
    go_wp2_with fail
    refine bodyPost_ret (v := .tuple #[.slice none 0 0, .int .i64 10, .agg #[.int .i64 0, .int .i64 0]]) (by simp [results, Tryd.results46, go_sem]) rfl ⟨(Below.refl _ _).alloc (Nat.le_refl _) _, ?_⟩
    rw [HQ.out]
    rfl
  by_cases h0 : s.size = 0
  · have HQ : Hid (Tx.toks s.data.toList = .ok []) := Lib.hid (by rw [List.eq_nil_of_length_eq_zero (l := s.data.toList) (by omega)]; exact toks_nil)
    have HZ := Lib.hid h0
    rw [h0]
    clear hl HA h0
    go_enter Tryd.func46, Tryd.ntmps46
    go_wp2_with fail
    have hb0 : Below w.heap.size w (w.alloc (.cells #[.int .i64 0, .int .i64 0] 25)) := (Below.refl _ _).alloc (Nat.le_refl _) _
    refine (twords_any _ (HS.out.later hb0)).mono ?_
    rintro e w2 ⟨B, rfl, hB, hWM, hb2⟩
    have HB2 := Lib.hid (below_later hb2 hb0)
    have HP := Lib.hid ((pl2_alloc w 0 0).later hb2)
    clear hWM hb2 hb0 hB
    go_wp2_with fail
    go_loopg [6] 0 (fun g v wx => g = 0 ∧ v = .slice none 0 0 ∧ wx = w2.alloc (.cells #[.slice A 0 c, .int .i64 0, .int .i64 1, .int .i64 0, .map (some B)] 111))
    case atStart => exact ⟨rfl, rfl, rfl⟩
    case round =>
      obtain ⟨rfl, rfl, rfl⟩ := hrel
      have hrd : Rd w2.heap.size (.slice A 0 c) 0 1 0 (.map (some B)) (w2.alloc (.cells #[.slice A 0 c, .int .i64 0, .int .i64 1, .int .i64 0, .map (some B)] 111)) := (MapKept.heap_alloc w2 _).1
      have HRD := Lib.hid hrd
      clear hrd
      go_wp2_with fail
      refine (passes_nil _ c A _ _ HRD.out).mono ?_
      rintro e w3 ⟨rfl, hb3⟩
      have q1 := (HRD.out.later hb3).c1
      have hb4 := below_later hb3 ((Below.refl w2.heap.size w2).alloc (Nat.le_refl _) (.cells #[.slice A 0 c, .int .i64 0, .int .i64 1, .int .i64 0, .map (some B)] 111))
      have hp := HP.out.later hb4
      have p0 := hp.c0
      have p1 := hp.c1
      have f0 := hp.free 0
      have f1 := hp.free 1
      have HBE := Lib.hid (below_later hb4 HB2.out)
      have hp := Lib.hid hp
      clear hb3 hb4
      go_wp2_with fail
      refine toks_end hp.out HBE.out rfl rfl rfl (fun hb => ⟨hb, ?_⟩)
      rw [HQ.out]
      exact ⟨_, rfl, World.ownsRow_nil _ _ _ _⟩
  have h0' : 0 < s.size := by omega
  go_enter Tryd.func46, Tryd.ntmps46
  go_wp2_with fail
  have hb0 : Below w.heap.size w (w.alloc (.cells #[.int .i64 0, .int .i64 0] 25)) := (Below.refl _ _).alloc (Nat.le_refl _) _
  refine (twords_any _ (HS.out.later hb0)).mono ?_
  rintro e w2 ⟨B, rfl, hB, hWM, hb2⟩
  have HWM := Lib.hid hWM
  have HB2 := Lib.hid hb2
  have hBl := hWM.lt
  have hsz : w.heap.size + 1 ≤ w2.heap.size := by have := hb2.size; simpa using this
  clear hWM hb2 hb0 hB hl
  go_wp2_with fail
  have hHA := HA.out h0'
  obtain ⟨b, o, rfl, hB⟩ := hHA
  have hbl : b < w.heap.size := World.block_lt_of_cell? _ _ (hB 0 h0')
  have htl : TL s w2.heap.size b o c B 0 1 0 (.slice none 0 0) [] w (w2.alloc (.cells #[.slice (some ⟨b, o, none⟩) s.size c, .int .i64 0, .int .i64 1, .int .i64 0, .map (some B)] 111)) := by
    have hb3 : Below w2.heap.size w2 (w2.alloc (.cells #[.slice (some ⟨b, o, none⟩) s.size c, .int .i64 0, .int .i64 1, .int .i64 0, .map (some B)] 111)) := (Below.refl _ _).alloc (Nat.le_refl _) _
    have hbw : Below w.heap.size w w2 := below_later HB2.out ((Below.refl _ _).alloc (Nat.le_refl _) _)
    exact ⟨(MapKept.heap_alloc w2 _).1, bytes_later hB (below_later hb3 hbw), HWM.out.later hb3, ((pl2_alloc w 0 0).later HB2.out).later hb3, World.ownsRow_nil _ _ _ _, below_later hb3 hbw⟩
  have HTL := Lib.hid htl
  have hBr : B ≠ w2.heap.size := by omega
  have hr0 : w.heap.size < w2.heap.size := by omega
  clear htl hB HA HB2 HWM hsz hBl
  generalize w2.alloc (.cells #[.slice (some ⟨b, o, none⟩) s.size c, .int .i64 0, .int .i64 1, .int .i64 0, .map (some B)] 111) = W at HTL ⊢
  generalize w2.heap.size = r at *
  go_loopg [6] s.size (fun g v wx => ∃ (k : Nat) (p : Nat × Nat) (acc : List (Tx.Tk × (Nat × Nat))) (u : Value), g = s.size - k ∧ v = u ∧ k ≤ s.size ∧ acc.length ≤ k ∧ p.1 ≤ k + 1 ∧ 1 ≤ p.2 ∧ p.2 ≤ k + 1 ∧ Hid (Tx.So s.data.toList k p acc) ∧ Hid (TL s r b o c B k p.1 ((k : Int) + 1 - p.2) u acc w wx))
  case atStart => exact ⟨0, (1, 1), [], _, rfl, rfl, Nat.zero_le _, Nat.le_refl _, by simp, by simp, by simp, Lib.hid (Tx.So.start _), HTL⟩
  case round =>
    clear HTL
    obtain ⟨k, p, acc, u, rfl, rfl, hk, hal, hp1, hp2, hp3, HSO, HTL⟩ := hrel
    go_wp2_with fail
    refine (passes_any s r b o c _ k p _ HTL.out.rd HTL.out.byt (by omega) hc hk ⟨hp1, hp2, hp3⟩ (by omega)).mono ?_
    rintro e w3 ⟨k2, line, beg, rfl, hpas, hbeh, hrd, hkeep⟩
    have HTL2 := Lib.hid (HTL.out.keep hkeep hbl hBr hr0 hrd)
    have hle := hpas.le
    have hlk : k2 ≤ s.size := by have := hpas.lk; rw [size_list] at this; exact this
    have hln := hpas.l1
    have hl0 := hpas.l0
    have hg0 := hpas.b0
    have hg1 := hpas.b1
    have HPA := Lib.hid hpas
    have HBE := Lib.hid hbeh
    clear HTL hkeep hrd hpas hbeh
    have q1 := HTL2.out.rd.c1
    by_cases hend : k2 = s.size
    · have HQ := Lib.hid (HSO.out.done HBE.out (by rw [size_list]; omega))
      have e1 : (((k2 : Nat) : Int) == ((s.size : Nat) : Int)) = true := by simp [hend]
      have p0 := HTL2.out.res.c0
      have p1 := HTL2.out.res.c1
      have f0 := HTL2.out.res.free 0
      have f1 := HTL2.out.res.free 1
      clear hend
      go_wp2_with fail
      refine toks_end HTL2.out.res HTL2.out.bel rfl rfl rfl (fun hb => ⟨hb, ?_⟩)
      unfold Tx.toks
      rw [if_neg (by rw [size_list]; omega), HQ.out]
      exact ⟨_, rfl, set2_own (w := w) HTL2.out.own HTL2.out.res⟩
    · have e1 : (((k2 : Nat) : Int) == ((s.size : Nat) : Int)) = false := by simp; omega
      have hlt : k2 < s.size := by omega
      clear hend
      go_wp2_with fail
      refine (place_any r _ _ _ _ _ _ HTL2.out.rd (by omega) ⟨hg0, hg1⟩).mono ?_
      rintro e w4 ⟨rfl, hb4⟩
      have HTL3 := Lib.hid ((HTL2.out.later hb4).later ((Below.refl _ _).alloc (Nat.le_refl _) (.cells #[.int .i64 line, .int .i64 ((k2 : Int) - beg + 1)] 25)))
      have HPL := Lib.hid (pl2_alloc w4 line ((k2 : Int) - beg + 1))
      have hr4 : r < w4.heap.size := by have := HTL2.out.rd.lt; have := hb4.size; omega
      have hw4 : w.heap.size < w4.heap.size := by omega
      clear HTL2 hb4 q1
      go_wp2_with fail
      refine (token_any s r b o c B k2 line beg _ HTL3.out.rd HTL3.out.byt (by omega) HTL3.out.wm hBr hc hlt ⟨hg0, hg1⟩ (by omega)).mono ?_
      generalize w4.alloc (.cells #[.int .i64 line, .int .i64 ((k2 : Int) - beg + 1)] 25) = W5 at HTL3 HPL ⊢
      generalize w4.heap.size = G at *
      rintro e w6 hres
      unfold TokenRes at hres
      cases ho : Tx.one (s.data.toList.drop k2) with
      | error x =>
        rw [ho] at hres
        obtain ⟨rfl, hkeep⟩ := hres
        have hx := Tx.one_err ho
        have HQ := Lib.hid (HSO.out.bad HBE.out (by rw [size_list]; omega) (e := x) (by rw [show k + (k2 - k) = k2 by omega]; exact ho))
        have HPL2 := Lib.hid (HPL.out.keep hkeep (by omega))
        have HRS := Lib.hid (HTL3.out.res.keep hkeep (by omega))
        have HBW := Lib.hid (HTL3.out.bel.keepTo hkeep (by omega))
        have ex := neq_lit (n := x) (z := 0) (by omega)
        have HX := Lib.hid ho
        clear hkeep HTL3 HPL ho hx
        unfold noT
        go_wp2_with fail
        have hba : Below w6.heap.size w6 (w6.alloc (.cells #[.int .i8 0, .int .i64 0, .string { data := #[] }, .int .i64 0, .int .i64 0] 60)) := (Below.refl _ _).alloc (Nat.le_refl _) _
        have HPL3 := Lib.hid (HPL2.out.later hba)
        have HRS3 := Lib.hid (HRS.out.later hba)
        have HBW3 := Lib.hid (below_later hba HBW.out)
        clear hba HPL2 HRS HBW
        generalize w6.alloc (.cells #[.int .i8 0, .int .i64 0, .string { data := #[] }, .int .i64 0, .int .i64 0] 60) = W7 at HPL3 HRS3 HBW3 ⊢
        have p0 := HPL3.out.c0
        have p1 := HPL3.out.c1
        go_still_tail 4, (by kernel_rfl)
        change wpList _ _ _ _ _ W7.drew
        clear p0 p1
        have r0 := (HRS3.out.later (Below.refl _ _).drew).c0
        have r1 := (HRS3.out.later (Below.refl _ _).drew).c1
        have f0 := (HRS3.out.later (Below.refl _ _).drew).free 0
        have f1 := (HRS3.out.later (Below.refl _ _).drew).free 1
        have HRS4 := Lib.hid (HRS3.out.later (Below.refl _ _).drew)
        have HBW4 := Lib.hid HBW3.out.drew
        clear HRS3 HBW3 HPL3
        generalize W7.drew = W8 at *
        go_wp2_with fail
        refine toks_end (v := .slice none 0 0) (x := x) HRS4.out HBW4.out rfl rfl rfl (fun hb => ⟨hb, ?_⟩)
        unfold Tx.toks
        rw [if_neg (by rw [size_list]; omega), HQ.out]
        have e1 := HPA.out.pl1
        have e2 := HPA.out.pl2
        simp only
        rw [e1, show (k2 : Int) - beg + 1 = ((Tx.further p ((s.data.toList.drop k).take (k2 - k))).2 : Int) by omega]
      | ok p2 =>
        obtain ⟨t, n⟩ := p2
        rw [ho] at hres
        obtain ⟨rfl, hrd, hkeep⟩ := hres
        have hbn := Tx.one_bounds ho
        rw [List.length_drop, size_list] at hbn
        have HSO2 := Lib.hid (HSO.out.next HBE.out (by rw [size_list]; omega) (t := t) (m := n) (by rw [show k + (k2 - k) = k2 by omega]; exact ho))
        have HTL4 := Lib.hid (HTL3.out.keep hkeep hbl hBr hr0 hrd)
        have HX := Lib.hid ho
        clear hkeep HTL3 HPL ho hrd
        have hown := HTL4.out.own.alloc (.cells #[.int .i8 t.kind, .int .i64 t.n, .string (bs t.s), .int .i64 line, .int .i64 ((k2 : Int) - beg + 1)] 60)
        go_wp2_with (at_builtin; refine append_agg rfl (.tmp 40) (.tmp 42) 61 60 rfl w.heap.size _ 5 48 Tryd.underlying61 tok_info rfl (by decide) _ _ _ rfl hown [.int .i8 t.kind, .int .i64 t.n, .string (bs t.s), .int .i64 line, .int .i64 ((k2 : Int) - beg + 1)] rfl (w6.heap.size + 1) rfl (by simp) ?_ ?_ ?_ ?_ ?_)
        · intro u hu; simp at hu; rcases hu with rfl | rfl | rfl | rfl | rfl <;> rfl
        · omega
        · omega
        · have := HTL4.out.bel.size; simp; omega
        intro v' w7 hown' hg hb'
        have hba : Below w6.heap.size w6 (w6.alloc (.cells #[.int .i8 t.kind, .int .i64 t.n, .string (bs t.s), .int .i64 line, .int .i64 ((k2 : Int) - beg + 1)] 60)) := (Below.refl _ _).alloc (Nat.le_refl _) _
        have HTL5 := HTL4.out.later hba
        have hflat : tflat (acc ++ [(t, Tx.further p ((s.data.toList.drop k).take (k2 - k)))]) = tflat acc ++ [.int .i8 t.kind, .int .i64 t.n, .string (bs t.s), .int .i64 line, .int .i64 ((k2 : Int) - beg + 1)] := by
          have e1 := HPA.out.pl1
          have e2 := HPA.out.pl2
          unfold tflat
          rw [List.flatMap_append]
          simp only [List.flatMap_cons, List.flatMap_nil, List.append_nil, tcells]
          rw [e1, show (k2 : Int) - beg + 1 = ((Tx.further p ((s.data.toList.drop k).take (k2 - k))).2 : Int) by omega]
        have HTL6 : Hid (TL s r b o c B (k2 + n) line beg v' (acc ++ [(t, Tx.further p ((s.data.toList.drop k).take (k2 - k)))]) w w7) :=
          Lib.hid ⟨HTL5.rd.row hg (own_ne HTL5.own HTL5.rd.norow), bytes_row HTL4.out.byt (below_later hba HTL4.out.bel) hb' hbl HTL5.byt, HTL5.wm.row hg (own_ne HTL5.own HTL5.wm.norow), HTL5.res.row hg (own_ne HTL5.own HTL5.res.norow), by rw [List.length_append, hflat]; exact hown', (below_later hba HTL4.out.bel).trans hb'⟩
        have e1 := HPA.out.pl1
        have e2 := HPA.out.pl2
        have hbeh := HBE.out
        clear hown hown' hg hb' hba HTL5 hflat HTL4
        go_wp2_with fail
        go_roundg (s.size - (k2 + n))
        case rel =>
          have e3 : k + (k2 - k) = k2 := by omega
          have hso := HSO2.out
          rw [e3] at hso
          have h6 := HTL6.out
          rw [e1, show beg = (((k2 + n : Nat) : Int) + 1 - (((Tx.further p ((s.data.toList.drop k).take (k2 - k))).2 + n : Nat) : Int)) by omega] at h6
          refine ⟨k2 + n, ((Tx.further p ((s.data.toList.drop k).take (k2 - k))).1, (Tx.further p ((s.data.toList.drop k).take (k2 - k))).2 + n), acc ++ [(t, Tx.further p ((s.data.toList.drop k).take (k2 - k)))], v', rfl, rfl, by omega, by rw [List.length_append, List.length_singleton]; omega, ?_, ?_, ?_, Lib.hid hso, Lib.hid h6⟩
          · simp only; omega
          · simp only; omega
          · simp only; omega
        case measure => omega
end Go.Proofs.YtnhdbjhdmdefmaaDoor
