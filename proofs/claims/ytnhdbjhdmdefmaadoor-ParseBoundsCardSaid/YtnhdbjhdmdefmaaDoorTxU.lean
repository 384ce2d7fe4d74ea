
/- Walks of package text: the reader takes a token. -/
import Derived.Test.YtnhdbjhdmdefmaaDoorTxT
import Derived.StillTailTactics
namespace Go.Proofs.YtnhdbjhdmdefmaaDoor
set_option linter.unusedSimpArgs false
set_option linter.unusedVariables false
open Go.RowKit Go.Maps Culp

theorem Rd.other {r g i : Nat} {v m u : Value} {at_ line beg : Int} {w : World} (h : Rd r v at_ line beg m w) (hne : r ≠ g) : Rd r v at_ line beg m (w.setCell ⟨g, i, none⟩ u) := by
  unfold Rd at h ⊢
  rw [Below.heap_setCell _ _ _ _ hne]; exact h
theorem Keep.setNew {r g : Nat} {a w : World} (h : Keep r a w) (hg : a.heap.size ≤ g) (i : Nat) (u : Value) : Keep r a (w.setCell ⟨g, i, none⟩ u) :=
  ⟨h.os, h.tape, h.output, by have := h.size; simpa [World.setCell] using this, fun k hk hne => by rw [Below.heap_setCell _ _ _ _ (show k ≠ g by omega)]; exact h.block k hk hne⟩
/-- A token as it lies in memory. -/
def Tok5 (g : Nat) (k n : Int) (s : ByteArray) (l c : Int) (w : World) : Prop := w.heap[g]? = some (.cells #[.int .i8 k, .int .i64 n, .string s, .int .i64 l, .int .i64 c] 60 (0, 0))
section
variable {g : Nat} {k n l c : Int} {s : ByteArray} {w w' : World}
theorem Tok5.lt (h : Tok5 g k n s l c w) : g < w.heap.size := by
  rcases Nat.lt_or_ge g w.heap.size with hlt | hge
  · exact hlt
  · unfold Tok5 at h; rw [Array.getElem?_eq_none hge] at h; cases h
theorem Tok5.c0 (h : Tok5 g k n s l c w) : w.cell? ⟨g, 0, none⟩ = some (.int .i8 k) := by unfold Tok5 at h; simp [World.cell?, h]
theorem Tok5.c1 (h : Tok5 g k n s l c w) : w.cell? ⟨g, 1, none⟩ = some (.int .i64 n) := by unfold Tok5 at h; simp [World.cell?, h]
theorem Tok5.c2 (h : Tok5 g k n s l c w) : w.cell? ⟨g, 2, none⟩ = some (.string s) := by unfold Tok5 at h; simp [World.cell?, h]
theorem Tok5.c3 (h : Tok5 g k n s l c w) : w.cell? ⟨g, 3, none⟩ = some (.int .i64 l) := by unfold Tok5 at h; simp [World.cell?, h]
theorem Tok5.c4 (h : Tok5 g k n s l c w) : w.cell? ⟨g, 4, none⟩ = some (.int .i64 c) := by unfold Tok5 at h; simp [World.cell?, h]
theorem Tok5.free (h : Tok5 g k n s l c w) (i : Nat) : w.frozen? ⟨g, i, none⟩ = false := by unfold Tok5 at h; simp [World.frozen?, h]
theorem Tok5.later (h : Tok5 g k n s l c w) (hb : Below w.heap.size w w') : Tok5 g k n s l c w' := (hb.block g h.lt).trans h
end
theorem tok5_alloc (w : World) (k n : Int) (s : ByteArray) (l c : Int) : Tok5 w.heap.size k n s l c (w.alloc (.cells #[.int .i8 k, .int .i64 n, .string s, .int .i64 l, .int .i64 c] 60)) := (MapKept.heap_alloc w _).1
def noT : Value := .agg #[.int .i8 0, .int .i64 0, .string { data := #[] }, .int .i64 0, .int .i64 0]
/-- What token answers. -/
def TokenRes (s : ByteArray) (r : Nat) (v m : Value) (at_ : Nat) (line beg : Int) (w : World) (e : Ending) (w' : World) : Prop :=
  match Tx.one (s.data.toList.drop at_) with
  | .ok (t, n) => e = .returned (.tuple #[.agg #[.int .i8 t.kind, .int .i64 t.n, .string (bs t.s), .int .i64 line, .int .i64 ((at_ : Int) - beg + 1)], .int .i64 0]) ∧ Rd r v ((at_ + n : Nat) : Int) line beg m w' ∧ Keep r w w'
  | .error c => e = .returned (.tuple #[noT, .int .i64 c]) ∧ Keep r w w'

/-- The reader and a token in the making, all that they lean on. -/
structure TS (s : ByteArray) (r b o c B : Nat) (at_ : Nat) (line beg : Int) (g0 G : Nat) (k n : Int) (t : ByteArray) (l cc : Int) (w W : World) : Prop where
  rd : Rd r (.slice (some ⟨b, o, none⟩) s.size c) at_ line beg (.map (some B)) W
  tok : Tok5 G k n t l cc W
  res : Tok5 g0 0 0 { data := #[] } 0 0 W
  byt : Lib.Bytes W b o s
  wm : WordsMap W B
  kp : Keep r w W
section
variable {s : ByteArray} {r b o c B at_ : Nat} {line beg : Int} {g0 G : Nat} {k n : Int} {t : ByteArray} {l cc : Int} {w W W' : World}
theorem TS.later (h : TS s r b o c B at_ line beg g0 G k n t l cc w W) (hb : Below W.heap.size W W') : TS s r b o c B at_ line beg g0 G k n t l cc w W' :=
  ⟨h.rd.later hb, h.tok.later hb, h.res.later hb, bytes_later h.byt hb, h.wm.later hb, h.kp.trans (Keep.of hb)⟩
theorem TS.drew (h : TS s r b o c B at_ line beg g0 G k n t l cc w W) : TS s r b o c B at_ line beg g0 G k n t l cc w W.drew := h.later ((Below.refl _ _).drew)
/-- A token's cell is written. -/
theorem TS.put (h : TS s r b o c B at_ line beg g0 G k n t l cc w W) (hr : r < w.heap.size) (hG : w.heap.size ≤ G) (h0 : g0 ≠ G) (hb : b < w.heap.size) (hB : B < w.heap.size) {i : Nat} {u : Value} {k' n' : Int} {t' : ByteArray} {l' c' : Int}
    (hT : Tok5 G k' n' t' l' c' (W.setCell ⟨G, i, none⟩ u)) : TS s r b o c B at_ line beg g0 G k' n' t' l' c' w (W.setCell ⟨G, i, none⟩ u) := by
  refine ⟨h.rd.other (by omega), hT, ?_, fun j hj => ?_, h.wm.same (Below.heap_setCell _ _ _ _ (show B ≠ G by omega)), Keep.setNew h.kp hG i u⟩
  · have := h.res
    unfold Tok5 at this ⊢
    rw [Below.heap_setCell _ _ _ _ (show g0 ≠ G by omega)]; exact this
  · rw [World.cell?_of_block (w := W) (Below.heap_setCell _ _ _ _ (show b ≠ G by omega))]
    exact h.byt j hj
theorem Tok5.put0 (h : Tok5 G k n t l cc W) (x : Int) : Tok5 G x n t l cc (W.setCell ⟨G, 0, none⟩ (.int .i8 x)) := by
  unfold Tok5 at h ⊢
  simp [World.setCell, Array.getElem?_modify, h]
theorem Tok5.put1 (h : Tok5 G k n t l cc W) (x : Int) : Tok5 G k x t l cc (W.setCell ⟨G, 1, none⟩ (.int .i64 x)) := by
  unfold Tok5 at h ⊢
  simp [World.setCell, Array.getElem?_modify, h]
theorem Tok5.put2 (h : Tok5 G k n t l cc W) (x : ByteArray) : Tok5 G k n x l cc (W.setCell ⟨G, 2, none⟩ (.string x)) := by
  unfold Tok5 at h ⊢
  simp [World.setCell, Array.getElem?_modify, h]
end

/-- A whole token is written. -/
def set5 (g : Nat) (k n : Int) (s : ByteArray) (l c : Int) (W : World) : World := ((((W.setCell ⟨g, 0, none⟩ (.int .i8 k)).setCell ⟨g, 1, none⟩ (.int .i64 n)).setCell ⟨g, 2, none⟩ (.string s)).setCell ⟨g, 3, none⟩ (.int .i64 l)).setCell ⟨g, 4, none⟩ (.int .i64 c)
theorem set5_tok {g : Nat} {k n l c k' n' l' c' : Int} {s s' : ByteArray} {W : World} (h : Tok5 g k n s l c W) : Tok5 g k' n' s' l' c' (set5 g k' n' s' l' c' W) := by
  unfold Tok5 set5 at *
  simp [World.setCell, Array.getElem?_modify, h]
theorem set5_keep {r g : Nat} {k n l c : Int} {s : ByteArray} {w W : World} (h : Keep r w W) (hg : w.heap.size ≤ g) : Keep r w (set5 g k n s l c W) := by
  unfold set5
  exact Keep.setNew (Keep.setNew (Keep.setNew (Keep.setNew (Keep.setNew h hg _ _) hg _ _) hg _ _) hg _ _) hg _ _
theorem set5_rd {r g : Nat} {k n l c : Int} {s : ByteArray} {v m : Value} {at_ line beg : Int} {W : World} (h : Rd r v at_ line beg m W) (hne : r ≠ g) : Rd r v at_ line beg m (set5 g k n s l c W) := by
  unfold set5
  exact ((((h.other hne).other hne).other hne).other hne).other hne
section
variable {s : ByteArray} {r b o c B at_ m : Nat} {line beg : Int} {g0 G : Nat} {k n : Int} {t : ByteArray} {l cc : Int} {w W W' : World} {tmps : Array Value}
/-- The reader goes on. -/
theorem TS.step (h : TS s r b o c B at_ line beg g0 G k n t l cc w W) (hr : r < w.heap.size) (hG : w.heap.size ≤ G) (h0 : w.heap.size ≤ g0) (hb : b ≠ r) (hB : B ≠ r) (m : Nat) :
    TS s r b o c B (at_ + m) line beg g0 G k n t l cc w (W.setCell ⟨r, 1, none⟩ (.int .i64 ((at_ : Int) + m))) := by
  have e : ∀ g, g ≠ r → (W.setCell ⟨r, 1, none⟩ (.int .i64 ((at_ : Int) + m))).heap[g]? = W.heap[g]? := fun g hg => Below.heap_setCell _ _ _ _ hg
  refine ⟨?_, ?_, ?_, fun j hj => ?_, h.wm.same (e B hB), h.kp.setCell 1 _⟩
  · have := h.rd.set1 ((at_ : Int) + m)
    rw [show (((at_ + m : Nat)) : Int) = (at_ : Int) + m by omega]
    exact this
  · have := h.tok; unfold Tok5 at this ⊢; rw [e G (by omega)]; exact this
  · have := h.res; unfold Tok5 at this ⊢; rw [e g0 (by omega)]; exact this
  · rw [World.cell?_of_block (w := W) (e b hb)]; exact h.byt j hj
theorem token_ok (h : TS s r b o c B (at_ + m) line beg g0 G k n t l cc w W) (hr : r < w.heap.size) (h0 : w.heap.size ≤ g0) {tk : Tx.Tk} (ho : Tx.one (s.data.toList.drop at_) = .ok (tk, m)) (hk : k = tk.kind) (hn : n = tk.n) (ht : t = bs tk.s) (hl : l = line) (hcc : cc = (at_ : Int) - beg + 1)
    (h2 : tmps.getD 2 undef = .pointer (some ⟨g0, 0, none⟩)) (h3 : tmps.getD 3 undef = .int .i64 0) :
    bodyPost Tryd.prog Tryd.f64 (TokenRes s r (.slice (some ⟨b, o, none⟩) s.size c) (.map (some B)) at_ line beg w) .ret ⟨tmps, []⟩ (set5 g0 k n t l cc W) := by
  rw [Array.getD_eq_getD_getElem?] at h2 h3
  have hT := set5_tok (k' := k) (n' := n) (s' := t) (l' := l) (c' := cc) h.res
  have hK := set5_keep (k := k) (n := n) (s := t) (l := l) (c := cc) h.kp h0
  have hR := set5_rd (k := k) (n := n) (s := t) (l := l) (c := cc) h.rd (show r ≠ g0 by omega)
  generalize set5 g0 k n t l cc W = W2 at *
  refine bodyPost_ret (v := .tuple #[.agg #[.int .i8 k, .int .i64 n, .string t, .int .i64 l, .int .i64 cc], .int .i64 0]) (by simp [results, Tryd.results64, go_sem, h2, h3, hT.c0, hT.c1, hT.c2, hT.c3, hT.c4]) rfl ?_
  unfold TokenRes
  rw [ho]
  exact ⟨by rw [hk, hn, ht, hl, hcc], hR, hK⟩
theorem token_bad (h : TS s r b o c B at_ line beg g0 G k n t l cc w W) (h0 : w.heap.size ≤ g0) {x : Nat} {y : Int} (ho : Tx.one (s.data.toList.drop at_) = .error x) (hy : y = x)
    (h2 : tmps.getD 2 undef = .pointer (some ⟨g0, 0, none⟩)) (h3 : tmps.getD 3 undef = .int .i64 y) :
    bodyPost Tryd.prog Tryd.f64 (TokenRes s r (.slice (some ⟨b, o, none⟩) s.size c) (.map (some B)) at_ line beg w) .ret ⟨tmps, []⟩ (set5 g0 0 0 { data := #[] } 0 0 W) := by
  rw [Array.getD_eq_getD_getElem?] at h2 h3
  have hT := set5_tok (k' := 0) (n' := 0) (s' := { data := #[] }) (l' := 0) (c' := 0) h.res
  have hK := set5_keep (k := 0) (n := 0) (s := { data := #[] }) (l := 0) (c := 0) h.kp h0
  generalize set5 g0 0 0 { data := #[] } 0 0 W = W2 at *
  refine bodyPost_ret (v := .tuple #[noT, .int .i64 y]) (by simp [results, noT, Tryd.results64, go_sem, h2, h3, hT.c0, hT.c1, hT.c2, hT.c3, hT.c4]) rfl ?_
  unfold TokenRes
  rw [ho]
  exact ⟨by rw [hy], hK⟩
end

set_option maxRecDepth 100000 in
set_option maxHeartbeats 3200000 in
theorem token_any (s : ByteArray) (r b o c B : Nat) (at_ : Nat) (line beg : Int) (w : World) (hr : Rd r (.slice (some ⟨b, o, none⟩) s.size c) at_ line beg (.map (some B)) w) (hB : Lib.Bytes w b o s) (hne : b ≠ r) (hW : WordsMap w B) (hBr : B ≠ r) (hc : s.size ≤ c) (hat : at_ < s.size)
    (hbeg : 0 ≤ beg ∧ beg ≤ at_) (hs : s.size ≤ 65536) :
    Calls Tryd.prog 64 #[.pointer (some ⟨r, 0, none⟩)] w (TokenRes s r (.slice (some ⟨b, o, none⟩) s.size c) (.map (some B)) at_ line beg w) := by
  have HR := Lib.hid hr
  have HB := Lib.hid hB
  have HW := Lib.hid hW
  have HNE := Lib.hid hne
  have HBR := Lib.hid hBr
  have hrlt := hr.lt
  clear hr hB hW hne hBr
  go_enter Tryd.func64, Tryd.ntmps64
  go_wp2_with fail
  have hb0 : Below w.heap.size w (w.alloc (.cells #[.int .i8 0, .int .i64 0, .string { data := #[] }, .int .i64 0, .int .i64 0] 60)) := (Below.refl _ _).alloc (Nat.le_refl _) _
  refine (place_any r _ _ at_ line beg _ (HR.out.later hb0) (by omega) hbeg).mono ?_
  rintro e w2 ⟨rfl, hb2⟩
  go_wp2_with fail
  have hts : TS s r b o c B at_ line beg w.heap.size w2.heap.size 0 0 { data := #[] } line ((at_ : Int) - beg + 1) w (w2.alloc (.cells #[.int .i8 0, .int .i64 0, .string { data := #[] }, .int .i64 line, .int .i64 ((at_ : Int) - beg + 1)] 60)) := by
    have hbw : Below w.heap.size w w2 := below_later hb2 hb0
    have hbz : Below w2.heap.size w2 (w2.alloc (.cells #[.int .i8 0, .int .i64 0, .string { data := #[] }, .int .i64 line, .int .i64 ((at_ : Int) - beg + 1)] 60)) := (Below.refl _ _).alloc (Nat.le_refl _) _
    have hball := below_later hbz hbw
    refine ⟨HR.out.later hball, ?_, ?_, bytes_later HB.out hball, HW.out.later hball, Keep.of hball⟩
    · exact tok5_alloc _ _ _ _ _ _
    · have : Tok5 w.heap.size 0 0 { data := #[] } 0 0 (w.alloc (.cells #[.int .i8 0, .int .i64 0, .string { data := #[] }, .int .i64 0, .int .i64 0] 60)) := tok5_alloc _ _ _ _ _ _
      exact (this.later hb2).later hbz
  have hG : w.heap.size < w2.heap.size := by have := hb2.size; simp at this; omega
  have hBl := HW.out.lt
  have hbl : b < w.heap.size := World.block_lt_of_cell? _ _ (HB.out 0 (by omega))
  have HTS := Lib.hid hts
  clear hts hb2 hb0
  generalize hW2 : w2.alloc (.cells #[.int .i8 0, .int .i64 0, .string { data := #[] }, .int .i64 line, .int .i64 ((at_ : Int) - beg + 1)] 60) = W at HTS ⊢
  generalize w2.heap.size = G at *
  clear hW2
  have q0 := HTS.out.rd.c0
  have q1 := HTS.out.rd.c1
  have hcell := HTS.out.byt at_ hat
  refine wp_region_plan (S := fun w' => w'.cell? ⟨r, 0, none⟩ = some (.slice (some ⟨b, o, none⟩) s.size c) ∧ w'.cell? ⟨r, 1, none⟩ = some (.int .i64 at_) ∧ w'.cell? ⟨b, o + at_, none⟩ = some (.int .u8 s[at_].toNat))
    [(0, true), (1, true), (2, true), (3, true), (4, true), (5, true), (6, true), (7, true), (8, true), (9, true), (10, true)] (by kernel_rfl) (by kernel_rfl) (by kernel_rfl) (fun _ _ _ _ _ h => h) ⟨q0, q1, hcell⟩ ?_
  intro HS
  repeat (first | (apply wpPlan_look; rfl; rfl; (intro wq hq; (try dsimp only at hq); go_split_ands; go_simp; (try rw [if_neg (by omega)]); (try rw [if_pos (by omega)]); try with_reducible rfl); simp only [Act.put, List.setIfInBounds_toArray, List.set_cons_zero, List.set_cons_succ]) | (apply wpPlan_skip; rfl; rfl; simp only [Act.put, List.setIfInBounds_toArray, List.set_cons_zero, List.set_cons_succ]) | (apply wpPlan_pass; rfl; rfl; assumption; simp only [Act.put, List.setIfInBounds_toArray, List.set_cons_zero, List.set_cons_succ]))
  apply wpPlan_done
  have HTS := Lib.hid HTS.out.drew
  clear q0 q1 hcell HS
  generalize W.drew = W at HTS ⊢
  have hdr : s.data.toList.drop at_ = s[at_] :: s.data.toList.drop (at_ + 1) := Tx.drop1 (l := s.data.toList) (by rw [size_list]; exact hat)
  have HD := Lib.hid hdr
  have hl := size_list s
  have hrunl : (Tx.run (s.data.toList.drop at_)).length ≤ 65536 := by
    have := Tx.run_len (s.data.toList.drop at_)
    rw [List.length_drop] at this; omega
  clear hdr hl
  cases hlet : Tx.letter s[at_]
  case true =>
    have HL := Lib.hid hlet
    have HI := Lib.hid (Tx.letter_inner hlet)
    clear hlet
    go_wp2_with fail
    refine (tletter_any s[at_] _).mono ?_
    rw [HL.out]
    rintro e w' ⟨rfl, rfl⟩
    go_wp2_with fail
    refine (trun_any s r b o c _ at_ line beg _ HTS.out.rd HTS.out.byt hc hat HI.out (by omega)).mono ?_
    rintro e W1 ⟨rfl, hb1⟩
    have HTS := Lib.hid (HTS.out.later hb1)
    clear hb1
    have t0 := HTS.out.tok.c0
    have t2 := HTS.out.tok.c2
    have f0 := HTS.out.tok.free 0
    have f2 := HTS.out.tok.free 2
    go_wp2_with fail
    have HTS2 := Lib.hid ((HTS.out.put hrlt (by omega) (by omega) hbl hBl (HTS.out.tok.put0 2)).put hrlt (by omega) (by omega) hbl hBl ((HTS.out.tok.put0 2).put2 (bs (Tx.run (s.data.toList.drop at_)))))
    clear HTS t0 t2 f0 f2
    generalize hx : bs (Tx.run (s.data.toList.drop at_)) = t at *
    have hts : t.size = (Tx.run (s.data.toList.drop at_)).length := by rw [← hx]; rfl
    have htl : t.data.toList = Tx.run (s.data.toList.drop at_) := by rw [← hx]; rfl
    have HX := Lib.hid hx
    have HTZ := Lib.hid hts
    have hkey : keyOf Tryd.prog 9 (.string t) = some (.string t.data.toList) := Go.WideMaps.keyOf_string_mk Tryd.underlying9 (by rw [hts]; unfold maxLen; omega)
    obtain ⟨cw, hlk, hat2, _⟩ := HTS2.out.drew.wm.lookup_int lawS Tryd.underlying108 Tryd.underlying3 (zeroI _) hkey
    obtain ⟨hcw0, hcw⟩ := wordsD_is _ hat2
    rw [htl] at hcw
    have HCW := Lib.hid hcw
    have q4 := HTS2.out.rd.c4
    have t2 := HTS2.out.tok.c2
    have HLK := Lib.hid hlk
    clear hx hts htl hkey hat2 hcw hlk
    generalize (W1.setCell ⟨G, 0, none⟩ (.int .i8 2)).setCell ⟨G, 2, none⟩ (.string t) = W at *
    refine wp_region_plan (S := fun w' => w'.cell? ⟨r, 4, none⟩ = some (.map (some B)) ∧ w'.cell? ⟨G, 2, none⟩ = some (.string t) ∧ (Instr.lookup 108 (.map (some B)) (.string t) false).run Tryd.prog w' = .ok (.int .i64 cw) w')
      [(0, true), (1, true), (2, true), (3, true), (4, true), (5, true), (6, true), (7, true)] (by kernel_rfl) (by kernel_rfl) (by kernel_rfl) (fun _ _ _ _ _ h => h) ⟨q4, t2, HLK.out⟩ ?_
    intro HS
    repeat (first | (apply wpPlan_look; rfl; rfl; (intro wq hq; (try dsimp only at hq); go_split_ands; go_simp; (try rw [if_neg (by omega)]); (try rw [if_pos (by omega)]); try with_reducible rfl); simp only [Act.put, List.setIfInBounds_toArray, List.set_cons_zero, List.set_cons_succ]) | (apply wpPlan_skip; rfl; rfl; simp only [Act.put, List.setIfInBounds_toArray, List.set_cons_zero, List.set_cons_succ]) | (apply wpPlan_pass; rfl; rfl; assumption; simp only [Act.put, List.setIfInBounds_toArray, List.set_cons_zero, List.set_cons_succ]))
    apply wpPlan_done
    have HTS := Lib.hid HTS2.out.drew
    clear q4 t2 HS HLK HTS2
    generalize W.drew = W at HTS ⊢
    have t0 := HTS.out.tok.c0
    have t2 := HTS.out.tok.c2
    have f0 := HTS.out.tok.free 0
    cases hw : Tx.isWord (Tx.run (s.data.toList.drop at_))
    case true =>
      have hcp : 0 < cw := by have := HCW.out; rw [hw] at this; exact of_decide_eq_true this
      have HWD := Lib.hid hw
      clear hw
      by_cases h32 : t.size ≤ 32
      · have HO : Hid (Tx.one (s.data.toList.drop at_) = .ok (⟨1, 0, Tx.run (s.data.toList.drop at_)⟩, t.size)) := Lib.hid (by
          have := Tx.one_word (l := s.data.toList.drop (at_ + 1)) HL.out (by rw [← HD.out, ← HTZ.out]; exact h32)
          rw [← HD.out, HWD.out, ← HTZ.out] at this
          simpa using this)
        go_wp2_with fail
        have HTS := Lib.hid (HTS.out.put hrlt (by omega) (by omega) hbl hBl (HTS.out.tok.put0 1))
        clear t0 t2 f0
        have q1 := HTS.out.rd.c1
        have t2 := HTS.out.tok.c2
        have w1 : IntKind.i64.wrap ((at_ : Int) + (t.size : Int)) = (at_ : Int) + (t.size : Int) := IntWalk.i64_in _ (by omega)
        generalize hWn : W.setCell ⟨G, 0, none⟩ (.int .i8 1) = W at HTS q1 t2 ⊢
        clear hWn
        go_still_tail 10, (by kernel_rfl)
        change wpList _ _ _ _ _ W.drew
        clear q1 t2 w1
        have HTS := Lib.hid HTS.out.drew
        generalize W.drew = W at HTS ⊢
        have q1 := HTS.out.rd.c1
        have q5 := HTS.out.rd.free 1
        have t0 := HTS.out.tok.c0
        have t1 := HTS.out.tok.c1
        have t2 := HTS.out.tok.c2
        have t3 := HTS.out.tok.c3
        have t4 := HTS.out.tok.c4
        have e0 := HTS.out.res.c0
        have e1 := HTS.out.res.c1
        have e2 := HTS.out.res.c2
        have e3 := HTS.out.res.c3
        have e4 := HTS.out.res.c4
        have g0 := HTS.out.res.free 0
        have g1 := HTS.out.res.free 1
        have g2 := HTS.out.res.free 2
        have g3 := HTS.out.res.free 3
        have g4 := HTS.out.res.free 4
        have d1 : ¬ G = r := by omega
        have d2 : ¬ r = G := by omega
        have d3 : ¬ w.heap.size = r := by omega
        have d4 : ¬ r = w.heap.size := by omega
        go_wp2_with fail
        exact token_ok (HTS.out.step hrlt (by omega) (Nat.le_refl _) HNE.out HBR.out _) hrlt (Nat.le_refl _) HO.out rfl rfl HX.out.symm rfl rfl rfl rfl
      · have HO : Hid (Tx.one (s.data.toList.drop at_) = .error 12) := Lib.hid (by rw [HD.out, Tx.one, if_pos HL.out, if_neg (by rw [← HD.out, ← HTZ.out]; exact h32)])
        have e0 := HTS.out.res.c0
        have e1 := HTS.out.res.c1
        have e2 := HTS.out.res.c2
        have e3 := HTS.out.res.c3
        have e4 := HTS.out.res.c4
        have g0 := HTS.out.res.free 0
        have g1 := HTS.out.res.free 1
        have g2 := HTS.out.res.free 2
        have g3 := HTS.out.res.free 3
        have g4 := HTS.out.res.free 4
        go_wp2_with fail
        have HTS := Lib.hid (HTS.out.put hrlt (by omega) (by omega) hbl hBl (HTS.out.tok.put0 1))
        exact token_bad HTS.out (Nat.le_refl _) HO.out rfl rfl rfl
    case false =>
      have hcp : cw ≤ 0 := by
        have := HCW.out; rw [hw] at this
        have := of_decide_eq_false this
        omega
      have HWD := Lib.hid hw
      clear hw
      by_cases h32 : t.size ≤ 32
      · have HO : Hid (Tx.one (s.data.toList.drop at_) = .ok (⟨2, 0, Tx.run (s.data.toList.drop at_)⟩, t.size)) := Lib.hid (by
          have := Tx.one_word (l := s.data.toList.drop (at_ + 1)) HL.out (by rw [← HD.out, ← HTZ.out]; exact h32)
          rw [← HD.out, HWD.out, ← HTZ.out] at this
          simpa using this)
        go_wp2_with fail
        skip
        clear t0 t2 f0
        have q1 := HTS.out.rd.c1
        have t2 := HTS.out.tok.c2
        have w1 : IntKind.i64.wrap ((at_ : Int) + (t.size : Int)) = (at_ : Int) + (t.size : Int) := IntWalk.i64_in _ (by omega)
        generalize hWn : W = W at HTS q1 t2 ⊢
        clear hWn
        go_still_tail 10, (by kernel_rfl)
        change wpList _ _ _ _ _ W.drew
        clear q1 t2 w1
        have HTS := Lib.hid HTS.out.drew
        generalize W.drew = W at HTS ⊢
        have q1 := HTS.out.rd.c1
        have q5 := HTS.out.rd.free 1
        have t0 := HTS.out.tok.c0
        have t1 := HTS.out.tok.c1
        have t2 := HTS.out.tok.c2
        have t3 := HTS.out.tok.c3
        have t4 := HTS.out.tok.c4
        have e0 := HTS.out.res.c0
        have e1 := HTS.out.res.c1
        have e2 := HTS.out.res.c2
        have e3 := HTS.out.res.c3
        have e4 := HTS.out.res.c4
        have g0 := HTS.out.res.free 0
        have g1 := HTS.out.res.free 1
        have g2 := HTS.out.res.free 2
        have g3 := HTS.out.res.free 3
        have g4 := HTS.out.res.free 4
        have d1 : ¬ G = r := by omega
        have d2 : ¬ r = G := by omega
        have d3 : ¬ w.heap.size = r := by omega
        have d4 : ¬ r = w.heap.size := by omega
        go_wp2_with fail
        exact token_ok (HTS.out.step hrlt (by omega) (Nat.le_refl _) HNE.out HBR.out _) hrlt (Nat.le_refl _) HO.out rfl rfl HX.out.symm rfl rfl rfl rfl
      · have HO : Hid (Tx.one (s.data.toList.drop at_) = .error 12) := Lib.hid (by rw [HD.out, Tx.one, if_pos HL.out, if_neg (by rw [← HD.out, ← HTZ.out]; exact h32)])
        have e0 := HTS.out.res.c0
        have e1 := HTS.out.res.c1
        have e2 := HTS.out.res.c2
        have e3 := HTS.out.res.c3
        have e4 := HTS.out.res.c4
        have g0 := HTS.out.res.free 0
        have g1 := HTS.out.res.free 1
        have g2 := HTS.out.res.free 2
        have g3 := HTS.out.res.free 3
        have g4 := HTS.out.res.free 4
        go_wp2_with fail
        skip
        exact token_bad HTS.out (Nat.le_refl _) HO.out rfl rfl rfl
  case false =>
    have HL := Lib.hid hlet
    clear hlet
    cases hdig : Tx.digit s[at_]
    case true =>
      have HG := Lib.hid hdig
      have HI := Lib.hid (Tx.digit_inner hdig)
      clear hdig
      go_wp2_with fail
      refine (tletter_any s[at_] _).mono ?_
      rw [HL.out]
      rintro e w' ⟨rfl, rfl⟩
      go_wp2_with fail
      refine (tdigit_any s[at_] _).mono ?_
      rw [HG.out]
      rintro e w' ⟨rfl, rfl⟩
      go_wp2_with fail
      refine (trun_any s r b o c _ at_ line beg _ HTS.out.rd HTS.out.byt hc hat HI.out (by omega)).mono ?_
      rintro e W1 ⟨rfl, hb1⟩
      have HTS := Lib.hid (HTS.out.later hb1)
      clear hb1
      have hrp : 0 < (Tx.run (s.data.toList.drop at_)).length := by
        rw [HD.out]; unfold Tx.run; rw [List.takeWhile_cons, if_pos HI.out]; simp
      generalize hx : bs (Tx.run (s.data.toList.drop at_)) = t at *
      have hts : t.size = (Tx.run (s.data.toList.drop at_)).length := by rw [← hx]; rfl
      have htl : t.data.toList = Tx.run (s.data.toList.drop at_) := by rw [← hx]; rfl
      have ht0 : 0 < t.size := by omega
      have ht1 : t.size ≤ 65536 := by omega
      have HTZ := Lib.hid hts
      have HTL := Lib.hid htl
      clear hx hts htl hrp
      go_wp2_with fail
      refine (number_any t _ ht0 ht1 (by rw [HTL.out]; exact Tx.run_inner _)).mono ?_
      rintro e w' ⟨rfl, rfl⟩
      cases hwo : Tx.worth (Tx.run (s.data.toList.drop at_))
      case none =>
        have HO : Hid (Tx.one (s.data.toList.drop at_) = .error 13) := Lib.hid (by rw [HD.out, Tx.one, if_neg (by rw [HL.out]; simp), if_pos HG.out, ← HD.out, hwo])
        have HV := Lib.hid (numV_none hwo)
        have HWO := Lib.hid hwo
        clear hwo
        rw [HTL.out, HV.out, HWO.out]
        have e0 := HTS.out.res.c0
        have e1 := HTS.out.res.c1
        have e2 := HTS.out.res.c2
        have e3 := HTS.out.res.c3
        have e4 := HTS.out.res.c4
        have g0 := HTS.out.res.free 0
        have g1 := HTS.out.res.free 1
        have g2 := HTS.out.res.free 2
        have g3 := HTS.out.res.free 3
        have g4 := HTS.out.res.free 4
        go_wp2_with fail
        exact token_bad HTS.out (Nat.le_refl _) HO.out rfl rfl rfl
      case some n =>
        have HO : Hid (Tx.one (s.data.toList.drop at_) = .ok (⟨3, n, []⟩, t.size)) := Lib.hid (by
          have := Tx.one_num (l := s.data.toList.drop (at_ + 1)) HG.out (n := n) (by rw [← HD.out]; exact hwo)
          rw [← HD.out, ← HTZ.out] at this
          exact this)
        have HV := Lib.hid (numV_some hwo)
        have HWO := Lib.hid hwo
        clear hwo
        rw [HTL.out, HV.out, HWO.out]
        have t0 := HTS.out.tok.c0
        have t1 := HTS.out.tok.c1
        have t2 := HTS.out.tok.c2
        have t3 := HTS.out.tok.c3
        have t4 := HTS.out.tok.c4
        have f0 := HTS.out.tok.free 0
        have f1 := HTS.out.tok.free 1
        have q1 := HTS.out.rd.c1
        have q5 := HTS.out.rd.free 1
        have e0 := HTS.out.res.c0
        have e1 := HTS.out.res.c1
        have e2 := HTS.out.res.c2
        have e3 := HTS.out.res.c3
        have e4 := HTS.out.res.c4
        have g0 := HTS.out.res.free 0
        have g1 := HTS.out.res.free 1
        have g2 := HTS.out.res.free 2
        have g3 := HTS.out.res.free 3
        have g4 := HTS.out.res.free 4
        have d1 : ¬ G = r := by omega
        have d2 : ¬ r = G := by omega
        have d3 : ¬ w.heap.size = r := by omega
        have d4 : ¬ r = w.heap.size := by omega
        have d5 : ¬ w.heap.size = G := by omega
        have d6 : ¬ G = w.heap.size := by omega
        go_wp2_with fail
        exact token_ok (((HTS.out.put hrlt (by omega) (by omega) hbl hBl (HTS.out.tok.put0 3)).put hrlt (by omega) (by omega) hbl hBl ((HTS.out.tok.put0 3).put1 n)).step hrlt (by omega) (Nat.le_refl _) HNE.out HBR.out _) hrlt (Nat.le_refl _) HO.out rfl rfl rfl rfl rfl rfl rfl
    case false =>
      have HG := Lib.hid hdig
      clear hdig
      have hds : s.data.toList.drop at_ = (bs (s.data.toList.drop at_)).data.toList := rfl
      have hsz : (bs (s.data.toList.drop at_)).size = s.size - at_ := by rw [bs_size, List.length_drop, size_list]
      have hbd : ∀ W, Lib.Bytes W b o s → BytesV W (.slice (some ⟨b, o + at_, none⟩) (s.size - at_) (c - at_)) (bs (s.data.toList.drop at_)) := fun W hW => by
        refine ⟨_, _, by rw [hsz], by rw [hsz]; omega, fun _ => ⟨b, o + at_, rfl, fun i hi => ?_⟩⟩
        have hi2 : at_ + i < s.size := by rw [hsz] at hi; omega
        have := hW (at_ + i) hi2
        rw [← Nat.add_assoc] at this
        rw [this]
        congr 3
        have e1 : (bs (s.data.toList.drop at_))[i] = (s.data.toList.drop at_)[i]'(by rw [← bs_size]; exact hi) := rfl
        rw [e1, List.getElem_drop]
        rfl
      have HSZ := Lib.hid hsz
      have HBD := Lib.hid hbd
      clear hds hsz hbd
      have q0 := HTS.out.rd.c0
      have q1 := HTS.out.rd.c1
      by_cases c34 : s[at_].toNat = 34
      · have e34 := eq_lit (n := s[at_].toNat) (z := 34) (by omega)
        have HQ := Lib.hid c34
        clear c34
        go_wp2_with fail
        refine (tletter_any s[at_] _).mono ?_
        rw [HL.out]
        rintro e w' ⟨rfl, rfl⟩
        go_wp2_with fail
        refine (tdigit_any s[at_] _).mono ?_
        rw [HG.out]
        rintro e w' ⟨rfl, rfl⟩
        go_wp2_with fail
        refine wp_region_plan (S := fun w' => w'.cell? ⟨r, 0, none⟩ = some (.slice (some ⟨b, o, none⟩) s.size c) ∧ w'.cell? ⟨r, 1, none⟩ = some (.int .i64 at_))
          [(0, true), (1, true), (2, true), (3, true), (4, true), (5, true), (6, true), (7, true), (8, true), (9, false), (10, true), (11, true), (12, true), (13, true), (14, true), (15, true), (16, true)] (by kernel_rfl) (by kernel_rfl) (by kernel_rfl) (fun _ _ _ _ _ h => h) ⟨q0, q1⟩ ?_
        intro HS
        repeat (first | (apply wpPlan_look; rfl; rfl; (intro wq hq; (try dsimp only at hq); go_split_ands; go_simp; (try rw [if_neg (by omega)]); (try rw [if_pos (by omega)]); try with_reducible rfl); simp only [Act.put, List.setIfInBounds_toArray, List.set_cons_zero, List.set_cons_succ]) | (apply wpPlan_skip; rfl; rfl; simp only [Act.put, List.setIfInBounds_toArray, List.set_cons_zero, List.set_cons_succ]) | (apply wpPlan_pass; rfl; rfl; assumption; simp only [Act.put, List.setIfInBounds_toArray, List.set_cons_zero, List.set_cons_succ]))
        have hq := tquoted_any (bs (s.data.toList.drop at_)) (.slice (some ⟨b, o + at_, none⟩) (s.size - at_) (c - at_)) W.drew (HBD.out _ HTS.out.drew.byt) (by rw [HSZ.out]; omega) (by rw [HSZ.out]; omega)
        apply wpPlan_call; rfl; rfl; rfl; rfl; kernel_rfl; exact hq; (first | rfl | (simp [Act.eval]; omega))
        clear hq
        rintro e W1 ⟨hb1, hres⟩
        have HTS1 := Lib.hid (HTS.out.drew.later hb1)
        clear HTS hb1 q0 q1 HS
        rw [bs_list] at hres
        cases hu : Tx.unq ((s.data.toList.drop at_).drop 1) with
        | none =>
          rw [hu] at hres
          obtain ⟨x, y, rfl⟩ := hres
          have HO : Hid (Tx.one (s.data.toList.drop at_) = .error 14) := Lib.hid (by
            have := Tx.one_text_no (l := s.data.toList.drop (at_ + 1)) HQ.out (by rw [HD.out] at hu; exact hu)
            rw [HD.out]; exact this)
          clear hu
          refine ⟨_, rfl, as_S ⟨HTS1.out.rd.c0, HTS1.out.rd.c1⟩ ?_⟩
          intro HS
          simp only [Act.put, List.setIfInBounds_toArray, List.set_cons_zero, List.set_cons_succ]
          repeat (first | (apply wpPlan_look; rfl; rfl; (intro wq hq; (try dsimp only at hq); go_split_ands; go_simp; (try rw [if_neg (by omega)]); (try rw [if_pos (by omega)]); try with_reducible rfl); simp only [Act.put, List.setIfInBounds_toArray, List.set_cons_zero, List.set_cons_succ]) | (apply wpPlan_skip; rfl; rfl; simp only [Act.put, List.setIfInBounds_toArray, List.set_cons_zero, List.set_cons_succ]) | (apply wpPlan_pass; rfl; rfl; assumption; simp only [Act.put, List.setIfInBounds_toArray, List.set_cons_zero, List.set_cons_succ]))
          apply wpPlan_done
          have HTS := HTS1
          have e0 := HTS.out.res.c0
          have e1 := HTS.out.res.c1
          have e2 := HTS.out.res.c2
          have e3 := HTS.out.res.c3
          have e4 := HTS.out.res.c4
          have g0 := HTS.out.res.free 0
          have g1 := HTS.out.res.free 1
          have g2 := HTS.out.res.free 2
          have g3 := HTS.out.res.free 3
          have g4 := HTS.out.res.free 4
          go_wp2_with fail
          exact token_bad HTS.out (Nat.le_refl _) HO.out rfl rfl rfl
        | some p =>
          obtain ⟨t, k⟩ := p
          rw [hu] at hres
          simp only [Nat.zero_add] at hres
          have hub := Tx.unq_bounds _ _ _ hu
          have hkl : k ≤ 65536 := by have := hub.2.1; rw [List.length_drop, List.length_drop, size_list] at this; omega
          have HU := Lib.hid hu
          clear hu hub
          by_cases h64 : t.length ≤ 64
          · have HO : Hid (Tx.one (s.data.toList.drop at_) = .ok (⟨4, 0, t⟩, k + 1)) := Lib.hid (by
              have := Tx.one_text (l := s.data.toList.drop (at_ + 1)) HQ.out (s := t) (j := k) (by have := HU.out; rw [HD.out] at this; exact this) h64
              rw [HD.out]; exact this)
            rw [decide_eq_true h64] at hres
            subst hres
            refine ⟨_, rfl, as_S ⟨HTS1.out.rd.c0, HTS1.out.rd.c1⟩ ?_⟩
            intro HS
            simp only [Act.put, List.setIfInBounds_toArray, List.set_cons_zero, List.set_cons_succ]
            repeat (first | (apply wpPlan_look; rfl; rfl; (intro wq hq; (try dsimp only at hq); go_split_ands; go_simp; (try rw [if_neg (by omega)]); (try rw [if_pos (by omega)]); try with_reducible rfl); simp only [Act.put, List.setIfInBounds_toArray, List.set_cons_zero, List.set_cons_succ]) | (apply wpPlan_skip; rfl; rfl; simp only [Act.put, List.setIfInBounds_toArray, List.set_cons_zero, List.set_cons_succ]) | (apply wpPlan_pass; rfl; rfl; assumption; simp only [Act.put, List.setIfInBounds_toArray, List.set_cons_zero, List.set_cons_succ]))
            apply wpPlan_done
            have HTS := HTS1
            have t0 := HTS.out.tok.c0
            have t1 := HTS.out.tok.c1
            have t2 := HTS.out.tok.c2
            have t3 := HTS.out.tok.c3
            have t4 := HTS.out.tok.c4
            have f0 := HTS.out.tok.free 0
            have f2 := HTS.out.tok.free 2
            have q1 := HTS.out.rd.c1
            have q5 := HTS.out.rd.free 1
            have e0 := HTS.out.res.c0
            have e1 := HTS.out.res.c1
            have e2 := HTS.out.res.c2
            have e3 := HTS.out.res.c3
            have e4 := HTS.out.res.c4
            have g0 := HTS.out.res.free 0
            have g1 := HTS.out.res.free 1
            have g2 := HTS.out.res.free 2
            have g3 := HTS.out.res.free 3
            have g4 := HTS.out.res.free 4
            have d1 : ¬ G = r := by omega
            have d2 : ¬ r = G := by omega
            have d3 : ¬ w.heap.size = r := by omega
            have d4 : ¬ r = w.heap.size := by omega
            have d5 : ¬ w.heap.size = G := by omega
            have d6 : ¬ G = w.heap.size := by omega
            go_wp2_with fail
            exact token_ok (((HTS.out.put hrlt (by omega) (by omega) hbl hBl (HTS.out.tok.put0 4)).put hrlt (by omega) (by omega) hbl hBl ((HTS.out.tok.put0 4).put2 (bs t))).step hrlt (by omega) (Nat.le_refl _) HNE.out HBR.out (k + 1)) hrlt (Nat.le_refl _) HO.out rfl rfl rfl rfl rfl rfl rfl
          · have HO : Hid (Tx.one (s.data.toList.drop at_) = .error 14) := Lib.hid (by
              rw [HD.out, Tx.one, if_neg (by rw [HL.out]; simp), if_neg (by rw [HG.out]; simp), if_pos HQ.out]
              have := HU.out
              rw [HD.out] at this
              rw [show Tx.unq (s.data.toList.drop (at_ + 1)) = some (t, k) from this]
              simp only [if_neg h64])
            rw [decide_eq_false h64] at hres
            subst hres
            refine ⟨_, rfl, as_S ⟨HTS1.out.rd.c0, HTS1.out.rd.c1⟩ ?_⟩
            intro HS
            simp only [Act.put, List.setIfInBounds_toArray, List.set_cons_zero, List.set_cons_succ]
            repeat (first | (apply wpPlan_look; rfl; rfl; (intro wq hq; (try dsimp only at hq); go_split_ands; go_simp; (try rw [if_neg (by omega)]); (try rw [if_pos (by omega)]); try with_reducible rfl); simp only [Act.put, List.setIfInBounds_toArray, List.set_cons_zero, List.set_cons_succ]) | (apply wpPlan_skip; rfl; rfl; simp only [Act.put, List.setIfInBounds_toArray, List.set_cons_zero, List.set_cons_succ]) | (apply wpPlan_pass; rfl; rfl; assumption; simp only [Act.put, List.setIfInBounds_toArray, List.set_cons_zero, List.set_cons_succ]))
            apply wpPlan_done
            have HTS := HTS1
            have e0 := HTS.out.res.c0
            have e1 := HTS.out.res.c1
            have e2 := HTS.out.res.c2
            have e3 := HTS.out.res.c3
            have e4 := HTS.out.res.c4
            have g0 := HTS.out.res.free 0
            have g1 := HTS.out.res.free 1
            have g2 := HTS.out.res.free 2
            have g3 := HTS.out.res.free 3
            have g4 := HTS.out.res.free 4
            go_wp2_with fail
            exact token_bad HTS.out (Nat.le_refl _) HO.out rfl rfl rfl
      · have e34 := ne_lit (n := s[at_].toNat) (z := 34) (by omega)
        have HQ := Lib.hid c34
        clear c34
        go_wp2_with fail
        refine (tletter_any s[at_] _).mono ?_
        rw [HL.out]
        rintro e w' ⟨rfl, rfl⟩
        go_wp2_with fail
        refine (tdigit_any s[at_] _).mono ?_
        rw [HG.out]
        rintro e w' ⟨rfl, rfl⟩
        go_wp2_with fail
        refine wp_region_plan (S := fun w' => w'.cell? ⟨r, 0, none⟩ = some (.slice (some ⟨b, o, none⟩) s.size c) ∧ w'.cell? ⟨r, 1, none⟩ = some (.int .i64 at_))
          [(0, true), (1, true), (2, true), (3, true), (4, true), (5, true), (6, true), (7, true), (8, true), (10, true), (9, false), (11, false), (12, true), (13, false)] (by kernel_rfl) (by kernel_rfl) (by kernel_rfl) (fun _ _ _ _ _ h => h) ⟨q0, q1⟩ ?_
        intro HS
        repeat (first | (apply wpPlan_look; rfl; rfl; (intro wq hq; (try dsimp only at hq); go_split_ands; go_simp; (try rw [if_neg (by omega)]); (try rw [if_pos (by omega)]); try with_reducible rfl); simp only [Act.put, List.setIfInBounds_toArray, List.set_cons_zero, List.set_cons_succ]) | (apply wpPlan_skip; rfl; rfl; simp only [Act.put, List.setIfInBounds_toArray, List.set_cons_zero, List.set_cons_succ]) | (apply wpPlan_pass; rfl; rfl; assumption; simp only [Act.put, List.setIfInBounds_toArray, List.set_cons_zero, List.set_cons_succ]))
        have hq := tmark_any (bs (s.data.toList.drop at_)) (.slice (some ⟨b, o + at_, none⟩) (s.size - at_) (c - at_)) W.drew (HBD.out _ HTS.out.drew.byt) (by rw [HSZ.out]; omega) (by rw [HSZ.out]; omega)
        rw [bs_list] at hq
        apply wpPlan_call; rfl; rfl; rfl; rfl; kernel_rfl; exact hq; (first | rfl | (simp [Act.eval]; omega))
        clear hq
        rintro e W1 ⟨rfl, rfl⟩
        refine ⟨_, rfl, as_S HS ?_⟩
        clear HS
        intro HS
        simp only [Act.put, List.setIfInBounds_toArray, List.set_cons_zero, List.set_cons_succ]
        have HTS := Lib.hid HTS.out.drew
        generalize W.drew = W at HTS HS ⊢
        have t0 := HTS.out.tok.c0
        have f0 := HTS.out.tok.free 0
        have f2 := HTS.out.tok.free 2
        have hmk := (Tx.mark_len (s.data.toList.drop at_)).2
        have d1 : ¬ G = r := by omega
        have hx1 := HTS.out.put hrlt (by omega) (by omega) hbl hBl (HTS.out.tok.put0 5)
        have HX1 := Lib.hid hx1
        refine wpPlan_run0 rfl rfl (by simp [execOp, go_sem, t0, f0] <;> rfl) _ (fun _ h => h) ⟨hx1.rd.c0, hx1.rd.c1⟩ ?_
        clear hx1 HTS t0 f0 f2 HS q0 q1
        generalize W.setCell ⟨G, 0, none⟩ (.int .i8 5) = W at HX1 ⊢
        have HS := And.intro HX1.out.rd.c0 HX1.out.rd.c1
        simp only [Act.put, List.setIfInBounds_toArray, List.set_cons_zero, List.set_cons_succ]
        repeat (first | (apply wpPlan_look; rfl; rfl; (intro wq hq; (try dsimp only at hq); go_split_ands; go_simp; (try rw [if_neg (by omega)]); (try rw [if_pos (by omega)]); try with_reducible rfl); simp only [Act.put, List.setIfInBounds_toArray, List.set_cons_zero, List.set_cons_succ]) | (apply wpPlan_skip; rfl; rfl; simp only [Act.put, List.setIfInBounds_toArray, List.set_cons_zero, List.set_cons_succ]) | (apply wpPlan_pass; rfl; rfl; assumption; simp only [Act.put, List.setIfInBounds_toArray, List.set_cons_zero, List.set_cons_succ]))
        have t2 := HX1.out.tok.c2
        have f2 := HX1.out.tok.free 2
        have hx2 := HX1.out.put hrlt (by omega) (by omega) hbl hBl (HX1.out.tok.put2 (bs (Tx.mark (s.data.toList.drop at_))))
        have HX2 := Lib.hid hx2
        refine wpPlan_run0 rfl rfl (by simp [execOp, go_sem, t2, f2] <;> rfl) _ (fun _ h => h) ⟨hx2.rd.c0, hx2.rd.c1⟩ ?_
        clear hx2 HX1 t2 f2 HS
        generalize W.setCell ⟨G, 2, none⟩ (.string (bs (Tx.mark (s.data.toList.drop at_)))) = W at HX2 ⊢
        simp only [Act.put, List.setIfInBounds_toArray, List.set_cons_zero, List.set_cons_succ]
        apply wpPlan_done
        have HTS := HX2
        have t2 := HTS.out.tok.c2
        by_cases hm : Tx.mark (s.data.toList.drop at_) = []
        · have HO : Hid (Tx.one (s.data.toList.drop at_) = .error 11) := Lib.hid (by
            have := hm
            rw [HD.out] at this
            rw [HD.out, Tx.one, if_neg (by rw [HL.out]; simp), if_neg (by rw [HG.out]; simp), if_neg HQ.out, if_pos this])
          have em : ((bs (Tx.mark (s.data.toList.drop at_))).toList == []) = true := by rw [beq_bs, hm]; rfl
          clear hm
          have e0 := HTS.out.res.c0
          have e1 := HTS.out.res.c1
          have e2 := HTS.out.res.c2
          have e3 := HTS.out.res.c3
          have e4 := HTS.out.res.c4
          have g0 := HTS.out.res.free 0
          have g1 := HTS.out.res.free 1
          have g2 := HTS.out.res.free 2
          have g3 := HTS.out.res.free 3
          have g4 := HTS.out.res.free 4
          go_wp2_with fail
          exact token_bad HTS.out (Nat.le_refl _) HO.out rfl rfl rfl
        · have HO : Hid (Tx.one (s.data.toList.drop at_) = .ok (⟨5, 0, Tx.mark (s.data.toList.drop at_)⟩, (bs (Tx.mark (s.data.toList.drop at_))).size)) := Lib.hid (by
            have := hm
            rw [HD.out] at this
            have := Tx.one_mark HL.out HG.out HQ.out this
            rw [← HD.out] at this
            exact this)
          have em : ((bs (Tx.mark (s.data.toList.drop at_))).toList == []) = false := by
            rw [beq_bs]
            cases hx : Tx.mark (s.data.toList.drop at_) with
            | nil => exact absurd hx hm
            | cons a l => rfl
          have hms : (bs (Tx.mark (s.data.toList.drop at_))).size ≤ 2 := by rw [bs_size]; exact hmk
          clear hm
          generalize hx : bs (Tx.mark (s.data.toList.drop at_)) = t at *
          have HX := Lib.hid hx
          clear hx
          go_wp2_with fail
          have q1 := HTS.out.rd.c1
          have w1 : IntKind.i64.wrap ((at_ : Int) + (t.size : Int)) = (at_ : Int) + (t.size : Int) := IntWalk.i64_in _ (by omega)
          go_still_tail 10, (by kernel_rfl)
          change wpList _ _ _ _ _ W.drew
          clear q1 t2 w1
          have HTS := Lib.hid HTS.out.drew
          generalize W.drew = W at HTS ⊢
          have q1 := HTS.out.rd.c1
          have q5 := HTS.out.rd.free 1
          have t0 := HTS.out.tok.c0
          have t1 := HTS.out.tok.c1
          have t2 := HTS.out.tok.c2
          have t3 := HTS.out.tok.c3
          have t4 := HTS.out.tok.c4
          have e0 := HTS.out.res.c0
          have e1 := HTS.out.res.c1
          have e2 := HTS.out.res.c2
          have e3 := HTS.out.res.c3
          have e4 := HTS.out.res.c4
          have g0 := HTS.out.res.free 0
          have g1 := HTS.out.res.free 1
          have g2 := HTS.out.res.free 2
          have g3 := HTS.out.res.free 3
          have g4 := HTS.out.res.free 4
          have d1 : ¬ G = r := by omega
          have d2 : ¬ r = G := by omega
          have d3 : ¬ w.heap.size = r := by omega
          have d4 : ¬ r = w.heap.size := by omega
          go_wp2_with fail
          exact token_ok (HTS.out.step hrlt (by omega) (Nat.le_refl _) HNE.out HBR.out _) hrlt (Nat.le_refl _) HO.out rfl rfl HX.out.symm rfl rfl rfl rfl
end Go.Proofs.YtnhdbjhdmdefmaaDoor
