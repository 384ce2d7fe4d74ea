
/- Walks of erase: Keep. -/
import Derived.Test.YtidholghbjljaaaGreatDoorWu
namespace Culp.Er
set_option linter.unusedSimpArgs false
set_option linter.unusedVariables false
open Culp
theorem keep_le {keep : List Bool} {S : List Sl} {f : Pos → ByteArray} : ∀ k, (keepAt keep S f k).1 ≤ k
  | 0 => Nat.le_refl _
  | k + 1 => by
    have ih := keep_le (keep := keep) (S := S) (f := f) k
    cases h : S[k]? with
    | none =>
      have hl : S.length ≤ k := List.getElem?_eq_none_iff.1 h
      unfold keepAt at ih ⊢
      rw [List.take_of_length_le (by omega)] at ih ⊢
      omega
    | some s =>
      rw [keep_step h]
      unfold stepK
      split
      · show _ + 1 ≤ _
        omega
      · omega
end Culp.Er
namespace Go.Proofs.YtidholghbjljaaaGreatDoor
set_option linter.unusedSimpArgs false
set_option linter.unusedVariables false
open Go.RowKit Culp Culp.Er
/-- A slice of truths. -/
def BoolsAt (w : World) (b o : Nat) (l : List Bool) : Prop := ∀ j x, l[j]? = some x → w.cell? ⟨b, o + j, none⟩ = some (.bool x)
/-- What holds while annotations are taken away. -/
structure KeepI (sk : Sk) (L : List Md) (f : Pos → ByteArray) (keep : List Bool) (H kc kb bb bo : Nat) (A : Option Addr) (c : Nat) (W0 : World) (k : Nat) (W : World) : Prop where
  cCount : One kc 3 (.int .i64 ((keepAt keep (slots L) f k).1 : Nat)) W
  cKeep : W.cell? ⟨kb, 0, none⟩ = some (.slice A keep.length c)
  bools : BoolsAt W bb bo keep
  own : OwnSt sk L H (keepAt keep (slots L) f k).2 W
  below : Below H W0 W
section
variable {sk : Sk} {L : List Md} {f : Pos → ByteArray} {keep : List Bool} {H K kc kb bb bo c : Nat} {A : Option Addr} {W0 W W' : World} {k : Nat}
theorem BoolsAt.stay {w w' : World} {K : Nat} (h : BoolsAt w bb bo keep) (hk : 0 < keep.length → bb < K) (hb : Below K w w') : BoolsAt w' bb bo keep := fun j x hj => by
  have := (List.getElem?_eq_some_iff.1 hj).1
  rw [hb.cell (p := ⟨bb, bo + j, none⟩) (hk (by omega))]; exact h j x hj
theorem KeepI.keep' (h : KeepI sk L f keep H kc kb bb bo A c W0 k W) (hu : Under sk K L) (hkc : kc < K) (hkb : kb < K) (hbb : 0 < keep.length → bb < K) (hH : H ≤ K) (hbl : Below K W W') : KeepI sk L f keep H kc kb bb bo A c W0 k W' :=
  ⟨h.cCount.keep hbl hkc, by rw [hbl.cell (p := ⟨kb, 0, none⟩) hkb]; exact h.cKeep, h.bools.stay hbb hbl, h.own.keep hu hbl, h.below.trans (hbl.mono hH)⟩
/-- Only a cell over H and a row's block have changed. -/
theorem KeepI.next (h : KeepI sk L f keep H kc kb bb bo A c W0 k W) (hkc : H ≤ kc) (hkb : kb < H) (hbb : 0 < keep.length → bb < H) (hc : One kc 3 (.int .i64 ((keepAt keep (slots L) f (k + 1)).1 : Nat)) W') (ho : OwnSt sk L H (keepAt keep (slots L) f (k + 1)).2 W') (hbl : Below H W W') : KeepI sk L f keep H kc kb bb bo A c W0 (k + 1) W' :=
  ⟨hc, by rw [hbl.cell (p := ⟨kb, 0, none⟩) hkb]; exact h.cKeep, h.bools.stay hbb hbl, ho, h.below.trans hbl⟩
set_option maxRecDepth 100000 in
set_option maxHeartbeats 3200000 in
theorem keep1_any (s : Sl) (K0 : Nat) (hk : (slots L)[k]? = some s) (hkl : k ≤ 1000000000) (h : KeepI sk L f keep H kc kb bb bo A c W0 k W) (hA : 0 < keep.length → A = some ⟨bb, bo, none⟩) (hu : Under sk K0 L) (hkc : K0 ≤ kc) (hkb : kb < H) (hbb : 0 < keep.length → bb < H) (hHK : H ≤ K0) (hK : kc < K) (hKW : K ≤ W.heap.size) (hkp : keep.length ≤ 1000000000000000) :
    Calls Tryz.prog 69 #[.int .i64 k, slotV s ((keepAt keep (slots L) f k).2 s.pos), placeV sk s, .pointer (some ⟨kc, 0, none⟩), .pointer (some ⟨kb, 0, none⟩)] W fun e W' => e = .returned (.tuple #[]) ∧ Over K none W W' ∧ KeepI sk L f keep H kc kb bb bo A c W0 (k + 1) W' := by
  have hreal := slots_real (List.mem_of_getElem? hk)
  have hst : keepAt keep (slots L) f (k + 1) = stepK keep (keepAt keep (slots L) f k) s := keep_step hk
  have hle : (keepAt keep (slots L) f k).1 ≤ k := keep_le k
  have HB2 : Hid (∀ a b, Below W.heap.size W ((W.alloc a).alloc b)) := Lib.hid fun a b => below_two W a b
  have HI := Lib.hid h
  have hkcW : kc < W.heap.size := by omega
  have hkbW : kb < W.heap.size := by omega
  have HW := Lib.hid (written_any s ((keepAt keep (slots L) f k).2 s.pos))
  have HBX : Hid (∀ (t : ByteArray) (w1 : World), Below ((W.alloc (.cells (slotC s t).toArray 42)).alloc (.cells #[.pointer (some (addr sk s.pos)), .bool s.absent] 98)).heap.size ((W.alloc (.cells (slotC s t).toArray 42)).alloc (.cells #[.pointer (some (addr sk s.pos)), .bool s.absent] 98)) w1 → w1.cell? ⟨W.heap.size + 1, 0, none⟩ = some (.pointer (some (addr sk s.pos))) ∧ w1.cell? ⟨W.heap.size + 1, 1, none⟩ = some (.bool s.absent)) := Lib.hid fun t w1 hb =>
    ⟨cell_later hb ((World.cell?_alloc_at _ _ _ _ (by rw [World.size_alloc])).trans rfl), cell_later hb ((World.cell?_alloc_at _ _ _ _ (by rw [World.size_alloc])).trans rfl)⟩
  have HST := Lib.hid hst
  have HR := Lib.hid hreal
  clear h hst hreal
  unfold slotV at HW ⊢
  unfold placeV
  go_enter Tryz.func69, Tryz.ntmps69
  go_wp2_with fail
  refine (HW.out _).mono ?_
  rintro e w1 ⟨rfl, hb1⟩
  obtain ⟨x0, x1⟩ := HBX.out _ w1 hb1
  have hb2 := below_later hb1 (HB2.out _ _)
  have H1 := Lib.hid (HI.out.keep' (K := W.heap.size) (hu.mono (by omega)) hkcW hkbW (fun h => by have := hbb h; omega) (by omega) hb2)
  have HB := Lib.hid hb2
  have c0 := H1.out.cCount.cell
  have c0f := H1.out.cCount.free
  have c1 := H1.out.cKeep
  have hs1 := hb2.size
  cases hw : isW ((keepAt keep (slots L) f k).2 s.pos) with
  | false =>
    have HE : Hid (keepAt keep (slots L) f (k + 1) = keepAt keep (slots L) f k) := Lib.hid (by
      rw [HST.out]
      unfold stepK
      rw [hw]
      rfl)
    clear hb1 hb2 HBX hw c0 c1 x0 x1 c0f
    go_wp2_with fail
    refine bodyPost_ret (v := .tuple #[]) (by simp [results, Tryz.results69, go_sem]) rfl ⟨rfl, ⟨hs1, fun b _ h2 _ => HB.out.block b h2⟩, ?_⟩
    refine HI.out.next (by omega) hkb hbb ?_ ?_ (HB.out.mono (by omega)) <;> rw [HE.out]
    · exact H1.out.cCount
    · exact H1.out.own
  | true =>
    have HE : Hid (keepAt keep (slots L) f (k + 1) = ((keepAt keep (slots L) f k).1 + 1, if keep[(keepAt keep (slots L) f k).1]? = some false then upd (keepAt keep (slots L) f k).2 s.pos (laid s no) else (keepAt keep (slots L) f k).2)) := Lib.hid (by
      rw [HST.out]
      unfold stepK
      rw [hw]
      rfl)
    have HF : Hid (∃ n g, n = (keepAt keep (slots L) f k).1 ∧ g = (keepAt keep (slots L) f k).2) := Lib.hid ⟨_, _, rfl, rfl⟩
    -- the count goes up
    have HEND : Hid (∀ w3 : World, w1.heap.size ≤ w3.heap.size → (∀ b, b < w1.heap.size → b < K0 ∨ w3.heap[b]? = w1.heap[b]?) → Below H w1 w3 → OwnSt sk L H (keepAt keep (slots L) f (k + 1)).2 w3 → One kc 3 (.int .i64 ((keepAt keep (slots L) f k).1 : Nat)) w3 → Over K none W (w3.setCell ⟨kc, 0, none⟩ (.int .i64 ((keepAt keep (slots L) f (k + 1)).1 : Nat))) ∧ KeepI sk L f keep H kc kb bb bo A c W0 (k + 1) (w3.setCell ⟨kc, 0, none⟩ (.int .i64 ((keepAt keep (slots L) f (k + 1)).1 : Nat)))) := Lib.hid fun w3 e1 e2 e3 e4 e5 => by
      refine ⟨⟨by rw [World.size_setCell]; omega, fun b h1 h2 _ => ?_⟩, HI.out.next (by omega) hkb hbb (e5.put _) (e4.keep hu (below_setCell (Below.refl _ _) (by show K0 ≤ kc; omega))) (((HB.out.mono (by omega)).trans e3).trans (below_setCell (Below.refl _ _) (by show H ≤ kc; omega)))⟩
      rw [Below.heap_setCell _ _ _ _ (show b ≠ kc by omega)]
      rcases e2 b (by omega) with h3 | h3
      · omega
      · rw [h3]; exact HB.out.block b h2
    have hn1 : (((keepAt keep (slots L) f (k + 1)).1 : Nat) : Int) = ((keepAt keep (slots L) f k).1 : Int) + 1 := by rw [HE.out]; push_cast; rfl
    rw [hn1] at HEND
    have hn2 : (keepAt keep (slots L) f (k + 1)).2 = if keep[(keepAt keep (slots L) f k).1]? = some false then upd (keepAt keep (slots L) f k).2 s.pos (laid s no) else (keepAt keep (slots L) f k).2 := by rw [HE.out]
    have HN2 := Lib.hid hn2
    clear hn1 hn2 hb1 hb2 HBX hw HST HE HF
    by_cases hlt : (keepAt keep (slots L) f k).1 < keep.length
    · obtain rfl := hA (by omega)
      have hx : keep[(keepAt keep (slots L) f k).1]? = some keep[(keepAt keep (slots L) f k).1] := List.getElem?_eq_getElem hlt
      have q0 := H1.out.bools _ _ hx
      have HX := Lib.hid hx
      generalize keep[(keepAt keep (slots L) f k).1] = x at *
      clear hx
      cases x with
      | false =>
        have HO : Hid ((keepAt keep (slots L) f (k + 1)).2 = upd (keepAt keep (slots L) f k).2 s.pos (laid s no)) := Lib.hid (by rw [HN2.out, if_pos HX.out])
        have ha := H1.out.own.mat.cell HR.out
        have haf := H1.out.own.free HR.out
        have HA := Lib.hid (lay_any (addr sk s.pos) s.absent no _ w1 ha haf)
        unfold no at HA
        clear ha haf HN2 HX
        go_wp2_with fail
        refine HA.out.mono ?_
        rintro e w3 ⟨rfl, hb3⟩
        have hal := addr_lt hu HR.out
        have hlo := H1.out.own.low HR.out
        have ho3 : OwnSt sk L H (keepAt keep (slots L) f (k + 1)).2 w3 := by
          rw [HO.out]
          have h7 : OwnSt sk L H (upd (keepAt keep (slots L) f k).2 s.pos (laid s no)) (w1.setCell (addr sk s.pos) (.string (layV s.absent no))) := H1.out.own.lay HR.out
          exact h7.keep hu (hb3.mono (by omega))
        have hs3 := hb3.size
        rw [World.size_setCell] at hs3
        have e3 : ∀ b, b < w1.heap.size → b ≠ (addr sk s.pos).block → w3.heap[b]? = w1.heap[b]? := fun b h1 h2 => by
          rw [hb3.block b h1, Below.heap_setCell _ _ _ _ h2]
        have h5 : One kc 3 (.int .i64 ((keepAt keep (slots L) f k).1 : Nat)) w3 := (e3 kc (by omega) (by omega)).trans H1.out.cCount
        have HZ := Lib.hid (HEND.out w3 hs3 (fun b h1 => by
          by_cases hbk : b < K0
          · exact .inl hbk
          · exact .inr (e3 b h1 (by omega))) ⟨hb3.os, hb3.tape, hb3.output, hs3, fun b h1 => e3 b (by omega) (by omega)⟩ ho3 h5)
        have d0 := h5.cell
        have d0f := h5.free
        clear hb3 ho3 e3 h5 c0 c0f c1 x0 x1 q0 HEND HA HO
        go_wp2_with fail
        exact bodyPost_end (v := .tuple #[]) (by simp [results, Tryz.results69, go_sem]) rfl ⟨rfl, HZ.out⟩
      | true =>
        have ho3 : OwnSt sk L H (keepAt keep (slots L) f (k + 1)).2 w1 := by
          rw [HN2.out, if_neg (by rw [HX.out]; decide)]
          exact H1.out.own
        have HZ := Lib.hid (HEND.out w1 (Nat.le_refl _) (fun b _ => .inr rfl) (Below.refl _ _) ho3 H1.out.cCount)
        clear ho3 x0 x1 HEND HN2 HX
        go_wp2_with fail
        exact bodyPost_end (v := .tuple #[]) (by simp [results, Tryz.results69, go_sem]) rfl ⟨rfl, HZ.out⟩
    · have ho3 : OwnSt sk L H (keepAt keep (slots L) f (k + 1)).2 w1 := by
        rw [HN2.out, if_neg (by rw [List.getElem?_eq_none (by omega)]; decide)]
        exact H1.out.own
      have HZ := Lib.hid (HEND.out w1 (Nat.le_refl _) (fun b _ => .inr rfl) (Below.refl _ _) ho3 H1.out.cCount)
      clear ho3 x0 x1 HEND HN2
      go_wp2_with fail
      exact bodyPost_end (v := .tuple #[]) (by simp [results, Tryz.results69, go_sem]) rfl ⟨rfl, HZ.out⟩
set_option maxRecDepth 100000 in
theorem keep_each (A2 : Option Addr) (c2 K0 : Nat) (hA2 : 0 < L.length → A2 = some ⟨sk.b, sk.o, none⟩) (hc2 : L.length ≤ c2) (h : KeepI sk L (note L) keep H kc kb bb bo A c W0 0 W) (hA : 0 < keep.length → A = some ⟨bb, bo, none⟩) (hu : Under sk K0 L) (hkc : K0 ≤ kc) (hkb : kb < H) (hbb : 0 < keep.length → bb < H) (hHK : H ≤ K0) (hK : kc < W.heap.size) (hkp : keep.length ≤ 1000000000000000) (hS : Sp W) (hz : ∀ m ∈ L, MdSz m) (h0 : Mo.mods L = 0) :
    Calls Tryz.prog 37 #[.slice A2 L.length c2, .func (.func 69) #[] #[.pointer (some ⟨kc, 0, none⟩), .pointer (some ⟨kb, 0, none⟩)]] W fun e w' => e = .returned (.int .i64 0) ∧ KeepI sk L (note L) keep H kc kb bb bo A c W0 (slots L).length w' := by
  have hft := fits_of h0
  refine (each_ok sk L (fun k => (keepAt keep (slots L) (note L) k).2) A2 c2 hA2 hc2 hft 69 (by intro a b; rfl) _ _ hS (by show ∀ m ∈ lay (note L) L, MdSz m; rw [lay_note]; exact hz) (by show Mo.mods (lay (note L) L) = 0; rw [lay_note]; exact h0) (fun k o W => o = none ∧ KeepI sk L (note L) keep H kc kb bb bo A c W0 k W)
    (fun k o W g hI hg => by rw [hI.1] at hg; cases hg) (fun k o W W' hI hb _ => ⟨hI.1, hI.2.keep' (hu.mono (by omega)) hK (by omega) (fun h => by have := hbb h; omega) (by omega) hb⟩) (fun k o W hI => hI.2.own.mat) ⟨rfl, h⟩ ?_).mono ?_
  · intro k s o W1 hs hI hlt
    obtain ⟨rfl, hI⟩ := hI
    have hkl := (List.getElem?_eq_some_iff.1 hs).1
    refine (keep1_any s K0 hs (by have := hft.len; omega) hI hA hu hkc hkb hbb hHK hK hlt hkp).mono ?_
    rintro E W' ⟨rfl, h1, h2⟩
    exact ⟨rfl, h1, none, ⟨rfl, h2⟩, .inl rfl⟩
  · rintro E w' ⟨rfl, ⟨o, -, h1⟩, -⟩
    exact ⟨rfl, h1⟩
end
def Bools (w : World) (v : Value) (l : List Bool) : Prop := ∃ A c b o, v = .slice A l.length c ∧ (0 < l.length → A = some ⟨b, o, none⟩ ∧ b < w.heap.size) ∧ BoolsAt w b o l
theorem Bools.later {w w' : World} {v : Value} {l : List Bool} (h : Bools w v l) (hb : Below w.heap.size w w') : Bools w' v l := by
  obtain ⟨A, c, b, o, rfl, h1, h2⟩ := h
  exact ⟨A, c, b, o, rfl, fun h => ⟨(h1 h).1, Nat.lt_of_lt_of_le (h1 h).2 hb.size⟩, h2.stay (fun h => (h1 h).2) hb⟩
def KeepRes (L : List Md) (keep : List Bool) (w : World) (E : Ending) (w' : World) : Prop := Below w.heap.size w w' ∧
  ((Mo.mods L ≠ 0 ∧ E = .returned (.tuple #[.slice none 0 0, .int .i64 (Mo.mods L : Nat)])) ∨ (Mo.mods L = 0 ∧ (keepAt keep (slots L) (note L) (slots L).length).1 ≠ keep.length ∧ E = .returned (.tuple #[.slice none 0 0, .int .i64 1])) ∨
    (Mo.mods L = 0 ∧ (keepAt keep (slots L) (note L) (slots L).length).1 = keep.length ∧ ∃ v, E = .returned (.tuple #[v, .int .i64 0]) ∧ OutRes L (keepAt keep (slots L) (note L) (slots L).length).2 w.heap.size v w'))
set_option maxRecDepth 100000 in
set_option maxHeartbeats 3200000 in
theorem Keep_any (L : List Md) (v kv : Value) (keep : List Bool) (w : World) (hm : Mods w v L) (hk : Bools w kv keep) (hkp : keep.length ≤ 1000000000000000) (hS : Sp w) (hl : Lens L) (hz : ∀ m ∈ L, MdSz m) : Calls Tryz.prog 22 #[v, kv] w (KeepRes L keep w) := by
  obtain ⟨sk, hM, ⟨A, c, rfl, hc, hA⟩, hu⟩ := sk_of_mods hm
  obtain ⟨Ak, ck, bb, bo, rfl, hAk, hbo⟩ := hk
  have hb2 : Below w.heap.size w (w.alloc (.cells #[.slice Ak keep.length ck] 67)) := (Below.refl _ _).alloc (Nat.le_refl _) _
  have hsz2 : (w.alloc (.cells #[.slice Ak keep.length ck] 67)).heap.size = w.heap.size + 1 := World.size_alloc _ _
  have HC := Lib.hid (copied_any sk L (note L) A c (w.alloc (.cells #[.slice Ak keep.length ck] 67)) hA (hM.keep hu hb2) (hu.mono (by omega)) hl)
  have H0 : Hid ((w.alloc (.cells #[.slice Ak keep.length ck] 67)).cell? ⟨w.heap.size, 0, none⟩ = some (.slice Ak keep.length ck)) := Lib.hid ((World.cell?_alloc_at _ _ _ _ rfl).trans rfl)
  have H1 := Lib.hid (hbo.stay (fun h => (hAk h).2) hb2)
  have HB2 := Lib.hid hb2
  have HS := Lib.hid hS
  have HZ := Lib.hid hz
  have HL : Hid (L.length ≤ 1000000000000000) := Lib.hid (by have := hl.len; omega)
  have HSZ := Lib.hid hsz2
  have HAK := Lib.hid hAk
  have hcl : (keepAt keep (slots L) (note L) (slots L).length).1 ≤ (slots L).length := keep_le _
  clear hM hu hA hm hS hl hz hc hb2 hsz2 hAk hbo
  go_enter Tryz.func22, Tryz.ntmps22
  go_wp2_with fail
  refine HC.out.mono ?_
  rintro E w3 ⟨v3, sk3, rfl, ⟨A3, c3, rfl, hc3, hA3⟩, hb3, hM3, hX3, hV3⟩
  have HV3 := Lib.hid hV3
  clear hV3
  have hs3 := hb3.size
  rw [HSZ.out] at hs3
  have hq0 : w3.cell? ⟨w.heap.size, 0, none⟩ = some (.slice Ak keep.length ck) := cell_later hb3 H0.out
  have hq1 : BoolsAt w3 bb bo keep := H1.out.stay (fun h => by have := (HAK.out h).2; rw [HSZ.out]; omega) hb3
  rw [HSZ.out] at hb3 hX3
  have hb4 : Below w3.heap.size w3 (w3.alloc (.cells #[.int .i64 0] 3)) := (Below.refl _ _).alloc (Nat.le_refl _) _
  have HB4 : Hid (Below w.heap.size w (w3.alloc (.cells #[.int .i64 0] 3))) := Lib.hid ((HB2.out.trans (hb3.mono (by omega))).trans (hb4.mono (by omega)))
  have hu3 := hX3.under (by omega)
  have hI : KeepI sk3 L (note L) keep (w.heap.size + 1) w3.heap.size w.heap.size bb bo Ak ck _ 0 (w3.alloc (.cells #[.int .i64 0] 3)) := ⟨(MapKept.heap_alloc w3 _).1, cell_later hb4 hq0, hq1.stay (fun h => by have := (HAK.out h).2; omega) hb4, (OwnSt.mk hM3 hX3).keep hu3 hb4, hb3.trans (hb4.mono (by omega))⟩
  have hlt1 : w.heap.size < w3.heap.size := by omega
  by_cases h0 : Mo.mods L = 0
  · have HE := Lib.hid (keep_each A3 c3 w3.heap.size hA3 hc3 hI (fun h => (HAK.out h).1) hu3 (Nat.le_refl _) (by omega) (fun h => by have := (HAK.out h).2; omega) (by omega) (by rw [World.size_alloc]; omega) hkp (HS.out.later HB4.out) HZ.out h0)
    have HM0 := Lib.hid h0
    have hft := (fits_of h0).len
    have HA3 := Lib.hid hA3
    clear h0 hI hX3 hM3 hb3 hA3 HC hq0 hq1 hu3 hb4 H0 H1
    go_wp2_with fail
    refine HE.out.mono ?_
    rintro E w5 ⟨rfl, hI5⟩
    have c0 := hI5.cKeep
    have c1 := hI5.cCount.cell
    have HI5 := Lib.hid hI5
    have HB5 : Hid (Below w.heap.size w w5) := Lib.hid (HB2.out.trans (hI5.below.mono (by omega)))
    clear hI5 HE
    by_cases hn : (keepAt keep (slots L) (note L) (slots L).length).1 = keep.length
    · have i1 : (((keepAt keep (slots L) (note L) (slots L).length).1 : Int) == (keep.length : Int)) = true := beq_iff_eq.2 (by rw [hn])
      have HN := Lib.hid hn
      clear hn
      go_wp2_with fail
      refine bodyPost_ret (v := .tuple #[.slice A3 L.length c3, .int .i64 0]) (by simp [results, Tryz.results22, go_sem]) rfl ?_
      exact ⟨HB5.out, .inr (.inr ⟨HM0.out, HN.out, _, rfl, sk3, ⟨A3, c3, rfl, hc3, HA3.out⟩, HI5.out.own.low' (by omega), HV3.out⟩)⟩
    · have i1 : (((keepAt keep (slots L) (note L) (slots L).length).1 : Int) == (keep.length : Int)) = false := beq_eq_false_iff_ne.2 (by omega)
      have HN := Lib.hid hn
      clear hn
      go_wp2_with fail
      refine bodyPost_ret (v := .tuple #[.slice none 0 0, .int .i64 1]) (by simp [results, Tryz.results22, go_sem]) rfl ?_
      exact ⟨HB5.out, .inr (.inl ⟨HM0.out, HN.out, rfl⟩)⟩
  · have hmods : Mods (w3.alloc (.cells #[.int .i64 0] 3)) (.slice A3 L.length c3) L := by
      have := hI.own.mat.mods (v := .slice A3 L.length c3) ⟨A3, c3, rfl, hc3, hA3⟩
      have h2 : lay (keepAt keep (slots L) (note L) 0).2 L = L := lay_note L
      rwa [h2] at this
    have HE := Lib.hid (each_bad L (.slice A3 L.length c3) ⟨A3, _, c3, rfl⟩ 69 #[.pointer (some ⟨w3.heap.size, 0, none⟩), .pointer (some ⟨w.heap.size, 0, none⟩)] _ hmods (HS.out.later HB4.out) HL.out HZ.out h0)
    have HM0 := Lib.hid h0
    have hnz : (((Mo.mods L : Nat) : Int) == 0) = false := beq_eq_false_iff_ne.2 (by omega)
    obtain ⟨z, HZZ⟩ : ∃ z, Hid (Mo.mods L = z) := ⟨_, Lib.hid rfl⟩
    rw [HZZ.out] at HE hnz
    clear h0 hI hX3 hM3 hb3 hA3 HC hq0 hq1 hu3 hb4 H0 H1 hmods
    go_wp2_with fail
    refine HE.out.mono ?_
    rintro E w5 ⟨rfl, hb5⟩
    have HB5 := Lib.hid (below_later hb5 HB4.out)
    clear hb5 HE
    go_wp2_with fail
    refine bodyPost_ret (v := .tuple #[.slice none 0 0, .int .i64 (z : Nat)]) (by simp [results, Tryz.results22, go_sem]) rfl ?_
    exact ⟨HB5.out, .inl ⟨HM0.out, by rw [HZZ.out]⟩⟩
end Go.Proofs.YtidholghbjljaaaGreatDoor
