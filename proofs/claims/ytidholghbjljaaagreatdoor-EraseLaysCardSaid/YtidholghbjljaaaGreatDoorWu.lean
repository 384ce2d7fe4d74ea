
/- Walks of erase: Lay. -/
import Derived.Test.YtidholghbjljaaaGreatDoorWt
import Derived.Test.YtidholghbjljaaaGreatDoorWs
import Derived.Test.YtidholghbjljaaaGreatDoorWk
namespace Go.Proofs.YtidholghbjljaaaGreatDoor
set_option linter.unusedSimpArgs false
set_option linter.unusedVariables false
open Go.RowKit Culp Culp.Er
/-- What holds while a text is laid. -/
structure LayI (sk : Sk) (L : List Md) (f : Pos → ByteArray) (slot : Int) (t : ByteArray) (H sb th tb : Nat) (W0 : World) (k : Nat) (W : World) : Prop where
  cSlot : W.cell? ⟨sb, 0, none⟩ = some (.int .i64 slot)
  there : One th 4 (.bool (decide (0 ≤ slot ∧ slot < k))) W
  cText : W.cell? ⟨tb, 0, none⟩ = some (.string t)
  own : OwnSt sk L H (layTo (slots L) f slot t k) W
  below : Below H W0 W
theorem One.keep {p : Nat} {T : TypeId} {v : Value} {w w' : World} {K : Nat} (h : One p T v w) (hb : Below K w w') (hp : p < K) : One p T v w' := (hb.block p hp).trans h
section
variable {sk : Sk} {L : List Md} {f : Pos → ByteArray} {slot : Int} {t : ByteArray} {H K sb th tb : Nat} {W0 W W' : World} {k : Nat}
theorem LayI.keep (h : LayI sk L f slot t H sb th tb W0 k W) (hu : Under sk K L) (hs : sb < K) (ht : th < K) (hb : tb < K) (hH : H ≤ K) (hbl : Below K W W') : LayI sk L f slot t H sb th tb W0 k W' :=
  ⟨by rw [hbl.cell (p := ⟨sb, 0, none⟩) hs]; exact h.cSlot, h.there.keep hbl ht, by rw [hbl.cell (p := ⟨tb, 0, none⟩) hb]; exact h.cText, h.own.keep hu hbl, h.below.trans (hbl.mono hH)⟩
set_option maxRecDepth 100000 in
set_option maxHeartbeats 1600000 in
theorem lay1_any (s : Sl) (K0 : Nat) (hk : (slots L)[k]? = some s) (h : LayI sk L f slot t H sb th tb W0 k W) (hu : Under sk K0 L) (hth : K0 ≤ th) (hsb : sb < H) (htb : tb < H) (hHK : H ≤ K0) (hK : th < K) (hKW : K ≤ W.heap.size) :
    Calls Tryz.prog 66 #[.int .i64 k, slotV s (layTo (slots L) f slot t k s.pos), placeV sk s, .pointer (some ⟨sb, 0, none⟩), .pointer (some ⟨th, 0, none⟩), .pointer (some ⟨tb, 0, none⟩)] W fun e W' => e = .returned (.tuple #[]) ∧ Over K none W W' ∧ LayI sk L f slot t H sb th tb W0 (k + 1) W' := by
  have hreal := slots_real (List.mem_of_getElem? hk)
  have HB2 : Hid (∀ a b, Below W.heap.size W ((W.alloc a).alloc b)) := Lib.hid fun a b => below_two W a b
  have HI := Lib.hid h
  have c0 := h.cSlot
  have c1 := h.there.cell
  have c1f := h.there.free
  have c2 := h.cText
  have hthW : th < W.heap.size := by omega
  have hsbW : sb < W.heap.size := by omega
  have htbW : tb < W.heap.size := by omega
  have n1 : sb ≠ th := by omega
  have n2 : tb ≠ th := by omega
  clear h
  unfold slotV placeV
  by_cases he : slot = (k : Int)
  · have i1 : ((k : Int) == slot) = true := by rw [he]; exact beq_self_eq_true _
    have HT := Lib.hid (layTo_hit (f := f) (t := t) hk he)
    have HE := Lib.hid he
    have HY : Hid (∀ a b, Below W.heap.size (W.setCell ⟨th, 0, none⟩ (.bool true)) (((W.setCell ⟨th, 0, none⟩ (.bool true)).alloc a).alloc b)) := Lib.hid fun a b => by
      have := below_two (W.setCell ⟨th, 0, none⟩ (.bool true)) a b
      rwa [World.size_setCell] at this
    have hcell : ∀ a b, (((W.setCell ⟨th, 0, none⟩ (.bool true)).alloc a).alloc b).cell? (addr sk s.pos) = some (.string (layTo (slots L) f slot t k s.pos)) ∧ (((W.setCell ⟨th, 0, none⟩ (.bool true)).alloc a).alloc b).frozen? (addr sk s.pos) = false ∧ OwnSt sk L H (layTo (slots L) f slot t k) (((W.setCell ⟨th, 0, none⟩ (.bool true)).alloc a).alloc b) := fun a b => by
      have hb : Below K0 W (((W.setCell ⟨th, 0, none⟩ (.bool true)).alloc a).alloc b) := (below_setCell (Below.refl _ _) hth).trans ((HY.out a b).mono (by omega))
      have ho := HI.out.own.keep hu hb
      exact ⟨ho.mat.cell hreal, ho.free hreal, ho⟩
    have HC := Lib.hid hcell
    have hlt := addr_lt hu hreal
    have hlo := HI.out.own.low hreal
    have HR := Lib.hid hreal
    clear hcell hreal he
    go_enter Tryz.func66, Tryz.ntmps66
    go_wp2_with fail
    refine (lay_any (addr sk s.pos) s.absent t _ _ (HC.out _ _).1 (HC.out _ _).2.1).mono ?_
    rintro e W3 ⟨rfl, hb3⟩
    have H3 : Hid (Over K none W W3 ∧ LayI sk L f slot t H sb th tb W0 (k + 1) W3) := Lib.hid (by
      obtain ⟨X, hX⟩ : ∃ X, X = ((W.setCell ⟨th, 0, none⟩ (.bool true)).alloc (.cells #[.string s.mod, .bool s.imp, .int .i64 s.item, .int .i64 s.node, .bool s.res, .string (layTo (slots L) f slot t k s.pos)] 42)).alloc (.cells #[.pointer (some (addr sk s.pos)), .bool s.absent] 98) := ⟨_, rfl⟩
      have hbX := HY.out (.cells #[.string s.mod, .bool s.imp, .int .i64 s.item, .int .i64 s.node, .bool s.res, .string (layTo (slots L) f slot t k s.pos)] 42) (.cells #[.pointer (some (addr sk s.pos)), .bool s.absent] 98)
      obtain ⟨-, -, ho⟩ := HC.out (.cells #[.string s.mod, .bool s.imp, .int .i64 s.item, .int .i64 s.node, .bool s.res, .string (layTo (slots L) f slot t k s.pos)] 42) (.cells #[.pointer (some (addr sk s.pos)), .bool s.absent] 98)
      rw [← hX] at hb3 hbX ho
      have hsX := hbX.size
      rw [World.size_setCell] at hsX
      have e3 : ∀ b, b < W.heap.size → b ≠ th → b ≠ (addr sk s.pos).block → W3.heap[b]? = W.heap[b]? := fun b h1 h2 h3 => by
        rw [hb3.block b (by omega), Below.heap_setCell _ _ _ _ h3, hbX.block b h1, Below.heap_setCell _ _ _ _ h2]
      have c3 : ∀ b v, b < W.heap.size → b ≠ th → b ≠ (addr sk s.pos).block → W.cell? ⟨b, 0, none⟩ = some v → W3.cell? ⟨b, 0, none⟩ = some v := fun b v h1 h2 h3 h4 => by
        rw [World.cell?_of_block (a := ⟨b, 0, none⟩) (e3 b h1 h2 h3)]; exact h4
      have hsz3 : W.heap.size ≤ W3.heap.size := by
        have := hb3.size
        rw [World.size_setCell] at this
        omega
      refine ⟨⟨hsz3, fun b h1 h2 _ => e3 b h2 (by omega) (by omega)⟩, c3 _ _ (by omega) n1 (by omega) HI.out.cSlot, ?_, c3 _ _ (by omega) n2 (by omega) HI.out.cText, ?_, ?_⟩
      · have h5 : One th 4 (.bool true) X := (One.put HI.out.there _).keep hbX hthW
        have h6 : One th 4 (.bool true) W3 := by
          refine (hb3.block th (by omega)).trans ?_
          rw [Below.heap_setCell _ _ _ _ (show th ≠ (addr sk s.pos).block by omega)]
          exact h5
        have : decide (0 ≤ slot ∧ slot < ((k + 1 : Nat) : Int)) = true := decide_eq_true (by have := HE.out; omega)
        rw [this]; exact h6
      · rw [HT.out]
        have h7 : OwnSt sk L H (upd (layTo (slots L) f slot t k) s.pos (laid s t)) (X.setCell (addr sk s.pos) (.string (layV s.absent t))) := ho.lay HR.out
        exact h7.keep hu (hb3.mono (by omega))
      · exact HI.out.below.trans ⟨hb3.os.trans hbX.os, hb3.tape.trans hbX.tape, hb3.output.trans hbX.output, hsz3, fun b hb => e3 b (by omega) (by omega) (by omega)⟩)
    clear HI HC HB2 hb3 HT HR
    go_wp2_with fail
    exact bodyPost_end (v := .tuple #[]) (by simp [results, Tryz.results66, go_sem]) rfl ⟨rfl, H3.out⟩
  · have i1 : ((k : Int) == slot) = false := beq_eq_false_iff_ne.2 (fun e => he e.symm)
    have HT := Lib.hid (layTo_miss (S := slots L) (f := f) (t := t) he)
    have HE := Lib.hid he
    clear he hreal
    go_enter Tryz.func66, Tryz.ntmps66
    go_wp2_with fail
    refine bodyPost_end (v := .tuple #[]) (by simp [results, Tryz.results66, go_sem]) rfl ⟨rfl, ?_⟩
    have hbX := HB2.out (.cells #[.string s.mod, .bool s.imp, .int .i64 s.item, .int .i64 s.node, .bool s.res, .string (layTo (slots L) f slot t k s.pos)] 42) (.cells #[.pointer (some (addr sk s.pos)), .bool s.absent] 98)
    have h8 := HI.out.keep (K := W.heap.size) (hu.mono (by omega)) (by omega) hthW (by omega) (by omega) hbX
    refine ⟨⟨hbX.size, fun b _ h2 _ => hbX.block b h2⟩, h8.cSlot, ?_, h8.cText, by rw [HT.out]; exact h8.own, h8.below⟩
    have : decide (0 ≤ slot ∧ slot < ((k + 1 : Nat) : Int)) = decide (0 ≤ slot ∧ slot < ((k : Nat) : Int)) := decide_eq_decide.2 (by have := HE.out; omega)
    rw [this]; exact h8.there
set_option maxRecDepth 100000 in
theorem lay_each (A : Option Addr) (c K0 : Nat) (hA : 0 < L.length → A = some ⟨sk.b, sk.o, none⟩) (hc : L.length ≤ c) (h : LayI sk L (note L) slot t H sb th tb W0 0 W) (hu : Under sk K0 L) (hth : K0 ≤ th) (hsb : sb < H) (htb : tb < H) (hHK : H ≤ K0) (hK : th < W.heap.size) (hS : Sp W) (hz : ∀ m ∈ L, MdSz m) (h0 : Mo.mods L = 0) :
    Calls Tryz.prog 37 #[.slice A L.length c, .func (.func 66) #[] #[.pointer (some ⟨sb, 0, none⟩), .pointer (some ⟨th, 0, none⟩), .pointer (some ⟨tb, 0, none⟩)]] W fun e w' => e = .returned (.int .i64 0) ∧ LayI sk L (note L) slot t H sb th tb W0 (slots L).length w' := by
  have hM0 : layTo (slots L) (note L) slot t 0 = note L := layTo_zero
  refine (each_ok sk L (fun k => layTo (slots L) (note L) slot t k) A c hA hc (fits_of h0) 66 (by intro a b; rfl) _ _ hS (by rw [hM0, lay_note]; exact hz) (by rw [hM0, lay_note]; exact h0) (fun k o W => o = none ∧ LayI sk L (note L) slot t H sb th tb W0 k W)
    (fun k o W g hI hg => by rw [hI.1] at hg; cases hg) (fun k o W W' hI hb _ => ⟨hI.1, hI.2.keep (hu.mono (by omega)) (by omega) hK (by omega) (by omega) hb⟩) (fun k o W hI => hI.2.own.mat) ⟨rfl, h⟩ ?_).mono ?_
  · intro k s o W1 hs hI hlt
    obtain ⟨rfl, hI⟩ := hI
    refine (lay1_any s K0 hs hI hu hth hsb htb hHK hK hlt).mono ?_
    rintro E W' ⟨rfl, h1, h2⟩
    exact ⟨rfl, h1, none, ⟨rfl, h2⟩, .inl rfl⟩
  · rintro E w' ⟨rfl, ⟨o, -, h1⟩, -⟩
    exact ⟨rfl, h1⟩
end
/-- A row's modules, in memory of one's own. -/
def OutRes (L : List Md) (f : Pos → ByteArray) (H : Nat) (v : Value) (w' : World) : Prop := ∃ sk, SlOk v sk.b sk.o L.length ∧ OwnSt sk L H f w' ∧ sk.v = v
theorem OutRes.mods {L : List Md} {f : Pos → ByteArray} {H : Nat} {v : Value} {w' : World} (h : OutRes L f H v w') : Mods w' v (lay f L) := by
  obtain ⟨sk, h1, h2, -⟩ := h
  exact h2.mat.mods h1
def layOk (L : List Md) (slot : Int) (t : ByteArray) : Prop := 0 ≤ slot ∧ slot < ((slots L).length : Int) ∧ (t = no ∨ isTy t.data.toList = true)
def LayRes (L : List Md) (slot : Int) (t : ByteArray) (w : World) (E : Ending) (w' : World) : Prop := Below w.heap.size w w' ∧
  ((Mo.mods L ≠ 0 ∧ E = .returned (.tuple #[.slice none 0 0, .int .i64 (Mo.mods L : Nat)])) ∨ (Mo.mods L = 0 ∧ ¬ layOk L slot t ∧ E = .returned (.tuple #[.slice none 0 0, .int .i64 1])) ∨
    (Mo.mods L = 0 ∧ layOk L slot t ∧ ∃ v, E = .returned (.tuple #[v, .int .i64 0]) ∧ OutRes L (layTo (slots L) (note L) slot t (slots L).length) w.heap.size v w'))
theorem Check_two (s : ByteArray) (w : World) : Calls Tryz.prog 68 #[.string s] w fun e w' => w = w' ∧ ∃ c p : Int, e = .returned (.tuple #[.int .i64 c, .int .i64 p]) ∧ ((isTy s.data.toList = true ∧ c = 0) ∨ (isTy s.data.toList = false ∧ (c == 0) = false)) := (Check_any s w).mono fun e w' h => by
  obtain ⟨h1, ⟨h2, h3⟩ | ⟨h2, p, _, h3⟩⟩ := h
  · exact ⟨h1, 0, 0, h3, .inl ⟨h2, rfl⟩⟩
  · refine ⟨h1, _, _, h3, .inr ⟨h2, ?_⟩⟩
    split <;> rfl
set_option maxRecDepth 100000 in
set_option maxHeartbeats 3200000 in
theorem Lay_any (L : List Md) (v : Value) (slot : Int) (t : ByteArray) (w : World) (hm : Mods w v L) (hS : Sp w) (hl : Lens L) (hz : ∀ m ∈ L, MdSz m) : Calls Tryz.prog 21 #[v, .int .i64 slot, .string t] w (LayRes L slot t w) := by
  obtain ⟨sk, hM, ⟨A, c, rfl, hc, hA⟩, hu⟩ := sk_of_mods hm
  have e1 := eq_no t
  have HB2 : Hid (Below w.heap.size w ((w.alloc (.cells #[.int .i64 slot] 3)).alloc (.cells #[.string t] 9))) := Lib.hid (below_two w _ _)
  have hsz2 : ((w.alloc (.cells #[.int .i64 slot] 3)).alloc (.cells #[.string t] 9)).heap.size = w.heap.size + 2 := by rw [World.size_alloc, World.size_alloc]
  have HC := Lib.hid (copied_any sk L (note L) A c ((w.alloc (.cells #[.int .i64 slot] 3)).alloc (.cells #[.string t] 9)) hA (hM.keep hu HB2.out) (hu.mono (by omega)) hl)
  have hb0 : ((w.alloc (.cells #[.int .i64 slot] 3)).alloc (.cells #[.string t] 9)).cell? ⟨w.heap.size, 0, none⟩ = some (.int .i64 slot) := cell_later ((Below.refl _ _).alloc (Nat.le_refl _) _) ((World.cell?_alloc_at _ _ _ _ rfl).trans rfl)
  have hb1 : ((w.alloc (.cells #[.int .i64 slot] 3)).alloc (.cells #[.string t] 9)).cell? ⟨w.heap.size + 1, 0, none⟩ = some (.string t) := (World.cell?_alloc_at _ _ _ _ (by rw [World.size_alloc])).trans rfl
  have H0 := Lib.hid hb0
  have H1 := Lib.hid hb1
  have HS := Lib.hid hS
  have HZ := Lib.hid hz
  have HL : Hid (L.length ≤ 1000000000000000) := Lib.hid (by have := hl.len; omega)
  have HSZ := Lib.hid hsz2
  have HCK := Lib.hid (Check_two t)
  clear hM hu hA hm hS hl hz hc hb0 hb1 hsz2
  go_enter Tryz.func21, Tryz.ntmps21
  go_wp2_with fail
  refine HC.out.mono ?_
  rintro E w3 ⟨v3, sk3, rfl, ⟨A3, c3, rfl, hc3, hA3⟩, hb3, hM3, hX3, hV3⟩
  have HV3 := Lib.hid hV3
  clear hV3
  have hs3 := hb3.size
  rw [HSZ.out] at hs3
  have hq0 : w3.cell? ⟨w.heap.size, 0, none⟩ = some (.int .i64 slot) := cell_later hb3 H0.out
  have hq1 : w3.cell? ⟨w.heap.size + 1, 0, none⟩ = some (.string t) := cell_later hb3 H1.out
  rw [HSZ.out] at hb3 hX3
  have hb4 : Below w3.heap.size w3 (w3.alloc (.cells #[.bool false] 4)) := (Below.refl _ _).alloc (Nat.le_refl _) _
  have HB4 : Hid (Below w.heap.size w (w3.alloc (.cells #[.bool false] 4))) := Lib.hid ((HB2.out.trans (hb3.mono (by omega))).trans (hb4.mono (by omega)))
  have hu3 := hX3.under (by omega)
  have hI : LayI sk3 L (note L) slot t (w.heap.size + 2) w.heap.size w3.heap.size (w.heap.size + 1) _ 0 (w3.alloc (.cells #[.bool false] 4)) := ⟨cell_later hb4 hq0, by
      have : decide (0 ≤ slot ∧ slot < ((0 : Nat) : Int)) = false := decide_eq_false (by omega)
      rw [this]; exact (MapKept.heap_alloc w3 _).1, cell_later hb4 hq1, by rw [layTo_zero]; exact (OwnSt.mk hM3 hX3).keep hu3 hb4, hb3.trans (hb4.mono (by omega))⟩
  have hr1 := cell_later hb4 hq1
  have hlt1 : w.heap.size + 1 < w3.heap.size := by omega
  by_cases h0 : Mo.mods L = 0
  · have HE := Lib.hid (lay_each A3 c3 w3.heap.size hA3 hc3 hI hu3 (Nat.le_refl _) (by omega) (by omega) (by omega) (by rw [World.size_alloc]; omega) (HS.out.later HB4.out) HZ.out h0)
    have HM0 := Lib.hid h0
    have HA3 := Lib.hid hA3
    clear h0 hI hX3 hM3 hb3 hA3 HC hq0 hq1 hu3 hb4 hr1 H0 H1
    go_wp2_with fail
    refine HE.out.mono ?_
    rintro E w5 ⟨rfl, hI5⟩
    have c0 := hI5.cText
    have c1 := hI5.there.cell
    have HI5 := Lib.hid hI5
    have HB5 : Hid (Below w.heap.size w w5) := Lib.hid (HB2.out.trans (hI5.below.mono (by omega)))
    have HW : Hid (∃ b, b = decide (0 ≤ slot ∧ slot < ((slots L).length : Int))) := Lib.hid ⟨_, rfl⟩
    obtain ⟨b, hb⟩ := HW.out
    rw [← hb] at c1
    have HBB := Lib.hid hb
    clear hb HW hI5 HE
    go_wp2_with fail
    refine (HCK.out w5).mono ?_
    rintro E w6 ⟨rfl, cc, pp, rfl, hcp⟩
    have HCP := Lib.hid hcp
    clear hcp HCK
    cases b with
    | false =>
      have HN : Hid (¬ layOk L slot t) := Lib.hid fun h => by
        have := of_decide_eq_false HBB.out.symm
        exact this ⟨h.1, h.2.1⟩
      go_wp2_with fail
      refine bodyPost_ret (v := .tuple #[.slice none 0 0, .int .i64 1]) (by simp [results, Tryz.results21, go_sem]) rfl ?_
      exact ⟨HB5.out, .inr (.inl ⟨HM0.out, HN.out, rfl⟩)⟩
    | true =>
      by_cases htn : t = no
      · rw [decide_eq_true htn] at e1
        have HY : Hid (layOk L slot t) := Lib.hid (by
          have := of_decide_eq_true HBB.out.symm
          exact ⟨this.1, this.2, .inl htn⟩)
        clear htn
        go_wp2_with fail
        refine bodyPost_ret (v := .tuple #[.slice A3 L.length c3, .int .i64 0]) (by simp [results, Tryz.results21, go_sem]) rfl ?_
        exact ⟨HB5.out, .inr (.inr ⟨HM0.out, HY.out, _, rfl, sk3, ⟨A3, c3, rfl, hc3, HA3.out⟩, HI5.out.own.low' (by omega), HV3.out⟩)⟩
      · rw [decide_eq_false htn] at e1
        rcases HCP.out with ⟨hty, rfl⟩ | ⟨hty, hcc⟩
        · have HY : Hid (layOk L slot t) := Lib.hid (by
            have := of_decide_eq_true HBB.out.symm
            exact ⟨this.1, this.2, .inr hty⟩)
          clear htn hty
          go_wp2_with fail
          refine bodyPost_ret (v := .tuple #[.slice A3 L.length c3, .int .i64 0]) (by simp [results, Tryz.results21, go_sem]) rfl ?_
          exact ⟨HB5.out, .inr (.inr ⟨HM0.out, HY.out, _, rfl, sk3, ⟨A3, c3, rfl, hc3, HA3.out⟩, HI5.out.own.low' (by omega), HV3.out⟩)⟩
        · have HN : Hid (¬ layOk L slot t) := Lib.hid fun h => by
            rcases h.2.2 with h | h
            · exact htn h
            · rw [hty] at h; cases h
          clear htn hty
          go_wp2_with fail
          refine bodyPost_ret (v := .tuple #[.slice none 0 0, .int .i64 1]) (by simp [results, Tryz.results21, go_sem]) rfl ?_
          exact ⟨HB5.out, .inr (.inl ⟨HM0.out, HN.out, rfl⟩)⟩
  · have hmods : Mods (w3.alloc (.cells #[.bool false] 4)) (.slice A3 L.length c3) L := by
      have := hI.own.mat.mods (v := .slice A3 L.length c3) ⟨A3, c3, rfl, hc3, hA3⟩
      rwa [layTo_zero, lay_note] at this
    have HE := Lib.hid (each_bad L (.slice A3 L.length c3) ⟨A3, _, c3, rfl⟩ 66 #[.pointer (some ⟨w.heap.size, 0, none⟩), .pointer (some ⟨w3.heap.size, 0, none⟩), .pointer (some ⟨w.heap.size + 1, 0, none⟩)] _ hmods (HS.out.later HB4.out) HL.out HZ.out h0)
    have HM0 := Lib.hid h0
    have hnz : (((Mo.mods L : Nat) : Int) == 0) = false := beq_eq_false_iff_ne.2 (by omega)
    obtain ⟨z, HZZ⟩ : ∃ z, Hid (Mo.mods L = z) := ⟨_, Lib.hid rfl⟩
    rw [HZZ.out] at HE hnz
    have HR1 := Lib.hid hr1
    clear h0 hI hX3 hM3 hb3 hA3 HC hq0 hq1 hu3 hb4 hr1 H0 H1 hmods
    go_wp2_with fail
    refine HE.out.mono ?_
    rintro E w5 ⟨rfl, hb5⟩
    have c0 := cell_later hb5 HR1.out
    have HB5 := Lib.hid (below_later hb5 HB4.out)
    clear hb5 HE
    go_wp2_with fail
    refine (HCK.out w5).mono ?_
    rintro E w6 ⟨rfl, cc, pp, rfl, -⟩
    clear HCK
    go_wp2_with fail
    refine bodyPost_ret (v := .tuple #[.slice none 0 0, .int .i64 (z : Nat)]) (by simp [results, Tryz.results21, go_sem]) rfl ?_
    exact ⟨HB5.out, .inl ⟨HM0.out, by rw [HZZ.out]⟩⟩
end Go.Proofs.YtidholghbjljaaaGreatDoor
