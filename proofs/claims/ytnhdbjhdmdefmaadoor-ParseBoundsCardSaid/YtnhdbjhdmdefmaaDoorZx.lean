
/- Walks of parse: what is read, and kept. -/
import Derived.Test.YtnhdbjhdmdefmaaDoorZw
namespace Culp.Gr
set_option linter.unusedSimpArgs false
set_option linter.unusedVariables false
open Go Go.RowKit Culp Culp.Tr Go.Proofs.YtnhdbjhdmdefmaaDoor
section
variable {pb c : Nat} {w w1 : World} {u : Value}
theorem KeepN.put_ (k : KeepN pb none w w1) (u : Value) : KeepN pb (some c) w (w1.setCell ⟨c, 0, none⟩ u) :=
  ⟨k.os, k.tape, k.output, by rw [World.size_setCell]; exact k.size, fun b hb h1 h2 => by
    rw [Below.heap_setCell _ _ _ _ (by intro e; exact h2 (by rw [e]))]
    exact k.block b hb h1 (fun e => by cases e)⟩
theorem KeepN.some_ (k : KeepN pb none w w1) : KeepN pb (some c) w w1 := ⟨k.os, k.tape, k.output, k.size, fun b hb h1 h2 => k.block b hb h1 (fun e => by cases e)⟩
end
end Culp.Gr
namespace Go.Proofs.YtnhdbjhdmdefmaaDoor
set_option linter.unusedSimpArgs false
set_option linter.unusedVariables false
open Go.RowKit Culp Culp.Tr Culp.Gr
set_option maxRecDepth 100000 in
set_option maxHeartbeats 1600000 in
theorem type_clo (c : Nat) (z : Value) : CloC 22 9 StrR (fun L => whole L 0 []) c z := by
  intro pb B L tv e w h hcp hcB hc
  have HC := Lib.hid (whole_any h)
  have HBC := Lib.hid hc
  have HTO : Hid (tv.ownBlock ≠ some c) := Lib.hid fun he => by have := (h.toks.lt c he).1; omega
  clear h hc
  go_enter Tryd.func22, Tryd.ntmps22
  go_wp2_with fail
  refine HC.out.mono ?_
  clear HC
  rintro E w1 hr
  cases hs : whole L 0 [] with
  | error j =>
    rw [hs] at hr
    obtain ⟨rfl, hk⟩ := hr
    refine ⟨rfl, ?_⟩
    exact ⟨rfl, KeepN.some_ hk⟩
  | ok r =>
    rw [hs] at hr
    obtain ⟨v, rfl, hv, lv1, k1, k2, k3⟩ := hr
    obtain rfl : v = _ := hv
    have hb1 : Blk c #[z] 9 w1 := keepN_blk k1 HBC.out (by omega) (fun e => by cases e)
    have c0 := hb1.cell (i := 0) rfl
    have f0 := hb1.free 0
    have hnl := k2.nel hb1 (by decide)
    have HQ : Hid (CloRes StrR (whole L 0 []) 9 pb B L tv e c w (.returned (.tuple #[])) (w1.setCell ⟨c, 0, none⟩ (.string (by_ r.1)))) := Lib.hid (by
      rw [hs]
      exact ⟨rfl, _, lv1, rfl, blk_set hb1 0 _, k2.far (by omega) HTO.out hnl, KeepN.put_ k1 _⟩)
    clear k1 k2 k3 hb1 hnl hs
    go_wp2_with fail
    exact bodyPost_end (v := .tuple #[]) (by simp [results, Tryd.results22, go_sem]) rfl HQ.out
/-- Nodes laid in a row of their own, made behind block c. -/
def NodR (c : Nat) (w : World) (v : Value) (f : F) : Prop := ∃ b, c < b ∧ w.ownsRow b 42 8 v f.flat.length (nfla f.flat)
set_option maxRecDepth 100000 in
set_option maxHeartbeats 1600000 in
theorem expr_clo (c : Nat) (z : Value) : CloC 15 28 (NodR c) (fun L => expr L 0 []) c z := by
  intro pb B L tv e w h hcp hcB hc
  have HC := Lib.hid (expr_any h)
  have HBC := Lib.hid hc
  have hsm := h.small
  have hcl := hc.lt
  have HTO : Hid (tv.ownBlock ≠ some c) := Lib.hid fun he => by have := (h.toks.lt c he).1; omega
  clear h hc
  go_enter Tryd.func15, Tryd.ntmps15
  go_wp2_with fail
  refine HC.out.mono ?_
  clear HC
  rintro E w1 hr
  cases hs : expr L 0 [] with
  | error j =>
    rw [hs] at hr
    obtain ⟨rfl, hk⟩ := hr
    exact ⟨rfl, rfl, KeepN.some_ hk⟩
  | ok r =>
    rw [hs] at hr
    obtain ⟨v, rfl, ⟨b, rfl, hbr⟩, lv1, k1, k2, k3⟩ := hr
    have hb1 : Blk c #[z] 28 w1 := keepN_blk k1 HBC.out (by omega) (fun e => by cases e)
    obtain ⟨p1, p2, p3⟩ := px_bound _ _ _ _ _ hs (Nat.zero_le _)
    obtain ⟨x, ks, hf⟩ := p3 trivial
    have hz4 : (NT.expr.acc).flat.length = 0 := rfl
    rw [hf] at hbr p2
    have hlen : ks.flat.length + 1 ≤ 65536 := by
      simp only [Tr.F.flat, List.length_cons, List.length_append, List.length_nil] at p2
      omega
    have HCL := Lib.hid (laid_all (ks.flat.length + 1) x ks (by omega) hbr (World.ownsRow_nil w1 w1.heap.size 42 8) (Nat.le_refl _) (by omega))
    have hszz : w.heap.size ≤ w1.heap.size := k1.size
    have HB1 := Lib.hid hb1
    have HK1 := Lib.hid k1
    have HK2 := Lib.hid k2
    have HS := Lib.hid hs
    have HFF := Lib.hid hf
    have HK3 := Lib.hid k3
    clear k1 k2 k3 hb1 hbr p1 p2 p3 hz4 hf
    go_wp2_with fail
    refine HCL.out.mono ?_
    clear HCL
    rintro E w2 ⟨v2, rfl, hown, hg, hat⟩
    have hbl : Below w1.heap.size w1 w2 := ⟨hg.os, hg.tape, hg.output, hg.size, fun b hb => hg.block b hb (fun e => by cases e)⟩
    obtain ⟨A2, c2, rfl⟩ := own_shape hown
    have hb2 := HB1.out.later hbl
    have c0 := hb2.cell (i := 0) rfl
    have f0 := hb2.free 0
    have hp2 := HK2.out.later hbl
    have hnl := hp2.nel hb2 (by decide)
    have hkk : KeepN pb none w w2 := HK1.out.trans (KeepN.of pb lv1.ownBlock hbl) HK3.out
    have hfl : r.1.flat = x :: ks.flat := by rw [HFF.out]; simp [Tr.F.flat]
    have hno : (Value.slice A2 (0 + (x :: ks.flat).length) c2).ownBlock ≠ some c := fun he => by have := (hown.lt c he).1; omega
    have HQ : Hid (CloRes (NodR c) (expr L 0 []) 28 pb B L tv e c w (.returned (.tuple #[])) (w2.setCell ⟨c, 0, none⟩ (.slice A2 (0 + (x :: ks.flat).length) c2))) := Lib.hid (by
      rw [HS.out]
      refine ⟨rfl, _, lv1, ⟨w1.heap.size, by omega, ?_⟩, blk_set hb2 0 _, hp2.far (by omega) HTO.out hnl, KeepN.put_ hkk _⟩
      rw [hfl]
      have h9 := own_apart_keep hown ((Keep.refl c w2).setCell 0 (.slice A2 (0 + (x :: ks.flat).length) c2)) hno
      rw [Nat.zero_add, List.nil_append] at h9
      rw [Nat.zero_add]
      exact h9)
    rw [show (0 + (x :: ks.flat).length) = ks.flat.length + 1 by rw [Nat.zero_add, List.length_cons]] at HQ
    clear hown hg hat hbl hb2 hp2 hnl hkk hfl hno HK1 HK2 HK3 HB1 HFF
    go_wp2_with fail
    exact bodyPost_end (v := .tuple #[]) (by simp [results, Tryd.results15, go_sem]) rfl HQ.out
end Go.Proofs.YtnhdbjhdmdefmaaDoor
