
/- Walks of erase: each goes over the slots and calls what it is handed. -/
import Derived.Test.YtidholghbjljaaaGreatDoorWn
import Derived.Test.YtidholghbjljaaaGreatDoorWo
import Derived.Test.YtidholghbjljaaaGreatDoorVe
namespace Culp.Er
set_option linter.unusedSimpArgs false
set_option linter.unusedVariables false
open Go Culp
/-- Whatever lay at or over H lies as it lay, but for a row of one's own. -/
structure Over (H : Nat) (o : Option Nat) (W W' : World) : Prop where
  size : W.heap.size ≤ W'.heap.size
  same : ∀ b, H ≤ b → b < W.heap.size → o ≠ some b → W'.heap[b]? = W.heap[b]?
end Culp.Er
namespace Go.Proofs.YtidholghbjljaaaGreatDoor
set_option linter.unusedSimpArgs false
set_option linter.unusedVariables false
open Go.RowKit Culp Culp.Er
attribute [local go_sem] Oper.semAt_some
set_option maxRecDepth 100000 in
set_option maxHeartbeats 6400000 in
theorem each_ok (sk : Sk) (L : List Md) (τ : Nat → Pos → ByteArray) (A : Option Addr) (c : Nat) (hA : 0 < L.length → A = some ⟨sk.b, sk.o, none⟩) (hc : L.length ≤ c) (hf : Fits L) (g : Nat) (heg : ∀ args w, (callFunc g args).run Tryz.prog w = .ok (.enter g args) w) (cap : Array Value) (w : World) (hS : Sp w) (hz : ∀ m ∈ lay (τ 0) L, MdSz m) (h0 : Mo.mods (lay (τ 0) L) = 0) (Iu : Nat → Option Nat → World → Prop)
    (hIC : ∀ k o W g, Iu k o W → o = some g → ∃ ob : Obj, W.heap[g]? = some ob ∧ ob.isCells = true)
    (hIB : ∀ k o W W', Iu k o W → Below w.heap.size W W' → (∀ g, o = some g → W'.heap[g]? = W.heap[g]?) → Iu k o W') (hIM : ∀ k o W, Iu k o W → MAt sk W L (τ k)) (hI0 : Iu 0 none w)
    (hcall : ∀ k s o W, (slots L)[k]? = some s → Iu k o W → w.heap.size ≤ W.heap.size → Calls Tryz.prog g (#[.int .i64 k, slotV s (τ k s.pos), placeV sk s] ++ cap) W fun e W' => e = .returned (.tuple #[]) ∧ Over w.heap.size o W W' ∧ ∃ o', Iu (k + 1) o' W' ∧ (o' = o ∨ ∃ g, o' = some g ∧ W.heap.size ≤ g)) :
    Calls Tryz.prog 37 #[.slice A L.length c, .func (.func g) #[] cap] w fun e w' => e = .returned (.int .i64 0) ∧ (∃ o, Iu (slots L).length o w') ∧ w.heap.size ≤ w'.heap.size := by
  have HTM : Hid (∀ W, Below w.heap.size w W → Calls Tryz.prog 88 #[.slice A L.length c] W (Makes (.int .i64 (0 : Nat)) W)) := Lib.hid fun W hb => by
    rw [← h0]
    exact tModules_any (lay (τ 0) L) (.slice A L.length c) W ((hIM 0 none W (hIB 0 none w W hI0 hb (fun g e => by cases e))).mods ⟨A, c, rfl, hc, hA⟩) (hS.later hb) (by have := hf.mods; unfold lay; rw [layM_len]; omega) hz
  have HB0 : Hid (∀ o, Below w.heap.size w (w.alloc o)) := Lib.hid fun o => (Below.refl _ _).alloc (Nat.le_refl _) o
  have HIB := Lib.hid hIB
  have HIM := Lib.hid hIM
  have HI0 := Lib.hid hI0
  have HC := Lib.hid hcall
  have HIC := Lib.hid hIC
  have HA := Lib.hid hA
  have HF := Lib.hid hf
  clear hIB hIM hI0 hcall hA hf hz h0 hS hIC
  refine (callsIn_wide (n := 9)).1 ?_
  refine callsIn_of_wp_marks Tryz.func37 rfl trivial ?_ rfl
  simp only [Tryz.ntmps37, List.size_toArray, List.length_cons, List.length_nil, Nat.reduceAdd, Nat.reduceSub, Array.replicate_succ, Array.replicate_zero, List.push_toArray, List.append_toArray, List.nil_append, List.cons_append]
  gi_wp2
  refine ⟨trivial, ?_⟩
  refine (callsIn_wide.2 (HTM.out _ (HB0.out _))).mono ?_
  rintro e w1 ⟨rfl, hb1⟩
  have hs1 : w.heap.size < w1.heap.size := by
    have := hb1.size
    rw [World.size_alloc] at this
    omega
  have hq1 : w1.cell? ⟨w.heap.size, 0, none⟩ = some (.func (.func g) #[] cap) := cell_later hb1 ((World.cell?_alloc_at _ _ _ _ rfl).trans rfl)
  have HB1 : Hid (Below w.heap.size w w1) := Lib.hid ((HB0.out _).trans (hb1.mono (by rw [World.size_alloc]; omega)))
  clear hb1
  gi_wp2
  refine ⟨trivial, ?_⟩
  refine (callsIn_wide.2 (all_any A L.length c _)).mono ?_
  rintro e w2 ⟨rfl, hb2, hp2⟩
  have hs2 : w1.heap.size + 1 < w2.heap.size := by
    rcases Nat.lt_or_ge (w1.heap.size + 1) w2.heap.size with h | h
    · exact h
    · rw [World.size_alloc] at hp2
      have : w2.heap[w1.heap.size + 1]? = none := Array.getElem?_eq_none h
      simp [World.cell?, this] at hp2
  have hq2 : w2.heap[w1.heap.size]? = some (.cells #[.int .i64 0] 3) := (hb2.block _ (by rw [World.size_alloc]; omega)).trans (World.alloc_heap_new _ _)
  gi_wp2
  refine wpIn_counted (F := Fence.wide) (gf := 115) (lb := #[.pointer (some ⟨w1.heap.size + 1, 0, none⟩)]) rfl (by decide) rfl trivial ?eg (all1_in sk L τ _ A c HA.out hc HF.out _) ?size
    (fun k W => (W.cell? ⟨w.heap.size, 0, none⟩ = some (.func (.func g) #[] cap) ∧ W.heap[w1.heap.size]? = some (.cells #[.int .i64 k] 3) ∧ W.cell? ⟨w1.heap.size + 1, 0, none⟩ = some (.slice A L.length c)) ∧ (∃ o, Iu k o W ∧ ∀ g, o = some g → w2.heap.size ≤ g) ∧ w2.heap.size ≤ W.heap.size) ?own (fun k W h => ⟨h.1.2.2, HIM.out _ _ _ h.2.1.choose_spec.1⟩) ?start ?round ?done
  case eg => intro a b; rfl
  case size => intro k; unfold argsOf; cases (slots L)[k]? <;> rfl
  case own =>
    rintro k W W' row ⟨⟨e1, e2, e3⟩, ⟨ow, hi, ho⟩, hsz⟩ hg hr
    have hlt : ∀ (b : Nat), b < w2.heap.size → W'.heap[b]? = W.heap[b]? := fun b hb => hg.block b (by omega) (fun e => by have := (hr b e.symm).1; omega)
    have hc3 : ∀ (b : Nat) (v : Value), b < w2.heap.size → W.cell? ⟨b, 0, none⟩ = some v → W'.cell? ⟨b, 0, none⟩ = some v := fun b v hb hv => by rw [World.cell?_of_block (a := ⟨b, 0, none⟩) (hlt b hb)]; exact hv
    exact ⟨⟨hc3 _ _ (by omega) e1, (hlt _ (by omega)).trans e2, hc3 _ _ (by omega) e3⟩, ⟨ow, HIB.out k ow W W' hi ⟨hg.os, hg.tape, hg.output, hg.size, fun b hb => hlt b (by omega)⟩ (fun g e => by
      obtain ⟨ob, h1, h2⟩ := HIC.out k ow W g hi e
      exact hg.block g (Array.getElem?_eq_some_iff.1 h1).1 (fun e2 => by
        obtain ⟨_, o2, h3, h4⟩ := hr g e2.symm
        rw [h1] at h3
        cases h3
        rw [h2] at h4
        cases h4)), ho⟩, Nat.le_trans hsz hg.size⟩
  case start =>
    rw [World.size_alloc] at hp2
    exact ⟨⟨cell_later hb2 (cell_later ((Below.refl _ _).alloc (Nat.le_refl _) _) hq1), hq2, hp2⟩, ⟨none, HIB.out 0 none w w2 HI0.out (HB1.out.trans ((Below.alloc (Below.refl _ _) (by omega) _).trans (hb2.mono (by rw [World.size_alloc]; omega)))) (fun g e => by cases e), fun g e => by cases e⟩, Nat.le_refl _⟩
  case round =>
    intro l k W hk hI hl hlW hlob
    obtain ⟨s, hs⟩ : ∃ s, (slots L)[k]? = some s := ⟨_, List.getElem?_eq_getElem hk⟩
    have he : argsOf sk (slots L) τ k = #[slotV s (τ k s.pos), placeV sk s] := by unfold argsOf; rw [hs]
    rw [he]
    obtain ⟨⟨e1, e2, e3⟩, ⟨ow, hi, how⟩, hsz⟩ := hI
    have HOC := Lib.hid (fun g => HIC.out k ow W g hi)
    have HOW := Lib.hid how
    have HGL : Hid (∀ g, ow = some g → g ≠ l) := Lib.hid fun g e h => by
      obtain ⟨ob, h1, h2⟩ := hlob
      obtain ⟨oc, h3, h4⟩ := HOC.out g e
      rw [h, h1] at h3
      cases h3
      rw [h2] at h4
      cases h4
    clear hlob
    clear how
    unfold slotV placeV
    dsimp
    gi_wp2
    refine ⟨⟨by rw [World.size_alloc, World.size_alloc]; omega, fun b o' hb ho' hn => ?_⟩, fun o => ?_⟩
    · have hb1 := (Array.getElem?_eq_some_iff.1 ho').1
      rw [Below.heap_alloc _ _ _ (by rw [World.size_alloc]; omega), Below.heap_alloc _ _ _ hb1]; exact ho'
    obtain ⟨X, hX⟩ : ∃ X, X = ((W.alloc (.cells #[.string s.mod, .bool s.imp, .int .i64 s.item, .int .i64 s.node, .bool s.res, .string (τ k s.pos)] 42)).alloc (.cells #[.pointer (some (addr sk s.pos)), .bool s.absent] 98)).putObj l o := ⟨_, rfl⟩
    rw [← hX]
    have hsX : X.heap.size = W.heap.size + 2 := by
      rw [hX]
      show (Array.setIfInBounds _ _ _).size = _
      rw [Array.size_setIfInBounds, World.size_alloc, World.size_alloc]
    have hBX : Below w2.heap.size W X := by
      subst hX
      exact ⟨rfl, rfl, rfl, by rw [hsX]; omega, fun b hb => by rw [World.putObj_heap_other (by omega)]; rw [Below.heap_alloc _ _ _ (by rw [World.size_alloc]; omega), Below.heap_alloc _ _ _ (by omega)]⟩
    have hx7 : X.heap[W.heap.size]? = some (.cells #[.string s.mod, .bool s.imp, .int .i64 s.item, .int .i64 s.node, .bool s.res, .string (τ k s.pos)] 42) := by
      subst hX
      rw [World.putObj_heap_other (by omega), Below.heap_alloc _ _ _ (by rw [World.size_alloc]; omega)]
      exact World.alloc_heap_new _ _
    have hx8 : X.heap[W.heap.size + 1]? = some (.cells #[.pointer (some (addr sk s.pos)), .bool s.absent] 98) := by
      subst hX
      rw [World.putObj_heap_other (by omega), ← World.size_alloc]
      exact World.alloc_heap_new _ _
    have HOX : Hid (∀ g, ow = some g → X.heap[g]? = W.heap[g]?) := Lib.hid fun g e => by
      obtain ⟨ob, h1, h2⟩ := HOC.out g e
      have hlt := (Array.getElem?_eq_some_iff.1 h1).1
      rw [hX, World.putObj_heap_other (HGL.out g e), Below.heap_alloc _ _ _ (by rw [World.size_alloc]; omega), Below.heap_alloc _ _ _ hlt]
    clear hX
    have c1 : X.cell? ⟨w.heap.size, 0, none⟩ = some (.func (.func g) #[] cap) := cellB hBX (by omega) e1
    have h2 : X.heap[w1.heap.size]? = some (.cells #[.int .i64 k] 3) := (hBX.block _ (by omega)).trans e2
    have c2 : X.cell? ⟨w1.heap.size, 0, none⟩ = some (.int .i64 k) := by simp [World.cell?, h2]
    have HH2 := Lib.hid h2
    clear h2
    have c3 : X.cell? ⟨w1.heap.size + 1, 0, none⟩ = some (.slice A L.length c) := cellB hBX (by omega) e3
    have hiX := HIB.out k ow W X hi (hBX.mono (by omega)) HOX.out
    have k0 : ∀ j : Nat, X.cell? ⟨W.heap.size, j, none⟩ = (#[Value.string s.mod, .bool s.imp, .int .i64 s.item, .int .i64 s.node, .bool s.res, .string (τ k s.pos)])[j]? := fun j => by simp [World.cell?, hx7]
    have k1 : ∀ j : Nat, X.cell? ⟨W.heap.size + 1, j, none⟩ = (#[Value.pointer (some (addr sk s.pos)), .bool s.absent])[j]? := fun j => by simp [World.cell?, hx8]
    have a0 := (k0 0).trans rfl
    have a1 := (k0 1).trans rfl
    have a2 := (k0 2).trans rfl
    have a3 := (k0 3).trans rfl
    have a4 := (k0 4).trans rfl
    have a5 := (k0 5).trans rfl
    have b0 := (k1 0).trans rfl
    have b1 := (k1 1).trans rfl
    have HCX := Lib.hid (HC.out k s ow X hs hiX (by omega))
    have HXC := Lib.hid (fun g => HIC.out k ow X g hiX)
    have HK : Hid (k < (slots L).length) := Lib.hid hk
    have HLn := HF.out.len
    clear k0 k1 hx7 hx8 e1 e2 e3 hk he hs hq1 hq2 hp2
    gi_wp2
    refine ⟨trivial, ?_⟩
    refine (CallsIn.inRound l (callsIn_wide.2 HCX.out)).mono ?_
    rintro e X2 ⟨rfl, ho2, ow2, hi2, how2⟩
    have hne : ∀ b, b < w2.heap.size → ow ≠ some b := fun b hb e => by
      have := HOW.out b e
      omega
    have d1 : X2.cell? ⟨w.heap.size, 0, none⟩ = some (.func (.func g) #[] cap) := by rw [World.cell?_of_block (a := ⟨w.heap.size, 0, none⟩) (ho2.same w.heap.size (Nat.le_refl _) (by omega) (hne _ (by omega)))]; exact c1
    have h2 : X2.heap[w1.heap.size]? = some (.cells #[.int .i64 k] 3) := (ho2.same w1.heap.size (by omega) (by omega) (hne _ (by omega))).trans HH2.out
    have d2 : X2.cell? ⟨w1.heap.size, 0, none⟩ = some (.int .i64 k) := by simp [World.cell?, h2]
    have d2f : X2.frozen? ⟨w1.heap.size, 0, none⟩ = false := by simp [World.frozen?, h2]
    have HH3 := Lib.hid h2
    clear h2
    have d3 : X2.cell? ⟨w1.heap.size + 1, 0, none⟩ = some (.slice A L.length c) := by rw [World.cell?_of_block (a := ⟨w1.heap.size + 1, 0, none⟩) (ho2.same (w1.heap.size + 1) (by omega) (by omega) (hne _ (by omega)))]; exact c3
    have hsz2 := ho2.size
    have HS2 := Lib.hid ho2.same
    have HI2 := Lib.hid hi2
    have HW2 : Hid (∀ g, ow2 = some g → w2.heap.size ≤ g) := Lib.hid fun g e => by
      rcases how2 with rfl | ⟨g', e', hg'⟩
      · exact HOW.out g e
      · rw [e'] at e
        cases e
        omega
    have HC2 := Lib.hid (fun g => HIC.out (k + 1) ow2 X2 g hi2)
    clear c1 c2 c3 a0 a1 a2 a3 a4 a5 b0 b1 HCX ho2 hi2 how2 hne
    have hk2 := HK.out
    gi_wp2
    have hz0 : ∀ (b : Nat), b ≠ w1.heap.size → (X2.setCell ⟨w1.heap.size, 0, none⟩ (.int .i64 (k + 1))).heap[b]? = X2.heap[b]? := fun b hb => Below.heap_setCell _ _ _ _ hb
    have hz1 : (X2.setCell ⟨w1.heap.size, 0, none⟩ (.int .i64 (k + 1))).heap.size = X2.heap.size := World.size_setCell _ _ _
    have hz2 : (X2.setCell ⟨w1.heap.size, 0, none⟩ (.int .i64 (k + 1))).heap[w1.heap.size]? = some (.cells #[.int .i64 (k + 1)] 3) := by
      have h3 := HH3.out
      simp only [World.setCell, Array.getElem?_modify]
      rw [if_pos trivial, h3]
      rfl
    refine ⟨⟨by rw [hz1]; omega, fun b o' hb ho' hn => ?_⟩, ⟨?_, ?_, ?_⟩, ?_, ?_⟩
    · rw [hz0 b (by omega), HS2.out b (by omega) (Array.getElem?_eq_some_iff.1 ho').1 (fun e => by
        obtain ⟨ob, h1, h2⟩ := HXC.out b e
        rw [ho'] at h1
        cases h1
        rw [hn] at h2
        cases h2)]; exact ho'
    · rw [World.cell?_of_block (a := ⟨w.heap.size, 0, none⟩) (hz0 w.heap.size (by omega))]; exact d1
    · rw [hz2]; push_cast; rfl
    · rw [World.cell?_of_block (a := ⟨w1.heap.size + 1, 0, none⟩) (hz0 (w1.heap.size + 1) (by omega))]; exact d3
    · exact ⟨ow2, HIB.out _ _ _ _ HI2.out ⟨rfl, rfl, rfl, by rw [hz1]; omega, fun b hb => hz0 b (by omega)⟩ (fun g e => hz0 g (by have := HW2.out g e; omega)), HW2.out⟩
    · rw [hz1]; omega
  case done => 
    intro D W hI hD hd
    obtain ⟨hI1, ⟨ow, hI2, hI3⟩, hI4⟩ := hI
    have HOC := Lib.hid (fun g => HIC.out _ ow W g hI2)
    clear HTM HB0 HIM HA HF HC
    gi_wp2
    refine ⟨by simp, .inl ⟨_, _, rfl, run_takeDeferred hd, ?_⟩⟩
    refine ⟨_, results_tmp rfl _ _ _, rfl, ?_⟩
    exact ⟨⟨ow, HIB.out _ _ _ _ hI2 ⟨rfl, rfl, rfl, Nat.le_of_eq (Array.size_setIfInBounds ..).symm, fun b hb => World.putObj_heap_other (by omega)⟩ (fun g e => World.putObj_heap_other (fun h => by
      obtain ⟨ob, h1, h2⟩ := HOC.out g e
      rw [h, hd] at h1
      cases h1
      cases h2))⟩, by show _ ≤ (Array.setIfInBounds _ _ _).size; rw [Array.size_setIfInBounds]; omega⟩
end Go.Proofs.YtidholghbjljaaaGreatDoor
