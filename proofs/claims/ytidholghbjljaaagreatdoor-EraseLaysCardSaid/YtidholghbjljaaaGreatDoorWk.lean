
/- Walks of erase: what is done in a slot: written, the slots told, the written ones told, a text laid. -/
import Derived.Test.YtidholghbjljaaaGreatDoorWe
import Derived.Test.YtidholghbjljaaaGreatDoorWf
import Derived.Test.YtidholghbjljaaaGreatDoorWi
import Derived.Test.YtidholghbjljaaaGreatDoorFq
namespace Culp.Er
set_option linter.unusedSimpArgs false
set_option linter.unusedVariables false
open Go Culp
def slotC (s : Sl) (t : ByteArray) : List Value := [.string s.mod, .bool s.imp, .int .i64 s.item, .int .i64 s.node, .bool s.res, .string t]
/-- What is laid at a place. -/
def layV (ab : Bool) (t : ByteArray) : ByteArray := if t = no ∧ ab = false then dynB else t
end Culp.Er
namespace Go.Proofs.YtidholghbjljaaaGreatDoor
set_option linter.unusedSimpArgs false
set_option linter.unusedVariables false
open Go.RowKit Culp Culp.Er
theorem eq_no (t : ByteArray) : (t.toList == []) = decide (t = no) := by
  rw [toL', Bool.eq_iff_iff]
  simp only [beq_iff_eq, decide_eq_true_eq]
  exact ⟨fun h => str_inj' h, fun h => by rw [h]; rfl⟩
theorem eq_dyn (t : ByteArray) : (t.toList == [63]) = decide (t = dynB) := by
  rw [toL', Bool.eq_iff_iff]
  simp only [beq_iff_eq, decide_eq_true_eq]
  exact ⟨fun h => str_inj' h, fun h => by rw [h]; rfl⟩
set_option maxHeartbeats 1600000 in
theorem written_any (s : Sl) (t : ByteArray) (w : World) : Calls Tryz.prog 40 #[slotV s t] w (Makes (.bool (isW t)) w) := by
  have HW : Hid (isW t = (!decide (t = no) && !decide (t = dynB))) := Lib.hid rfl
  have HB : Hid (∀ o, Below w.heap.size w (w.alloc o)) := Lib.hid fun o => (Below.refl _ _).alloc (Nat.le_refl _) o
  unfold slotV
  have e1 := eq_no t
  have e2 := eq_dyn t
  generalize decide (t = no) = a at *
  generalize decide (t = dynB) = b at *
  generalize isW t = z at *
  cases a <;> cases b <;>
  · go_enter Tryz.func40, Tryz.ntmps40
    go_wp2_with fail
    go_ret
    exact Makes.mk (bool_congr (by rw [HW.out]; rfl)) (HB.out _)
set_option maxHeartbeats 1600000 in
/-- A text is laid at a place. -/
theorem lay_any (a : Addr) (ab : Bool) (t : ByteArray) (u : Value) (W : World) (hc : W.cell? a = some u) (hf : W.frozen? a = false) :
    Calls Tryz.prog 67 #[.agg #[.pointer (some a), .bool ab], .string t] W fun e W' => e = .returned (.tuple #[]) ∧ Below W.heap.size (W.setCell a (.string (layV ab t))) W' := by
  have hlt := World.block_lt_of_cell? W a hc
  have HD : Hid (∀ z, Below W.heap.size (W.setCell a (.string (layV ab t))) ((W.alloc (.cells #[.pointer (some a), .bool ab] z)).setCell a (.string (layV ab t)))) := Lib.hid fun z => by
    refine ⟨rfl, rfl, rfl, by rw [World.size_setCell, World.size_setCell, World.size_alloc]; omega, fun b hb => ?_⟩
    by_cases e : b = a.block
    · subst e
      simp only [World.setCell, Array.getElem?_modify, if_true]
      rw [Below.heap_alloc _ _ _ hlt]
    · rw [Below.heap_setCell _ _ _ _ e, Below.heap_setCell _ _ _ _ e, Below.heap_alloc _ _ _ hb]
  have e1 := eq_no t
  have HL : Hid (layV ab t = if t = no ∧ ab = false then dynB else t) := Lib.hid rfl
  have hne : ¬ a.block = W.heap.size := by omega
  have hfa : ∀ o, (W.alloc o).frozen? a = false := fun o => by rw [← hf]; unfold World.frozen?; rw [Below.heap_alloc _ _ _ hlt]
  by_cases h0 : t = no
  · rw [decide_eq_true h0] at e1
    cases ab
    · have HV : Hid (layV false t = { data := #[63] }) := Lib.hid (by rw [HL.out, if_pos ⟨h0, rfl⟩]; rfl)
      clear h0 HL
      go_enter Tryz.func67, Tryz.ntmps67
      go_wp2_with fail
      refine bodyPost_end (v := .tuple #[]) (by simp [results, Tryz.results67, go_sem]) rfl ⟨rfl, ?_⟩
      have := HD.out 98
      rw [HV.out] at this ⊢
      exact this
    · have HV : Hid (layV true t = t) := Lib.hid (by rw [HL.out, if_neg (by simp)])
      clear h0 HL
      go_enter Tryz.func67, Tryz.ntmps67
      go_wp2_with fail
      refine bodyPost_end (v := .tuple #[]) (by simp [results, Tryz.results67, go_sem]) rfl ⟨rfl, ?_⟩
      have := HD.out 98
      rw [HV.out] at this ⊢
      exact this
  · rw [decide_eq_false h0] at e1
    have HV : Hid (layV ab t = t) := Lib.hid (by rw [HL.out, if_neg (fun h => h0 h.1)])
    clear h0 HL
    go_enter Tryz.func67, Tryz.ntmps67
    go_wp2_with fail
    refine bodyPost_end (v := .tuple #[]) (by simp [results, Tryz.results67, go_sem]) rfl ⟨rfl, ?_⟩
    have := HD.out 98
    rw [HV.out] at this ⊢
    exact this
/-- A row in a cell has grown. -/
def Pushed (T e : TypeId) (p B sz n : Nat) (xs : List Value) (v : Value) (W : World) (E : Ending) (W' : World) : Prop := E = .returned (.tuple #[]) ∧ ∃ v', One p T v' W' ∧ W'.ownsRow B e sz v' n xs ∧ KeepN p v.ownBlock W W' ∧ (v'.ownBlock = v.ownBlock ∨ ∃ g, v'.ownBlock = some g ∧ W.heap.size ≤ g)
theorem Pushed.mk {T e : TypeId} {p B sz n : Nat} {xs : List Value} {v v' : Value} {W W2 w5 : World} (hp : One p T v W) (hne : v.ownBlock ≠ some p) (h2 : Below W.heap.size W W2) (hown : w5.ownsRow B e sz v' n xs) (hg : W2.grownBy w5 v.ownBlock)
    (hat : v'.ownBlock = v.ownBlock ∨ ∃ g, v'.ownBlock = some g ∧ W.heap.size ≤ g) : Pushed T e p B sz n xs v W (.returned (.tuple #[])) (w5.setCell ⟨p, 0, none⟩ v') := by
  have hl : p < W.heap.size := (Array.getElem?_eq_some_iff.1 hp).1
  have hs := h2.size
  have hk : Keep p w5 (w5.setCell ⟨p, 0, none⟩ v') := (Keep.refl p w5).setCell 0 _
  have hp5 : One p T v w5 := (hg.block p (by omega) (fun e => hne e.symm)).trans ((h2.block p hl).trans hp)
  have hv' : v'.ownBlock ≠ some p := by
    rcases hat with e | ⟨g, e, hg⟩
    · rw [e]; exact hne
    · rw [e]; intro he; injection he with he; omega
  refine ⟨rfl, v', hp5.put v', own_apart_keep hown hk hv', ⟨(hk.os.trans hg.os).trans h2.os, (hk.tape.trans hg.tape).trans h2.tape, (hk.output.trans hg.output).trans h2.output, Nat.le_trans (Nat.le_trans hs hg.size) hk.size, fun b h1 h3 h4 => ?_⟩, hat⟩
  rw [hk.block b (Nat.lt_of_lt_of_le h1 (Nat.le_trans hs hg.size)) h3, hg.block b (by omega) (fun e => h4 e.symm), h2.block b h1]
theorem own_ne_cell {w : World} {B sz n p : Nat} {T e : TypeId} {v u : Value} {xs : List Value} (h : w.ownsRow B e sz v n xs) (h1 : One p T u w) (hne : T ≠ e) : v.ownBlock ≠ some p := own_ne h fun cur hh => by
  unfold One at h1
  rw [h1] at hh
  simp only [Option.some.injEq, Obj.cells.injEq] at hh
  exact hne hh.2.1
theorem slot_info : (Tryz.prog.info? 42).map (fun i => (i.zero, i.size, i.bytes)) = some (some (.agg #[.string ByteArray.empty, .bool false, .int .i64 0, .int .i64 0, .bool false, .string ByteArray.empty]), 6, 64) := by kernel_rfl
set_option maxRecDepth 100000 in
set_option maxHeartbeats 1600000 in
theorem slots1_any (sk : Sk) (s : Sl) (t : ByteArray) (k p B n : Nat) (v : Value) (xs : List Value) (W : World) (hp : One p 26 v W) (hown : W.ownsRow B 42 6 v n xs) (hn : n ≤ 1000000000) (hB : B ≤ W.heap.size) :
    Calls Tryz.prog 38 #[.int .i64 k, slotV s t, placeV sk s, .pointer (some ⟨p, 0, none⟩)] W (Pushed 26 42 p B 6 (n + 1) (xs ++ slotC s t) v W) := by
  have HP := Lib.hid hp
  have HNE := Lib.hid (own_ne_cell hown hp (by decide))
  have HB2 : Hid (∀ a b, Below W.heap.size W ((W.alloc a).alloc b)) := Lib.hid fun a b => below_two W a b
  have c0 := hp.cell
  have f0 := hp.free
  obtain ⟨A, c, rfl⟩ := own_shape hown
  have own4 : ∀ a b, ((W.alloc a).alloc b).ownsRow B 42 6 (.slice A n c) n xs := fun a b => (hown.alloc a).alloc b
  have hpl : p < W.heap.size := (Array.getElem?_eq_some_iff.1 hp).1
  have HO := Lib.hid own4
  clear hp hown own4
  unfold slotV placeV
  go_enter Tryz.func38, Tryz.ntmps38
  go_wp2_with (at_builtin; refine append_agg_at rfl (.tmp 7) (.tmp 9) 26 42 rfl B _ 6 64 Tryz.underlying26 slot_info rfl (by decide) _ _ _ rfl (HO.out _ _) (slotC s t) rfl (W.heap.size + 2) rfl (by simp) ?_ ?_ ?_ ?_ ?_)
  · intro y hy; simp only [slotC, List.mem_cons, List.not_mem_nil, or_false] at hy; rcases hy with rfl | rfl | rfl | rfl | rfl | rfl <;> rfl
  · omega
  · omega
  · simp; omega
  intro v' w5 hown' hg' hb' hat
  have HR := Lib.hid (Pushed.mk HP.out HNE.out (HB2.out _ _) hown' hg' (hat.imp id fun e => ⟨_, e, by omega⟩))
  have h5 : One p 26 (.slice A n c) w5 := (hg'.block p (by simp; omega) (fun e => HNE.out e.symm)).trans (((HB2.out _ _).block p hpl).trans HP.out)
  have c5 := h5.cell
  have f5 := h5.free
  obtain ⟨A5, k5, rfl⟩ := own_shape hown'
  clear hown' hg' hb' hat h5 c0 f0
  go_wp2_with fail
  exact bodyPost_end (v := .tuple #[]) (by simp [results, Tryz.results38, go_sem]) rfl HR.out
set_option maxRecDepth 100000 in
set_option maxHeartbeats 1600000 in
theorem written1_any (sk : Sk) (s : Sl) (t : ByteArray) (k p B n : Nat) (v : Value) (xs : List Value) (W : World) (hp : One p 30 v W) (hown : W.ownsRow B 3 1 v n xs) (hn : n ≤ 1000000000) (hB : B ≤ W.heap.size) (hk : k ≤ 1000000000) :
    Calls Tryz.prog 39 #[.int .i64 k, slotV s t, placeV sk s, .pointer (some ⟨p, 0, none⟩)] W (Pushed 30 3 p B 1 (if isW t = true then n + 1 else n) (if isW t = true then xs ++ [.int .i64 k] else xs) v W) := by
  have HP := Lib.hid hp
  have HNE := Lib.hid (own_ne_cell hown hp (by decide))
  have hpl : p < W.heap.size := (Array.getElem?_eq_some_iff.1 hp).1
  have HB2 : Hid (∀ a b, Below W.heap.size W ((W.alloc a).alloc b)) := Lib.hid fun a b => below_two W a b
  have HO := Lib.hid hown
  have hW := written_any s t
  obtain ⟨A, c, rfl⟩ := own_shape hown
  clear hp hown
  have HW : Hid (∀ W, Calls Tryz.prog 40 #[slotV s t] W (Makes (.bool (isW t)) W)) := Lib.hid hW
  clear hW
  unfold slotV at HW ⊢
  unfold placeV
  generalize isW t = z at *
  obtain ⟨N, hN⟩ : ∃ N, N = if z = true then n + 1 else n := ⟨_, rfl⟩
  obtain ⟨ys, hys⟩ : ∃ ys, ys = if z = true then xs ++ [.int .i64 (k : Int)] else xs := ⟨_, rfl⟩
  rw [← hN, ← hys]
  have HN := Lib.hid hN
  have HY := Lib.hid hys
  clear hN hys
  go_enter Tryz.func39, Tryz.ntmps39
  go_wp2_with fail
  refine (HW.out _).mono ?_
  rintro e w3 ⟨rfl, hb3⟩
  have HB3 := Lib.hid (below_later hb3 (HB2.out _ _))
  clear hb3
  have h3 : One p 30 (.slice A n c) w3 := (HB3.out.block p hpl).trans HP.out
  have c0 := h3.cell
  have f0 := h3.free
  have own4 := own_later HO.out HB3.out
  have hs3 := HB3.out.size
  have H3 := Lib.hid h3
  clear h3
  cases z with
  | false =>
    clear own4
    go_wp2_with fail
    refine bodyPost_end (v := .tuple #[]) (by simp [results, Tryz.results39, go_sem]) rfl ?_
    rw [HN.out, HY.out]
    exact ⟨rfl, _, H3.out, own_later HO.out HB3.out, KeepN.of _ _ HB3.out, .inl rfl⟩
  | true =>
    go_wp2_with (at_builtin; refine append_agg_at rfl (.tmp 9) (.tmp 11) 30 3 rfl B _ 1 8 Tryz.underlying30 int_info rfl (by decide) _ _ _ rfl own4 [.int .i64 k] rfl w3.heap.size rfl rfl ?_ ?_ ?_ ?_ ?_)
    · intro y hy; simp only [List.mem_cons, List.not_mem_nil, or_false] at hy; subst hy; rfl
    · omega
    · omega
    · omega
    intro v' w5 hown' hg' hb' hat
    have HR := Lib.hid (Pushed.mk HP.out HNE.out HB3.out hown' hg' (hat.imp id fun e => ⟨_, e, by omega⟩))
    have h5 : One p 30 (.slice A n c) w5 := (hg'.block p (by omega) (fun e => HNE.out e.symm)).trans H3.out
    have c5 := h5.cell
    have f5 := h5.free
    obtain ⟨A5, k5, rfl⟩ := own_shape hown'
    clear hown' hg' hb' hat h5 c0 f0 own4
    go_wp2_with fail
    exact bodyPost_end (v := .tuple #[]) (by simp [results, Tryz.results39, go_sem]) rfl (by rw [HN.out, HY.out]; exact HR.out)
end Go.Proofs.YtidholghbjljaaaGreatDoor

namespace Go.Proofs.YtidholghbjljaaaGreatDoor
set_option linter.unusedSimpArgs false
set_option linter.unusedVariables false
open Go.RowKit Culp Culp.Er
attribute [local go_sem] Oper.semAt_some
set_option maxRecDepth 100000 in
set_option maxHeartbeats 6400000 in
/-- Where tree.Modules has a word against them, each hands it on. -/
theorem each_bad (L : List Md) (v : Value) (hv : ∃ A n c, v = .slice A n c) (g : Nat) (cap : Array Value) (w : World) (hm : Mods w v L) (hS : Sp w) (hl : L.length ≤ 1000000000000000) (hz : ∀ m ∈ L, MdSz m) (h0 : Mo.mods L ≠ 0) :
    Calls Tryz.prog 37 #[v, .func (.func g) #[] cap] w fun e w' => e = .returned (.int .i64 (Mo.mods L : Nat)) ∧ Below w.heap.size w w' := by
  have HTM : Hid (∀ o, Calls Tryz.prog 88 #[v] (w.alloc o) (Makes (.int .i64 (Mo.mods L : Nat)) (w.alloc o))) := Lib.hid fun o =>
    tModules_any L v (w.alloc o) (hm.later ((Below.refl _ _).alloc (Nat.le_refl _) o)) (hS.later ((Below.refl _ _).alloc (Nat.le_refl _) o)) hl hz
  obtain ⟨A, n, c, rfl⟩ := hv
  have hn : ((Mo.mods L : Nat) : Int) ≠ 0 := by omega
  generalize ((Mo.mods L : Nat) : Int) = z at *
  clear hm hS hl hz h0
  refine (callsIn_wide (n := 9)).1 ?_
  refine callsIn_of_wp_marks Tryz.func37 rfl trivial ?_ rfl
  simp only [Tryz.ntmps37, List.size_toArray, List.length_cons, List.length_nil, Nat.reduceAdd, Nat.reduceSub, Array.replicate_succ, Array.replicate_zero, List.push_toArray, List.append_toArray, List.nil_append, List.cons_append]
  gi_wp2
  refine ⟨trivial, ?_⟩
  refine (callsIn_wide.2 (HTM.out _)).mono ?_
  rintro e w1 ⟨rfl, hb1⟩
  gi_wp2
  exact ⟨_, results_tmp rfl _ _ _, rfl, ((Below.refl _ _).alloc (Nat.le_refl _) _).trans (hb1.mono (by rw [World.size_alloc]; omega))⟩
end Go.Proofs.YtidholghbjljaaaGreatDoor

/- Walks of erase: Slots and Written. -/
namespace Culp.Er
set_option linter.unusedSimpArgs false
set_option linter.unusedVariables false
open Culp Culp.Mo
theorem slX_len (nm : ByteArray) (m i k : Nat) (x : Nd) : (slX nm m i k x).length ≤ 2 := by
  unfold slX
  rw [List.length_append]
  split <;> split <;> simp
theorem slT_len (nm : ByteArray) (m i : Nat) : ∀ (k : Nat) (T : List Nd), (slT nm m i k T).length ≤ 2 * T.length
  | _, [] => by simp [slT]
  | k, x :: T => by
    have h1 := slX_len nm m i k x
    have h2 := slT_len nm m i (k + 1) T
    rw [slT, List.length_append, List.length_cons]; omega
theorem slD_len (nm : ByteArray) (m : Nat) : ∀ (i : Nat) (D : List Df), (slD nm m i D).length ≤ D.length + 2 * nodesD D
  | _, [] => by simp [slD]
  | i, d :: D => by
    have h1 := slT_len nm m i 0 d.tree
    have h2 := slD_len nm m (i + 1) D
    have h3 : nodesD (d :: D) = d.tree.length + nodesD D := by unfold nodesD; rw [List.map_cons, List.sum_cons]
    rw [slD, List.length_cons, List.length_append, List.length_cons, h3]; omega
theorem slM_len : ∀ (m : Nat) (L : List Md), (∀ md ∈ L, md.imps.length + md.defs.length ≤ 64) → (slM m L).length ≤ 64 * L.length + 2 * nodesM L
  | _, [], _ => by simp [slM]
  | m, md :: L, h => by
    have h0 := h md List.mem_cons_self
    have h1 := slI_len md.name m 0 md.imps
    have h2 := slD_len md.name m 0 md.defs
    have h3 := slM_len (m + 1) L fun x hx => h x (List.mem_cons_of_mem _ hx)
    have h4 : nodesM (md :: L) = nodesD md.defs + nodesM L := by unfold nodesM; rw [List.map_cons, List.sum_cons]
    rw [slM, List.length_append, List.length_append, List.length_cons, h4]; omega
theorem fits_of {L : List Md} (h : mods L = 0) : Fits L := by
  obtain ⟨h1, h2, h3⟩ := mods_zero.1 h
  obtain ⟨h4, h5⟩ := few_len h1
  refine ⟨?_, by omega, fun m md hm => ?_⟩
  · have := slM_len 0 L h5
    unfold slots; omega
  · have hmem := List.mem_of_getElem? hm
    have := h5 md hmem
    refine ⟨by omega, fun i d hd => ?_⟩
    have := check_small ((modE_zero.1 (h3 md hmem)).2 d (List.mem_of_getElem? hd)).2
    omega
theorem fits_small {L : List Md} (h : mods L = 0) : (slots L).length ≤ 8704 := by
  obtain ⟨h1, h2, h3⟩ := mods_zero.1 h
  obtain ⟨h4, h5⟩ := few_len h1
  have := slM_len 0 L h5
  unfold slots; omega
/-- What is told of the slots. -/
def told (L : List Md) : List Sl := if mods L = 0 then slots L else []
def idxW (S : List Sl) (f : Pos → ByteArray) (k : Nat) : List Nat := (List.range k).filter fun j => isW (f ((S[j]?).elim (0, 0, 0, 0) Sl.pos))
def toldW (L : List Md) : List Nat := if mods L = 0 then idxW (slots L) (note L) (slots L).length else []
theorem idxW_len (S : List Sl) (f : Pos → ByteArray) (k : Nat) : (idxW S f k).length ≤ k := by
  unfold idxW
  exact Nat.le_trans (List.length_filter_le _ _) (by simp)
theorem idxW_step {S : List Sl} {f : Pos → ByteArray} {k : Nat} {s : Sl} (h : S[k]? = some s) : idxW S f (k + 1) = if isW (f s.pos) = true then idxW S f k ++ [k] else idxW S f k := by
  unfold idxW
  rw [List.range_succ, List.filter_append]
  simp only [List.filter_cons, List.filter_nil, h, Option.elim_some]
  split <;> simp
end Culp.Er
namespace Go.Proofs.YtidholghbjljaaaGreatDoor
set_option linter.unusedSimpArgs false
set_option linter.unusedVariables false
open Go.RowKit Culp Culp.Er
/-- A row of one's own in a cell, while the slots are gone over. -/
def RowI (T e : TypeId) (p sz : Nat) (W0 : World) (ys : Nat → List Value) (cnt : Nat → Nat) (k : Nat) (o : Option Nat) (W : World) : Prop := Below p W0 W ∧ ∃ v, One p T v W ∧ W.ownsRow (p + 1) e sz v (cnt k) (ys k) ∧ v.ownBlock = o
section
variable {T e : TypeId} {p sz : Nat} {W0 : World} {ys : Nat → List Value} {cnt : Nat → Nat} {k : Nat} {o : Option Nat} {W W' : World}
theorem RowI.cells {g : Nat} (h : RowI T e p sz W0 ys cnt k o W) (hg : o = some g) : ∃ ob : Obj, W.heap[g]? = some ob ∧ ob.isCells = true := by
  obtain ⟨-, v, -, h2, h3⟩ := h
  rcases h2.2 with ⟨rfl, _⟩ | ⟨g', cap, cur, rfl, _, hh, _⟩
  · rw [← h3] at hg; cases hg
  · rw [← h3] at hg
    injection hg with hg
    obtain rfl : g' = g := hg
    exact ⟨_, hh, rfl⟩
theorem own_same {base n : Nat} {v : Value} {xs : List Value} (h : W.ownsRow base e sz v n xs) (hs : ∀ g, v.ownBlock = some g → W'.heap[g]? = W.heap[g]?) : W'.ownsRow base e sz v n xs := by
  refine ⟨h.1, ?_⟩
  rcases h.2 with h2 | ⟨g, cap, cur, rfl, hb, hh, h3⟩
  · exact .inl h2
  · exact .inr ⟨g, cap, cur, rfl, hb, (hs g rfl).trans hh, h3⟩
theorem RowI.keep (h : RowI T e p sz W0 ys cnt k o W) (hb : Below (p + 1) W W') (hs : ∀ g, o = some g → W'.heap[g]? = W.heap[g]?) : RowI T e p sz W0 ys cnt k o W' := by
  obtain ⟨h0, v, h1, h2, h3⟩ := h
  refine ⟨h0.trans (hb.mono (Nat.le_succ _)), v, (hb.block p (Nat.lt_succ_self _)).trans h1, own_same h2 fun g hg => hs g (h3 ▸ hg), h3⟩
theorem RowI.start (hp : W0.heap.size = p) (h0 : ys 0 = []) (hc : cnt 0 = 0) : RowI T e p sz W0 ys cnt 0 none (W0.alloc (.cells #[.slice none 0 0] T)) := by
  subst hp
  exact ⟨(Below.refl _ _).alloc (Nat.le_refl _) _, .slice none 0 0, (MapKept.heap_alloc W0 _).1, ⟨by rw [h0, hc]; simp, .inl ⟨rfl, hc⟩⟩, rfl⟩
theorem RowI.push {E : Ending} {v : Value} (hp : W0.heap.size = p) (hb : Below p W0 W) (hv : v.ownBlock = o) (ho : ∀ g, o = some g → p + 1 ≤ g) (h : Pushed T e p (p + 1) sz (cnt (k + 1)) (ys (k + 1)) v W E W') : E = .returned (.tuple #[]) ∧ Over (p + 1) o W W' ∧ ∃ o', RowI T e p sz W0 ys cnt (k + 1) o' W' ∧ (o' = o ∨ ∃ g, o' = some g ∧ W.heap.size ≤ g) := by
  obtain ⟨rfl, v', h1, h2, h3, h4⟩ := h
  rw [hv] at h3 h4
  have hs := hb.size
  refine ⟨rfl, ⟨h3.size, fun b hb1 hb2 hb3 => h3.block b hb2 (by omega) hb3⟩, v'.ownBlock, ⟨h3.below hb (by omega) (Nat.le_refl _) (fun g e => by have := ho g e; omega), v', h1, h2, rfl⟩, h4⟩
theorem own_over {base n g : Nat} {v : Value} {xs : List Value} (h : W.ownsRow base e sz v n xs) (hg : v.ownBlock = some g) : base ≤ g := (h.lt g hg).1
end
def SlotsRes (L : List Md) (w : World) (E : Ending) (w' : World) : Prop := ∃ v, E = .returned (.tuple #[v, .int .i64 (Mo.mods L : Nat)]) ∧ Below w.heap.size w w' ∧ w'.ownsRow w.heap.size 42 6 v (told L).length ((told L).flatMap fun s => slotC s (note L s.pos))
def WrittenRes (L : List Md) (w : World) (E : Ending) (w' : World) : Prop := ∃ v, E = .returned (.tuple #[v, .int .i64 (Mo.mods L : Nat)]) ∧ Below w.heap.size w w' ∧ w'.ownsRow w.heap.size 3 1 v (toldW L).length ((toldW L).map fun j => .int .i64 (j : Nat))
theorem takeC {S : List Sl} {f : Pos → ByteArray} {k : Nat} {s : Sl} (h : S[k]? = some s) : (S.take (k + 1)).flatMap (fun s => slotC s (f s.pos)) = (S.take k).flatMap (fun s => slotC s (f s.pos)) ++ slotC s (f s.pos) := by
  rw [List.take_add_one, h, List.flatMap_append]
  simp
set_option maxRecDepth 100000 in
set_option maxHeartbeats 1600000 in
theorem Slots_any (L : List Md) (v : Value) (w : World) (hm : Mods w v L) (hS : Sp w) (hl : L.length ≤ 1000000000000000) (hz : ∀ m ∈ L, MdSz m) : Calls Tryz.prog 9 #[v] w (SlotsRes L w) := by
  have hba : ∀ o, Below w.heap.size w (w.alloc o) := fun o => (Below.refl _ _).alloc (Nat.le_refl _) o
  by_cases h0 : Mo.mods L = 0
  · have hft := fits_of h0
    have hlen := hft.len
    have HT : Hid (told L = slots L) := Lib.hid (by unfold told; rw [if_pos h0])
    obtain ⟨sk, hM, hv, hu⟩ := sk_of_mods hm
    obtain ⟨A, c, rfl, hc, hA⟩ := hv
    have key : Calls Tryz.prog 37 #[.slice A L.length c, .func (.func 38) #[] #[.pointer (some ⟨w.heap.size, 0, none⟩)]] (w.alloc (.cells #[.slice none 0 0] 26)) fun e w' => e = .returned (.int .i64 0) ∧ (∃ o, RowI 26 42 w.heap.size 6 w (fun k => ((slots L).take k).flatMap fun s => slotC s (note L s.pos)) (fun k => k) (slots L).length o w') ∧ (w.alloc (.cells #[.slice none 0 0] 26)).heap.size ≤ w'.heap.size := by
      have hsz : (w.alloc (.cells #[.slice none 0 0] 26)).heap.size = w.heap.size + 1 := World.size_alloc _ _
      refine each_ok sk L (fun _ => note L) A c hA hc hft 38 (by intro a b; rfl) _ _ (hS.later (hba _)) (by rw [lay_note]; exact hz) (by rw [lay_note]; exact h0) (fun k o W => RowI 26 42 w.heap.size 6 w (fun k => ((slots L).take k).flatMap fun s => slotC s (note L s.pos)) (fun k => k) k o W)
        (fun k o W g h hg => h.cells hg) (fun k o W W' h hb hs => h.keep (by rw [hsz] at hb; exact hb) hs) (fun k o W h => hM.keep hu h.1) (RowI.start rfl rfl rfl) ?_
      intro k s o W hs hI hlt
      obtain ⟨hB, u, h1, h2, h3⟩ := hI
      have hk := (List.getElem?_eq_some_iff.1 hs).1
      have hsW := hB.size
      rw [hsz] at hlt ⊢
      refine (slots1_any sk s (note L s.pos) k w.heap.size (w.heap.size + 1) k u _ W h1 h2 (by omega) (by omega)).mono fun E W' hP => ?_
      have hP2 : Pushed 26 42 w.heap.size (w.heap.size + 1) 6 (k + 1) (((slots L).take (k + 1)).flatMap fun s => slotC s (note L s.pos)) u W E W' := by rw [takeC (f := note L) hs]; exact hP
      exact RowI.push rfl hB h3 (fun g hg => own_over h2 (h3.trans hg)) hP2
    have HK := Lib.hid key
    have H0 : Hid ((Mo.mods L : Nat) = 0) := Lib.hid h0
    clear key hM hu hc hA hft h0 hS hz hm hba
    go_enter Tryz.func9, Tryz.ntmps9
    go_wp2_with fail
    refine HK.out.mono ?_
    rintro E w2 ⟨rfl, ⟨o, hB, u, h1, h2, h3⟩, -⟩
    have c0 := h1.cell
    have HB := Lib.hid hB
    have HO := Lib.hid h2
    clear h1 h2 h3 hB HK
    go_wp2_with fail
    refine bodyPost_ret (v := .tuple #[u, .int .i64 0]) (by simp [results, Tryz.results9, go_sem]) rfl ?_
    refine ⟨u, by rw [H0.out]; rfl, HB.out, ?_⟩
    have h2 := HO.out
    rw [List.take_length] at h2
    rw [HT.out]
    exact own_base h2 (Nat.le_succ _)
  · have HT : Hid (told L = []) := Lib.hid (by unfold told; rw [if_neg h0])
    obtain ⟨A, c, rfl⟩ := hm.form
    have HK := Lib.hid (each_bad L (.slice A L.length c) ⟨A, _, c, rfl⟩ 38 #[.pointer (some ⟨w.heap.size, 0, none⟩)] (w.alloc (.cells #[.slice none 0 0] 26)) (hm.later (hba _)) (hS.later (hba _)) hl hz h0)
    have HB0 := Lib.hid (hba (.cells #[.slice none 0 0] 26))
    clear hm hba h0 hS hz hl
    obtain ⟨z, HZ⟩ : ∃ z, Hid (Mo.mods L = z) := ⟨_, Lib.hid rfl⟩
    rw [HZ.out] at HK
    go_enter Tryz.func9, Tryz.ntmps9
    go_wp2_with fail
    refine HK.out.mono ?_
    rintro E w2 ⟨rfl, hb2⟩
    have c0 : w2.cell? ⟨w.heap.size, 0, none⟩ = some (.slice none 0 0) := cell_later hb2 ((World.cell?_alloc_at _ _ _ _ rfl).trans rfl)
    have HB := Lib.hid (below_later hb2 HB0.out)
    clear hb2 HK
    go_wp2_with fail
    refine bodyPost_ret (v := .tuple #[.slice none 0 0, .int .i64 (z : Nat)]) (by simp [results, Tryz.results9, go_sem]) rfl ?_
    exact ⟨_, by rw [HZ.out], HB.out, by rw [HT.out]; exact ⟨rfl, .inl ⟨rfl, rfl⟩⟩⟩
set_option maxRecDepth 100000 in
set_option maxHeartbeats 1600000 in
theorem Written_any (L : List Md) (v : Value) (w : World) (hm : Mods w v L) (hS : Sp w) (hl : L.length ≤ 1000000000000000) (hz : ∀ m ∈ L, MdSz m) : Calls Tryz.prog 10 #[v] w (WrittenRes L w) := by
  have hba : ∀ o, Below w.heap.size w (w.alloc o) := fun o => (Below.refl _ _).alloc (Nat.le_refl _) o
  by_cases h0 : Mo.mods L = 0
  · have hft := fits_of h0
    have hlen := hft.len
    have HT : Hid (toldW L = idxW (slots L) (note L) (slots L).length) := Lib.hid (by unfold toldW; rw [if_pos h0])
    obtain ⟨sk, hM, hv, hu⟩ := sk_of_mods hm
    obtain ⟨A, c, rfl, hc, hA⟩ := hv
    have key : Calls Tryz.prog 37 #[.slice A L.length c, .func (.func 39) #[] #[.pointer (some ⟨w.heap.size, 0, none⟩)]] (w.alloc (.cells #[.slice none 0 0] 30)) fun e w' => e = .returned (.int .i64 0) ∧ (∃ o, RowI 30 3 w.heap.size 1 w (fun k => (idxW (slots L) (note L) k).map fun j => .int .i64 (j : Nat)) (fun k => (idxW (slots L) (note L) k).length) (slots L).length o w') ∧ (w.alloc (.cells #[.slice none 0 0] 30)).heap.size ≤ w'.heap.size := by
      have hsz : (w.alloc (.cells #[.slice none 0 0] 30)).heap.size = w.heap.size + 1 := World.size_alloc _ _
      refine each_ok sk L (fun _ => note L) A c hA hc hft 39 (by intro a b; rfl) _ _ (hS.later (hba _)) (by rw [lay_note]; exact hz) (by rw [lay_note]; exact h0) (fun k o W => RowI 30 3 w.heap.size 1 w (fun k => (idxW (slots L) (note L) k).map fun j => .int .i64 (j : Nat)) (fun k => (idxW (slots L) (note L) k).length) k o W)
        (fun k o W g h hg => h.cells hg) (fun k o W W' h hb hs => h.keep (by rw [hsz] at hb; exact hb) hs) (fun k o W h => hM.keep hu h.1) (RowI.start rfl rfl rfl) ?_
      intro k s o W hs hI hlt
      obtain ⟨hB, u, h1, h2, h3⟩ := hI
      have hk := (List.getElem?_eq_some_iff.1 hs).1
      have hki := idxW_len (slots L) (note L) k
      have hsW := hB.size
      rw [hsz] at hlt ⊢
      refine (written1_any sk s (note L s.pos) k w.heap.size (w.heap.size + 1) (idxW (slots L) (note L) k).length u _ W h1 h2 (by omega) (by omega) (by omega)).mono fun E W' hP => ?_
      have hP2 : Pushed 30 3 w.heap.size (w.heap.size + 1) 1 (idxW (slots L) (note L) (k + 1)).length ((idxW (slots L) (note L) (k + 1)).map fun j => .int .i64 (j : Nat)) u W E W' := by
        rw [idxW_step hs]
        split
        · rename_i hw
          rw [if_pos hw, if_pos hw] at hP
          simpa using hP
        · rename_i hw
          rw [if_neg hw, if_neg hw] at hP
          exact hP
      exact RowI.push rfl hB h3 (fun g hg => own_over h2 (h3.trans hg)) hP2
    have HK := Lib.hid key
    have H0 : Hid ((Mo.mods L : Nat) = 0) := Lib.hid h0
    clear key hM hu hc hA hft h0 hS hz hm hba
    go_enter Tryz.func10, Tryz.ntmps10
    go_wp2_with fail
    refine HK.out.mono ?_
    rintro E w2 ⟨rfl, ⟨o, hB, u, h1, h2, h3⟩, -⟩
    have c0 := h1.cell
    have HB := Lib.hid hB
    have HO := Lib.hid h2
    clear h1 h2 h3 hB HK
    go_wp2_with fail
    refine bodyPost_ret (v := .tuple #[u, .int .i64 0]) (by simp [results, Tryz.results10, go_sem]) rfl ?_
    refine ⟨u, by rw [H0.out]; rfl, HB.out, ?_⟩
    have h2 := HO.out
    rw [HT.out]
    exact own_base h2 (Nat.le_succ _)
  · have HT : Hid (toldW L = []) := Lib.hid (by unfold toldW; rw [if_neg h0])
    obtain ⟨A, c, rfl⟩ := hm.form
    have HK := Lib.hid (each_bad L (.slice A L.length c) ⟨A, _, c, rfl⟩ 39 #[.pointer (some ⟨w.heap.size, 0, none⟩)] (w.alloc (.cells #[.slice none 0 0] 30)) (hm.later (hba _)) (hS.later (hba _)) hl hz h0)
    have HB0 := Lib.hid (hba (.cells #[.slice none 0 0] 30))
    clear hm hba h0 hS hz hl
    obtain ⟨z, HZ⟩ : ∃ z, Hid (Mo.mods L = z) := ⟨_, Lib.hid rfl⟩
    rw [HZ.out] at HK
    go_enter Tryz.func10, Tryz.ntmps10
    go_wp2_with fail
    refine HK.out.mono ?_
    rintro E w2 ⟨rfl, hb2⟩
    have c0 : w2.cell? ⟨w.heap.size, 0, none⟩ = some (.slice none 0 0) := cell_later hb2 ((World.cell?_alloc_at _ _ _ _ rfl).trans rfl)
    have HB := Lib.hid (below_later hb2 HB0.out)
    clear hb2 HK
    go_wp2_with fail
    refine bodyPost_ret (v := .tuple #[.slice none 0 0, .int .i64 (z : Nat)]) (by simp [results, Tryz.results10, go_sem]) rfl ?_
    exact ⟨_, by rw [HZ.out], HB.out, by rw [HT.out]; exact ⟨rfl, .inl ⟨rfl, rfl⟩⟩⟩
end Go.Proofs.YtidholghbjljaaaGreatDoor
