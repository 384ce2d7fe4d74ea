
/- Walks of erase: what is done in a slot: written, the slots told, the written ones told, a text laid. -/
import Derived.Test.YtidholghbjljaaaGreatDoorWe
import Derived.Test.YtidholghbjljaaaGreatDoorWf
import Derived.Test.YtidholghbjljaaaGreatDoorWi
import Derived.Test.YtidholghbjljaaaGreatDoorFq
namespace Culp.Er
set_option linter.unusedSimpArgs false
set_option linter.unusedVariables false
open Go Culp
def slotC (s : Sl) (t : ByteArray) : List Value := [.string s.mod, .bool s.imp, .int .i64 s.item, .int .i64 s.node, .bool s.res, .string t]
theorem slotV_eq (s : Sl) (t : ByteArray) : slotV s t = .agg (slotC s t).toArray := rfl
/-- What is laid at a place. -/
def layV (ab : Bool) (t : ByteArray) : ByteArray := if t = no ∧ ab = false then dynB else t
end Culp.Er
namespace Go.Proofs.YtidholghbjljaaaGreatDoor
set_option linter.unusedSimpArgs false
set_option linter.unusedVariables false
open Go.RowKit Culp Culp.Er
theorem eq_no (t : ByteArray) : (t.toList == []) = decide (t = no) := by
  rw [toL', Bool.eq_iff_iff]
  simp only [beq_iff_eq, decide_eq_true_eq]
  exact ⟨fun h => str_inj' h, fun h => by rw [h]; rfl⟩
theorem eq_dyn (t : ByteArray) : (t.toList == [63]) = decide (t = dynB) := by
  rw [toL', Bool.eq_iff_iff]
  simp only [beq_iff_eq, decide_eq_true_eq]
  exact ⟨fun h => str_inj' h, fun h => by rw [h]; rfl⟩
set_option maxHeartbeats 1600000 in
theorem written_any (s : Sl) (t : ByteArray) (w : World) : Calls Tryz.prog 40 #[slotV s t] w (Makes (.bool (isW t)) w) := by
  have HW : Hid (isW t = (!decide (t = no) && !decide (t = dynB))) := Lib.hid rfl
  have HB : Hid (∀ o, Below w.heap.size w (w.alloc o)) := Lib.hid fun o => (Below.refl _ _).alloc (Nat.le_refl _) o
  unfold slotV
  have e1 := eq_no t
  have e2 := eq_dyn t
  generalize decide (t = no) = a at *
  generalize decide (t = dynB) = b at *
  generalize isW t = z at *
  cases a <;> cases b <;>
  · go_enter Tryz.func40, Tryz.ntmps40
    go_wp2_with fail
    go_ret
    exact Makes.mk (bool_congr (by rw [HW.out]; rfl)) (HB.out _)
set_option maxHeartbeats 1600000 in
/-- A text is laid at a place. -/
theorem lay_any (a : Addr) (ab : Bool) (t : ByteArray) (u : Value) (W : World) (hc : W.cell? a = some u) (hf : W.frozen? a = false) :
    Calls Tryz.prog 67 #[.agg #[.pointer (some a), .bool ab], .string t] W fun e W' => e = .returned (.tuple #[]) ∧ Below W.heap.size (W.setCell a (.string (layV ab t))) W' := by
  have hlt := World.block_lt_of_cell? W a hc
  have HD : Hid (∀ z, Below W.heap.size (W.setCell a (.string (layV ab t))) ((W.alloc (.cells #[.pointer (some a), .bool ab] z)).setCell a (.string (layV ab t)))) := Lib.hid fun z => by
    refine ⟨rfl, rfl, rfl, by rw [World.size_setCell, World.size_setCell, World.size_alloc]; omega, fun b hb => ?_⟩
    by_cases e : b = a.block
    · subst e
      simp only [World.setCell, Array.getElem?_modify, if_true]
      rw [Below.heap_alloc _ _ _ hlt]
    · rw [Below.heap_setCell _ _ _ _ e, Below.heap_setCell _ _ _ _ e, Below.heap_alloc _ _ _ hb]
  have e1 := eq_no t
  have HL : Hid (layV ab t = if t = no ∧ ab = false then dynB else t) := Lib.hid rfl
  have hne : ¬ a.block = W.heap.size := by omega
  have hfa : ∀ o, (W.alloc o).frozen? a = false := fun o => by rw [← hf]; unfold World.frozen?; rw [Below.heap_alloc _ _ _ hlt]
  by_cases h0 : t = no
  · rw [decide_eq_true h0] at e1
    cases ab
    · have HV : Hid (layV false t = { data := #[63] }) := Lib.hid (by rw [HL.out, if_pos ⟨h0, rfl⟩]; rfl)
      clear h0 HL
      go_enter Tryz.func67, Tryz.ntmps67
      go_wp2_with fail
      refine bodyPost_end (v := .tuple #[]) (by simp [results, Tryz.results67, go_sem]) rfl ⟨rfl, ?_⟩
      have := HD.out 98
      rw [HV.out] at this ⊢
      exact this
    · have HV : Hid (layV true t = t) := Lib.hid (by rw [HL.out, if_neg (by simp)])
      clear h0 HL
      go_enter Tryz.func67, Tryz.ntmps67
      go_wp2_with fail
      refine bodyPost_end (v := .tuple #[]) (by simp [results, Tryz.results67, go_sem]) rfl ⟨rfl, ?_⟩
      have := HD.out 98
      rw [HV.out] at this ⊢
      exact this
  · rw [decide_eq_false h0] at e1
    have HV : Hid (layV ab t = t) := Lib.hid (by rw [HL.out, if_neg (fun h => h0 h.1)])
    clear h0 HL
    go_enter Tryz.func67, Tryz.ntmps67
    go_wp2_with fail
    refine bodyPost_end (v := .tuple #[]) (by simp [results, Tryz.results67, go_sem]) rfl ⟨rfl, ?_⟩
    have := HD.out 98
    rw [HV.out] at this ⊢
    exact this
/-- A row in a cell has grown. -/
def Pushed (T e : TypeId) (p B sz n : Nat) (xs : List Value) (v : Value) (W : World) (E : Ending) (W' : World) : Prop := E = .returned (.tuple #[]) ∧ ∃ v', One p T v' W' ∧ W'.ownsRow B e sz v' n xs ∧ KeepN p v.ownBlock W W' ∧ (v'.ownBlock = v.ownBlock ∨ ∃ g, v'.ownBlock = some g ∧ W.heap.size ≤ g)
theorem Pushed.mk {T e : TypeId} {p B sz n : Nat} {xs : List Value} {v v' : Value} {W W2 w5 : World} (hp : One p T v W) (hne : v.ownBlock ≠ some p) (h2 : Below W.heap.size W W2) (hown : w5.ownsRow B e sz v' n xs) (hg : W2.grownBy w5 v.ownBlock)
    (hat : v'.ownBlock = v.ownBlock ∨ ∃ g, v'.ownBlock = some g ∧ W.heap.size ≤ g) : Pushed T e p B sz n xs v W (.returned (.tuple #[])) (w5.setCell ⟨p, 0, none⟩ v') := by
  have hl : p < W.heap.size := (Array.getElem?_eq_some_iff.1 hp).1
  have hs := h2.size
  have hk : Keep p w5 (w5.setCell ⟨p, 0, none⟩ v') := (Keep.refl p w5).setCell 0 _
  have hp5 : One p T v w5 := (hg.block p (by omega) (fun e => hne e.symm)).trans ((h2.block p hl).trans hp)
  have hv' : v'.ownBlock ≠ some p := by
    rcases hat with e | ⟨g, e, hg⟩
    · rw [e]; exact hne
    · rw [e]; intro he; injection he with he; omega
  refine ⟨rfl, v', hp5.put v', own_apart_keep hown hk hv', ⟨(hk.os.trans hg.os).trans h2.os, (hk.tape.trans hg.tape).trans h2.tape, (hk.output.trans hg.output).trans h2.output, Nat.le_trans (Nat.le_trans hs hg.size) hk.size, fun b h1 h3 h4 => ?_⟩, hat⟩
  rw [hk.block b (Nat.lt_of_lt_of_le h1 (Nat.le_trans hs hg.size)) h3, hg.block b (by omega) (fun e => h4 e.symm), h2.block b h1]
theorem own_ne_cell {w : World} {B sz n p : Nat} {T e : TypeId} {v u : Value} {xs : List Value} (h : w.ownsRow B e sz v n xs) (h1 : One p T u w) (hne : T ≠ e) : v.ownBlock ≠ some p := own_ne h fun cur hh => by
  unfold One at h1
  rw [h1] at hh
  simp only [Option.some.injEq, Obj.cells.injEq] at hh
  exact hne hh.2.1
theorem slot_info : (Tryz.prog.info? 42).map (fun i => (i.zero, i.size, i.bytes)) = some (some (.agg #[.string ByteArray.empty, .bool false, .int .i64 0, .int .i64 0, .bool false, .string ByteArray.empty]), 6, 64) := by kernel_rfl
set_option maxRecDepth 100000 in
set_option maxHeartbeats 1600000 in
theorem slots1_any (sk : Sk) (s : Sl) (t : ByteArray) (k p B n : Nat) (v : Value) (xs : List Value) (W : World) (hp : One p 26 v W) (hown : W.ownsRow B 42 6 v n xs) (hn : n ≤ 1000000000) (hB : B ≤ W.heap.size) :
    Calls Tryz.prog 38 #[.int .i64 k, slotV s t, placeV sk s, .pointer (some ⟨p, 0, none⟩)] W (Pushed 26 42 p B 6 (n + 1) (xs ++ slotC s t) v W) := by
  have HP := Lib.hid hp
  have HNE := Lib.hid (own_ne_cell hown hp (by decide))
  have HB2 : Hid (∀ a b, Below W.heap.size W ((W.alloc a).alloc b)) := Lib.hid fun a b => below_two W a b
  have c0 := hp.cell
  have f0 := hp.free
  obtain ⟨A, c, rfl⟩ := own_shape hown
  have own4 : ∀ a b, ((W.alloc a).alloc b).ownsRow B 42 6 (.slice A n c) n xs := fun a b => (hown.alloc a).alloc b
  have hpl : p < W.heap.size := (Array.getElem?_eq_some_iff.1 hp).1
  have HO := Lib.hid own4
  clear hp hown own4
  unfold slotV placeV
  go_enter Tryz.func38, Tryz.ntmps38
  go_wp2_with (at_builtin; refine append_agg_at rfl (.tmp 7) (.tmp 9) 26 42 rfl B _ 6 64 Tryz.underlying26 slot_info rfl (by decide) _ _ _ rfl (HO.out _ _) (slotC s t) rfl (W.heap.size + 2) rfl (by simp) ?_ ?_ ?_ ?_ ?_)
  · intro y hy; simp only [slotC, List.mem_cons, List.not_mem_nil, or_false] at hy; rcases hy with rfl | rfl | rfl | rfl | rfl | rfl <;> rfl
  · omega
  · omega
  · simp; omega
  intro v' w5 hown' hg' hb' hat
  have HR := Lib.hid (Pushed.mk HP.out HNE.out (HB2.out _ _) hown' hg' (hat.imp id fun e => ⟨_, e, by omega⟩))
  have h5 : One p 26 (.slice A n c) w5 := (hg'.block p (by simp; omega) (fun e => HNE.out e.symm)).trans (((HB2.out _ _).block p hpl).trans HP.out)
  have c5 := h5.cell
  have f5 := h5.free
  obtain ⟨A5, k5, rfl⟩ := own_shape hown'
  clear hown' hg' hb' hat h5 c0 f0
  go_wp2_with fail
  exact bodyPost_end (v := .tuple #[]) (by simp [results, Tryz.results38, go_sem]) rfl HR.out
set_option maxRecDepth 100000 in
set_option maxHeartbeats 1600000 in
theorem written1_any (sk : Sk) (s : Sl) (t : ByteArray) (k p B n : Nat) (v : Value) (xs : List Value) (W : World) (hp : One p 30 v W) (hown : W.ownsRow B 3 1 v n xs) (hn : n ≤ 1000000000) (hB : B ≤ W.heap.size) (hk : k ≤ 1000000000) :
    Calls Tryz.prog 39 #[.int .i64 k, slotV s t, placeV sk s, .pointer (some ⟨p, 0, none⟩)] W (Pushed 30 3 p B 1 (if isW t = true then n + 1 else n) (if isW t = true then xs ++ [.int .i64 k] else xs) v W) := by
  have HP := Lib.hid hp
  have HNE := Lib.hid (own_ne_cell hown hp (by decide))
  have hpl : p < W.heap.size := (Array.getElem?_eq_some_iff.1 hp).1
  have HB2 : Hid (∀ a b, Below W.heap.size W ((W.alloc a).alloc b)) := Lib.hid fun a b => below_two W a b
  have HO := Lib.hid hown
  have hW := written_any s t
  obtain ⟨A, c, rfl⟩ := own_shape hown
  clear hp hown
  have HW : Hid (∀ W, Calls Tryz.prog 40 #[slotV s t] W (Makes (.bool (isW t)) W)) := Lib.hid hW
  clear hW
  unfold slotV at HW ⊢
  unfold placeV
  generalize isW t = z at *
  obtain ⟨N, hN⟩ : ∃ N, N = if z = true then n + 1 else n := ⟨_, rfl⟩
  obtain ⟨ys, hys⟩ : ∃ ys, ys = if z = true then xs ++ [.int .i64 (k : Int)] else xs := ⟨_, rfl⟩
  rw [← hN, ← hys]
  have HN := Lib.hid hN
  have HY := Lib.hid hys
  clear hN hys
  go_enter Tryz.func39, Tryz.ntmps39
  go_wp2_with fail
  refine (HW.out _).mono ?_
  rintro e w3 ⟨rfl, hb3⟩
  have HB3 := Lib.hid (below_later hb3 (HB2.out _ _))
  clear hb3
  have h3 : One p 30 (.slice A n c) w3 := (HB3.out.block p hpl).trans HP.out
  have c0 := h3.cell
  have f0 := h3.free
  have own4 := own_later HO.out HB3.out
  have hs3 := HB3.out.size
  have H3 := Lib.hid h3
  clear h3
  cases z with
  | false =>
    clear own4
    go_wp2_with fail
    refine bodyPost_end (v := .tuple #[]) (by simp [results, Tryz.results39, go_sem]) rfl ?_
    rw [HN.out, HY.out]
    exact ⟨rfl, _, H3.out, own_later HO.out HB3.out, KeepN.of _ _ HB3.out, .inl rfl⟩
  | true =>
    go_wp2_with (at_builtin; refine append_agg_at rfl (.tmp 9) (.tmp 11) 30 3 rfl B _ 1 8 Tryz.underlying30 int_info rfl (by decide) _ _ _ rfl own4 [.int .i64 k] rfl w3.heap.size rfl rfl ?_ ?_ ?_ ?_ ?_)
    · intro y hy; simp only [List.mem_cons, List.not_mem_nil, or_false] at hy; subst hy; rfl
    · omega
    · omega
    · omega
    intro v' w5 hown' hg' hb' hat
    have HR := Lib.hid (Pushed.mk HP.out HNE.out HB3.out hown' hg' (hat.imp id fun e => ⟨_, e, by omega⟩))
    have h5 : One p 30 (.slice A n c) w5 := (hg'.block p (by omega) (fun e => HNE.out e.symm)).trans H3.out
    have c5 := h5.cell
    have f5 := h5.free
    obtain ⟨A5, k5, rfl⟩ := own_shape hown'
    clear hown' hg' hb' hat h5 c0 f0 own4
    go_wp2_with fail
    exact bodyPost_end (v := .tuple #[]) (by simp [results, Tryz.results39, go_sem]) rfl (by rw [HN.out, HY.out]; exact HR.out)
end Go.Proofs.YtidholghbjljaaaGreatDoor
