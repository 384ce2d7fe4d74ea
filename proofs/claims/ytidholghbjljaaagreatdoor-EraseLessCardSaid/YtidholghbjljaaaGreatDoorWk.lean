
/- Walks of erase: Slots and Written. -/
import Derived.Test.YtidholghbjljaaaGreatDoorWj
import Derived.Test.YtidholghbjljaaaGreatDoorWz
namespace Culp.Er
set_option linter.unusedSimpArgs false
set_option linter.unusedVariables false
open Culp Culp.Mo
theorem slX_len (nm : ByteArray) (m i k : Nat) (x : Nd) : (slX nm m i k x).length ≤ 2 := by
  unfold slX
  rw [List.length_append]
  split <;> split <;> simp
theorem slT_len (nm : ByteArray) (m i : Nat) : ∀ (k : Nat) (T : List Nd), (slT nm m i k T).length ≤ 2 * T.length
  | _, [] => by simp [slT]
  | k, x :: T => by
    have h1 := slX_len nm m i k x
    have h2 := slT_len nm m i (k + 1) T
    rw [slT, List.length_append, List.length_cons]; omega
theorem slD_len (nm : ByteArray) (m : Nat) : ∀ (i : Nat) (D : List Df), (slD nm m i D).length ≤ D.length + 2 * nodesD D
  | _, [] => by simp [slD]
  | i, d :: D => by
    have h1 := slT_len nm m i 0 d.tree
    have h2 := slD_len nm m (i + 1) D
    have h3 : nodesD (d :: D) = d.tree.length + nodesD D := by unfold nodesD; rw [List.map_cons, List.sum_cons]
    rw [slD, List.length_cons, List.length_append, List.length_cons, h3]; omega
theorem slM_len : ∀ (m : Nat) (L : List Md), (∀ md ∈ L, md.imps.length + md.defs.length ≤ 64) → (slM m L).length ≤ 64 * L.length + 2 * nodesM L
  | _, [], _ => by simp [slM]
  | m, md :: L, h => by
    have h0 := h md List.mem_cons_self
    have h1 := slI_len md.name m 0 md.imps
    have h2 := slD_len md.name m 0 md.defs
    have h3 := slM_len (m + 1) L fun x hx => h x (List.mem_cons_of_mem _ hx)
    have h4 : nodesM (md :: L) = nodesD md.defs + nodesM L := by unfold nodesM; rw [List.map_cons, List.sum_cons]
    rw [slM, List.length_append, List.length_append, List.length_cons, h4]; omega
theorem fits_of {L : List Md} (h : mods L = 0) : Fits L := by
  obtain ⟨h1, h2, h3⟩ := mods_zero.1 h
  obtain ⟨h4, h5⟩ := few_len h1
  refine ⟨?_, by omega, fun m md hm => ?_⟩
  · have := slM_len 0 L h5
    unfold slots; omega
  · have hmem := List.mem_of_getElem? hm
    have := h5 md hmem
    refine ⟨by omega, fun i d hd => ?_⟩
    have := check_small ((modE_zero.1 (h3 md hmem)).2 d (List.mem_of_getElem? hd)).2
    omega
theorem fits_small {L : List Md} (h : mods L = 0) : (slots L).length ≤ 8704 := by
  obtain ⟨h1, h2, h3⟩ := mods_zero.1 h
  obtain ⟨h4, h5⟩ := few_len h1
  have := slM_len 0 L h5
  unfold slots; omega
/-- What is told of the slots. -/
def told (L : List Md) : List Sl := if mods L = 0 then slots L else []
def idxW (S : List Sl) (f : Pos → ByteArray) (k : Nat) : List Nat := (List.range k).filter fun j => isW (f ((S[j]?).elim (0, 0, 0, 0) Sl.pos))
def toldW (L : List Md) : List Nat := if mods L = 0 then idxW (slots L) (note L) (slots L).length else []
theorem idxW_len (S : List Sl) (f : Pos → ByteArray) (k : Nat) : (idxW S f k).length ≤ k := by
  unfold idxW
  exact Nat.le_trans (List.length_filter_le _ _) (by simp)
theorem idxW_step {S : List Sl} {f : Pos → ByteArray} {k : Nat} {s : Sl} (h : S[k]? = some s) : idxW S f (k + 1) = if isW (f s.pos) = true then idxW S f k ++ [k] else idxW S f k := by
  unfold idxW
  rw [List.range_succ, List.filter_append]
  simp only [List.filter_cons, List.filter_nil, h, Option.elim_some]
  split <;> simp
end Culp.Er
namespace Go.Proofs.YtidholghbjljaaaGreatDoor
set_option linter.unusedSimpArgs false
set_option linter.unusedVariables false
open Go.RowKit Culp Culp.Er
/-- A row of one's own in a cell, while the slots are gone over. -/
def RowI (T e : TypeId) (p sz : Nat) (W0 : World) (ys : Nat → List Value) (cnt : Nat → Nat) (k : Nat) (o : Option Nat) (W : World) : Prop := Below p W0 W ∧ ∃ v, One p T v W ∧ W.ownsRow (p + 1) e sz v (cnt k) (ys k) ∧ v.ownBlock = o
section
variable {T e : TypeId} {p sz : Nat} {W0 : World} {ys : Nat → List Value} {cnt : Nat → Nat} {k : Nat} {o : Option Nat} {W W' : World}
theorem RowI.cells {g : Nat} (h : RowI T e p sz W0 ys cnt k o W) (hg : o = some g) : ∃ ob : Obj, W.heap[g]? = some ob ∧ ob.isCells = true := by
  obtain ⟨-, v, -, h2, h3⟩ := h
  rcases h2.2 with ⟨rfl, _⟩ | ⟨g', cap, cur, rfl, _, hh, _⟩
  · rw [← h3] at hg; cases hg
  · rw [← h3] at hg
    injection hg with hg
    obtain rfl : g' = g := hg
    exact ⟨_, hh, rfl⟩
theorem own_same {base n : Nat} {v : Value} {xs : List Value} (h : W.ownsRow base e sz v n xs) (hs : ∀ g, v.ownBlock = some g → W'.heap[g]? = W.heap[g]?) : W'.ownsRow base e sz v n xs := by
  refine ⟨h.1, ?_⟩
  rcases h.2 with h2 | ⟨g, cap, cur, rfl, hb, hh, h3⟩
  · exact .inl h2
  · exact .inr ⟨g, cap, cur, rfl, hb, (hs g rfl).trans hh, h3⟩
theorem RowI.keep (h : RowI T e p sz W0 ys cnt k o W) (hb : Below (p + 1) W W') (hs : ∀ g, o = some g → W'.heap[g]? = W.heap[g]?) : RowI T e p sz W0 ys cnt k o W' := by
  obtain ⟨h0, v, h1, h2, h3⟩ := h
  refine ⟨h0.trans (hb.mono (Nat.le_succ _)), v, (hb.block p (Nat.lt_succ_self _)).trans h1, own_same h2 fun g hg => hs g (h3 ▸ hg), h3⟩
theorem RowI.start (hp : W0.heap.size = p) (h0 : ys 0 = []) (hc : cnt 0 = 0) : RowI T e p sz W0 ys cnt 0 none (W0.alloc (.cells #[.slice none 0 0] T)) := by
  subst hp
  exact ⟨(Below.refl _ _).alloc (Nat.le_refl _) _, .slice none 0 0, (MapKept.heap_alloc W0 _).1, ⟨by rw [h0, hc]; simp, .inl ⟨rfl, hc⟩⟩, rfl⟩
theorem RowI.push {E : Ending} {v : Value} (hp : W0.heap.size = p) (hb : Below p W0 W) (hv : v.ownBlock = o) (ho : ∀ g, o = some g → p + 1 ≤ g) (h : Pushed T e p (p + 1) sz (cnt (k + 1)) (ys (k + 1)) v W E W') : E = .returned (.tuple #[]) ∧ Over (p + 1) o W W' ∧ ∃ o', RowI T e p sz W0 ys cnt (k + 1) o' W' ∧ (o' = o ∨ ∃ g, o' = some g ∧ W.heap.size ≤ g) := by
  obtain ⟨rfl, v', h1, h2, h3, h4⟩ := h
  rw [hv] at h3 h4
  have hs := hb.size
  refine ⟨rfl, ⟨h3.size, fun b hb1 hb2 hb3 => h3.block b hb2 (by omega) hb3⟩, v'.ownBlock, ⟨h3.below hb (by omega) (Nat.le_refl _) (fun g e => by have := ho g e; omega), v', h1, h2, rfl⟩, h4⟩
theorem own_over {base n g : Nat} {v : Value} {xs : List Value} (h : W.ownsRow base e sz v n xs) (hg : v.ownBlock = some g) : base ≤ g := (h.lt g hg).1
end
def SlotsRes (L : List Md) (w : World) (E : Ending) (w' : World) : Prop := ∃ v, E = .returned (.tuple #[v, .int .i64 (Mo.mods L : Nat)]) ∧ Below w.heap.size w w' ∧ w'.ownsRow w.heap.size 42 6 v (told L).length ((told L).flatMap fun s => slotC s (note L s.pos))
def WrittenRes (L : List Md) (w : World) (E : Ending) (w' : World) : Prop := ∃ v, E = .returned (.tuple #[v, .int .i64 (Mo.mods L : Nat)]) ∧ Below w.heap.size w w' ∧ w'.ownsRow w.heap.size 3 1 v (toldW L).length ((toldW L).map fun j => .int .i64 (j : Nat))
theorem takeC {S : List Sl} {f : Pos → ByteArray} {k : Nat} {s : Sl} (h : S[k]? = some s) : (S.take (k + 1)).flatMap (fun s => slotC s (f s.pos)) = (S.take k).flatMap (fun s => slotC s (f s.pos)) ++ slotC s (f s.pos) := by
  rw [List.take_add_one, h, List.flatMap_append]
  simp
set_option maxRecDepth 100000 in
set_option maxHeartbeats 1600000 in
theorem Slots_any (L : List Md) (v : Value) (w : World) (hm : Mods w v L) (hS : Sp w) (hl : L.length ≤ 1000000000000000) (hz : ∀ m ∈ L, MdSz m) : Calls Tryz.prog 9 #[v] w (SlotsRes L w) := by
  have hba : ∀ o, Below w.heap.size w (w.alloc o) := fun o => (Below.refl _ _).alloc (Nat.le_refl _) o
  by_cases h0 : Mo.mods L = 0
  · have hft := fits_of h0
    have hlen := hft.len
    have HT : Hid (told L = slots L) := Lib.hid (by unfold told; rw [if_pos h0])
    obtain ⟨sk, hM, hv, hu⟩ := sk_of_mods hm
    obtain ⟨A, c, rfl, hc, hA⟩ := hv
    have key : Calls Tryz.prog 37 #[.slice A L.length c, .func (.func 38) #[] #[.pointer (some ⟨w.heap.size, 0, none⟩)]] (w.alloc (.cells #[.slice none 0 0] 26)) fun e w' => e = .returned (.int .i64 0) ∧ (∃ o, RowI 26 42 w.heap.size 6 w (fun k => ((slots L).take k).flatMap fun s => slotC s (note L s.pos)) (fun k => k) (slots L).length o w') ∧ (w.alloc (.cells #[.slice none 0 0] 26)).heap.size ≤ w'.heap.size := by
      have hsz : (w.alloc (.cells #[.slice none 0 0] 26)).heap.size = w.heap.size + 1 := World.size_alloc _ _
      refine each_ok sk L (fun _ => note L) A c hA hc hft 38 (by intro a b; rfl) _ _ (hS.later (hba _)) (by rw [lay_note]; exact hz) (by rw [lay_note]; exact h0) (fun k o W => RowI 26 42 w.heap.size 6 w (fun k => ((slots L).take k).flatMap fun s => slotC s (note L s.pos)) (fun k => k) k o W)
        (fun k o W g h hg => h.cells hg) (fun k o W W' h hb hs => h.keep (by rw [hsz] at hb; exact hb) hs) (fun k o W h => hM.keep hu h.1) (RowI.start rfl rfl rfl) ?_
      intro k s o W hs hI hlt
      obtain ⟨hB, u, h1, h2, h3⟩ := hI
      have hk := (List.getElem?_eq_some_iff.1 hs).1
      have hsW := hB.size
      rw [hsz] at hlt ⊢
      refine (slots1_any sk s (note L s.pos) k w.heap.size (w.heap.size + 1) k u _ W h1 h2 (by omega) (by omega)).mono fun E W' hP => ?_
      have hP2 : Pushed 26 42 w.heap.size (w.heap.size + 1) 6 (k + 1) (((slots L).take (k + 1)).flatMap fun s => slotC s (note L s.pos)) u W E W' := by rw [takeC (f := note L) hs]; exact hP
      exact RowI.push rfl hB h3 (fun g hg => own_over h2 (h3.trans hg)) hP2
    have HK := Lib.hid key
    have H0 : Hid ((Mo.mods L : Nat) = 0) := Lib.hid h0
    clear key hM hu hc hA hft h0 hS hz hm hba
    go_enter Tryz.func9, Tryz.ntmps9
    go_wp2_with fail
    refine HK.out.mono ?_
    rintro E w2 ⟨rfl, ⟨o, hB, u, h1, h2, h3⟩, -⟩
    have c0 := h1.cell
    have HB := Lib.hid hB
    have HO := Lib.hid h2
    clear h1 h2 h3 hB HK
    go_wp2_with fail
    refine bodyPost_ret (v := .tuple #[u, .int .i64 0]) (by simp [results, Tryz.results9, go_sem]) rfl ?_
    refine ⟨u, by rw [H0.out]; rfl, HB.out, ?_⟩
    have h2 := HO.out
    rw [List.take_length] at h2
    rw [HT.out]
    exact own_base h2 (Nat.le_succ _)
  · have HT : Hid (told L = []) := Lib.hid (by unfold told; rw [if_neg h0])
    obtain ⟨A, c, rfl⟩ := hm.form
    have HK := Lib.hid (each_bad L (.slice A L.length c) ⟨A, _, c, rfl⟩ 38 #[.pointer (some ⟨w.heap.size, 0, none⟩)] (w.alloc (.cells #[.slice none 0 0] 26)) (hm.later (hba _)) (hS.later (hba _)) hl hz h0)
    have HB0 := Lib.hid (hba (.cells #[.slice none 0 0] 26))
    clear hm hba h0 hS hz hl
    obtain ⟨z, HZ⟩ : ∃ z, Hid (Mo.mods L = z) := ⟨_, Lib.hid rfl⟩
    rw [HZ.out] at HK
    go_enter Tryz.func9, Tryz.ntmps9
    go_wp2_with fail
    refine HK.out.mono ?_
    rintro E w2 ⟨rfl, hb2⟩
    have c0 : w2.cell? ⟨w.heap.size, 0, none⟩ = some (.slice none 0 0) := cell_later hb2 ((World.cell?_alloc_at _ _ _ _ rfl).trans rfl)
    have HB := Lib.hid (below_later hb2 HB0.out)
    clear hb2 HK
    go_wp2_with fail
    refine bodyPost_ret (v := .tuple #[.slice none 0 0, .int .i64 (z : Nat)]) (by simp [results, Tryz.results9, go_sem]) rfl ?_
    exact ⟨_, by rw [HZ.out], HB.out, by rw [HT.out]; exact ⟨rfl, .inl ⟨rfl, rfl⟩⟩⟩
set_option maxRecDepth 100000 in
set_option maxHeartbeats 1600000 in
theorem Written_any (L : List Md) (v : Value) (w : World) (hm : Mods w v L) (hS : Sp w) (hl : L.length ≤ 1000000000000000) (hz : ∀ m ∈ L, MdSz m) : Calls Tryz.prog 10 #[v] w (WrittenRes L w) := by
  have hba : ∀ o, Below w.heap.size w (w.alloc o) := fun o => (Below.refl _ _).alloc (Nat.le_refl _) o
  by_cases h0 : Mo.mods L = 0
  · have hft := fits_of h0
    have hlen := hft.len
    have HT : Hid (toldW L = idxW (slots L) (note L) (slots L).length) := Lib.hid (by unfold toldW; rw [if_pos h0])
    obtain ⟨sk, hM, hv, hu⟩ := sk_of_mods hm
    obtain ⟨A, c, rfl, hc, hA⟩ := hv
    have key : Calls Tryz.prog 37 #[.slice A L.length c, .func (.func 39) #[] #[.pointer (some ⟨w.heap.size, 0, none⟩)]] (w.alloc (.cells #[.slice none 0 0] 30)) fun e w' => e = .returned (.int .i64 0) ∧ (∃ o, RowI 30 3 w.heap.size 1 w (fun k => (idxW (slots L) (note L) k).map fun j => .int .i64 (j : Nat)) (fun k => (idxW (slots L) (note L) k).length) (slots L).length o w') ∧ (w.alloc (.cells #[.slice none 0 0] 30)).heap.size ≤ w'.heap.size := by
      have hsz : (w.alloc (.cells #[.slice none 0 0] 30)).heap.size = w.heap.size + 1 := World.size_alloc _ _
      refine each_ok sk L (fun _ => note L) A c hA hc hft 39 (by intro a b; rfl) _ _ (hS.later (hba _)) (by rw [lay_note]; exact hz) (by rw [lay_note]; exact h0) (fun k o W => RowI 30 3 w.heap.size 1 w (fun k => (idxW (slots L) (note L) k).map fun j => .int .i64 (j : Nat)) (fun k => (idxW (slots L) (note L) k).length) k o W)
        (fun k o W g h hg => h.cells hg) (fun k o W W' h hb hs => h.keep (by rw [hsz] at hb; exact hb) hs) (fun k o W h => hM.keep hu h.1) (RowI.start rfl rfl rfl) ?_
      intro k s o W hs hI hlt
      obtain ⟨hB, u, h1, h2, h3⟩ := hI
      have hk := (List.getElem?_eq_some_iff.1 hs).1
      have hki := idxW_len (slots L) (note L) k
      have hsW := hB.size
      rw [hsz] at hlt ⊢
      refine (written1_any sk s (note L s.pos) k w.heap.size (w.heap.size + 1) (idxW (slots L) (note L) k).length u _ W h1 h2 (by omega) (by omega) (by omega)).mono fun E W' hP => ?_
      have hP2 : Pushed 30 3 w.heap.size (w.heap.size + 1) 1 (idxW (slots L) (note L) (k + 1)).length ((idxW (slots L) (note L) (k + 1)).map fun j => .int .i64 (j : Nat)) u W E W' := by
        rw [idxW_step hs]
        split
        · rename_i hw
          rw [if_pos hw, if_pos hw] at hP
          simpa using hP
        · rename_i hw
          rw [if_neg hw, if_neg hw] at hP
          exact hP
      exact RowI.push rfl hB h3 (fun g hg => own_over h2 (h3.trans hg)) hP2
    have HK := Lib.hid key
    have H0 : Hid ((Mo.mods L : Nat) = 0) := Lib.hid h0
    clear key hM hu hc hA hft h0 hS hz hm hba
    go_enter Tryz.func10, Tryz.ntmps10
    go_wp2_with fail
    refine HK.out.mono ?_
    rintro E w2 ⟨rfl, ⟨o, hB, u, h1, h2, h3⟩, -⟩
    have c0 := h1.cell
    have HB := Lib.hid hB
    have HO := Lib.hid h2
    clear h1 h2 h3 hB HK
    go_wp2_with fail
    refine bodyPost_ret (v := .tuple #[u, .int .i64 0]) (by simp [results, Tryz.results10, go_sem]) rfl ?_
    refine ⟨u, by rw [H0.out]; rfl, HB.out, ?_⟩
    have h2 := HO.out
    rw [HT.out]
    exact own_base h2 (Nat.le_succ _)
  · have HT : Hid (toldW L = []) := Lib.hid (by unfold toldW; rw [if_neg h0])
    obtain ⟨A, c, rfl⟩ := hm.form
    have HK := Lib.hid (each_bad L (.slice A L.length c) ⟨A, _, c, rfl⟩ 39 #[.pointer (some ⟨w.heap.size, 0, none⟩)] (w.alloc (.cells #[.slice none 0 0] 30)) (hm.later (hba _)) (hS.later (hba _)) hl hz h0)
    have HB0 := Lib.hid (hba (.cells #[.slice none 0 0] 30))
    clear hm hba h0 hS hz hl
    obtain ⟨z, HZ⟩ : ∃ z, Hid (Mo.mods L = z) := ⟨_, Lib.hid rfl⟩
    rw [HZ.out] at HK
    go_enter Tryz.func10, Tryz.ntmps10
    go_wp2_with fail
    refine HK.out.mono ?_
    rintro E w2 ⟨rfl, hb2⟩
    have c0 : w2.cell? ⟨w.heap.size, 0, none⟩ = some (.slice none 0 0) := cell_later hb2 ((World.cell?_alloc_at _ _ _ _ rfl).trans rfl)
    have HB := Lib.hid (below_later hb2 HB0.out)
    clear hb2 HK
    go_wp2_with fail
    refine bodyPost_ret (v := .tuple #[.slice none 0 0, .int .i64 (z : Nat)]) (by simp [results, Tryz.results10, go_sem]) rfl ?_
    exact ⟨_, by rw [HZ.out], HB.out, by rw [HT.out]; exact ⟨rfl, .inl ⟨rfl, rfl⟩⟩⟩
end Go.Proofs.YtidholghbjljaaaGreatDoor
