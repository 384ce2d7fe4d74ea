
/- Walks of the document's chapter 25: a type laid in a slot of modules that are one's own. -/
import Derived.Test.YtidholghbjljaaaGreatDoorXh
import Derived.Test.YtidholghbjljaaaGreatDoorWu
import Derived.Test.YtidholghbjljaaaGreatDoorR4W
import Derived.Test.YtidholghbjljaaaGreatDoorTrW
import Derived.Test.YtidholghbjljaaaGreatDoorVf
import Derived.Test.YtidholghbjljaaaGreatDoorXd
import Derived.Test.YtidholghbjljaaaGreatDoorWv
namespace Go.Proofs.YtidholghbjljaaaGreatDoor
set_option linter.unusedSimpArgs false
set_option linter.unusedVariables false
open Go.RowKit Go.Maps Culp Culp.Er
/-- What laying comes to. -/
def LaidRes (sk : Sk) (L : List Md) (H : Nat) (f : Pos → ByteArray) (s : Sl) (t : ByteArray) (w : World) (e : Ending) (w' : World) : Prop := e = .returned (.tuple #[]) ∧ OwnSt sk L H (upd f s.pos (laid s t)) w' ∧ Below H w w'
theorem laid_done {sk : Sk} {L : List Md} {H : Nat} {f : Pos → ByteArray} {s : Sl} {t u : ByteArray} {w : World} {o : Obj} {a : Addr} (h : OwnSt sk L H f w) (hp : Real L s.pos) (ha : addr sk s.pos = a) (hu : laid s t = u) (w' : World) (hw : Below w.heap.size w w') :
    LaidRes sk L H f s t w (.returned (.tuple #[])) (w'.setCell a (.string u)) ∧ w'.frozen? a = false := by
  subst ha hu
  have hk := h.keep h.under hw
  have hH : H ≤ w.heap.size := Nat.le_trans (h.low hp) (Nat.le_of_lt (addr_lt h.under hp))
  exact ⟨⟨rfl, hk.lay hp, (hw.mono hH).setCell (h.low hp) _⟩, hk.free hp⟩
set_option maxRecDepth 100000 in
set_option maxHeartbeats 3200000 in
theorem laid0_any (sk : Sk) (L : List Md) (H : Nat) (f : Pos → ByteArray) (s : Sl) (t u : ByteArray) (A : Option Addr) (c : Nat) (w : World) (h : OwnSt sk L H f w) (hA : 0 < L.length → A = some ⟨sk.b, sk.o, none⟩) (hll : L.length ≤ 1000000000000)
    (m : Nat) (md : Md) (i : Nat) (x : Im) (hm : L[m]? = some md) (hx : md.imps[i]? = some x) (hli : md.imps.length ≤ 1000000000000) (hs : s = ⟨(0, m, i, 0), md.name, true, i, -1, false, true⟩) (hreal : Real L s.pos) :
    Calls Tryz.prog 72 #[.slice A L.length c, .agg (docC s u).toArray, .string t] w (LaidRes sk L H f s t w) := by
  have hmlt := (List.getElem?_eq_some_iff.1 hm).1
  have hilt := (List.getElem?_eq_some_iff.1 hx).1
  obtain rfl := hA (by omega)
  obtain ⟨hc, hi, -, him, -, -⟩ := h.mat m md hm
  obtain ⟨Ai, ci, hiv, -, hAi⟩ := hi
  obtain rfl := hAi (by omega)
  have hb1 : Below w.heap.size w (w.alloc (.cells #[.string md.name, .bool true, .int .i64 i, .int .i64 (-1), .bool false, .string u, .int .i64 m, .int .i64 0] 38)).drew := ((Below.refl _ _).alloc (Nat.le_refl _) _).drew
  have hbk : Blk w.heap.size #[.string md.name, .bool true, .int .i64 i, .int .i64 (-1), .bool false, .string u, .int .i64 m, .int .i64 0] 38 (w.alloc (.cells #[.string md.name, .bool true, .int .i64 i, .int .i64 (-1), .bool false, .string u, .int .i64 m, .int .i64 0] 38)) := Blk.alloc _ _ _
  have n1 := cell_later hb1 hc.2.1
  rw [hiv] at n1
  have t2 := cell_later hb1 (him i x hx).2.2.1
  obtain ⟨HR, fz⟩ := laid_done (o := .cells #[] 0) (t := t) (u := t) (a := ⟨sk.ib m, sk.io m + i * 5 + 2, none⟩) h hreal (by subst hs; rfl) (by subst hs; simp [laid]) _ hb1
  have HRR := Lib.hid HR
  subst hs
  simp only [docC]
  clear HR hb1 h hc him hm hx hiv hA hAi hreal
  go_enter Tryz.func72, Tryz.ntmps72
  go_wp2_with fail
  generalize w.alloc (.cells #[.string md.name, .bool true, .int .i64 i, .int .i64 (-1), .bool false, .string u, .int .i64 m, .int .i64 0] 38) = w1 at *
  generalize w.heap.size = gx at *
  have b2 := hbk.cell (i := 2) rfl
  have b6 := hbk.cell (i := 6) rfl
  clear hbk
  refine wp_region_last (S := fun w' => w'.cell? ⟨gx, 2, none⟩ = some (.int .i64 i) ∧ w'.cell? ⟨gx, 6, none⟩ = some (.int .i64 m) ∧ w'.cell? ⟨sk.b, sk.o + m * 5 + 1, none⟩ = some (.slice (some ⟨sk.ib m, sk.io m, none⟩) md.imps.length ci)) 11 [(0, true), (1, true), (2, true), (3, true), (4, true), (5, true), (6, true), (7, true), (8, true), (9, true), (10, true)] (by kernel_rfl) (by kernel_rfl) (by kernel_rfl) (fun _ _ _ _ _ h => h) ⟨b2, b6, n1⟩ ?_
  intro HSS
  repeat (first | (apply wpPlan_look; rfl; rfl; (intro wq hq; (try dsimp only at hq); go_split_ands; go_simp; (try rw [if_neg (by omega)]); (try rw [if_pos (by omega)]); try with_reducible rfl); simp only [Act.put, List.setIfInBounds_toArray, List.set_cons_zero, List.set_cons_succ]) | (apply wpPlan_skip; rfl; rfl; simp only [Act.put, List.setIfInBounds_toArray, List.set_cons_zero, List.set_cons_succ]) | (apply wpPlan_pass; rfl; rfl; assumption; simp only [Act.put, List.setIfInBounds_toArray, List.set_cons_zero, List.set_cons_succ]))
  refine wpPlan_last_run0 (w' := w1.drew.setCell ⟨sk.ib m, sk.io m + i * 5 + 2, none⟩ (.string t)) rfl rfl (by simp [execOp, go_sem, t2, fz]) ?_
  clear HSS b2 b6 n1 t2 fz
  go_wp2_with fail
  exact bodyPost_end (v := .tuple #[]) (by simp [results, Tryz.results72, go_sem]) rfl HRR.out
set_option maxRecDepth 100000 in
set_option maxHeartbeats 3200000 in
theorem laid1_any (sk : Sk) (L : List Md) (H : Nat) (f : Pos → ByteArray) (s : Sl) (t u : ByteArray) (A : Option Addr) (c : Nat) (w : World) (h : OwnSt sk L H f w) (hA : 0 < L.length → A = some ⟨sk.b, sk.o, none⟩) (hll : L.length ≤ 1000000000000)
    (m : Nat) (md : Md) (i : Nat) (d : Df) (hm : L[m]? = some md) (hd : md.defs[i]? = some d) (hli : md.defs.length ≤ 1000000000000) (hs : s = ⟨(1, m, i, 0), md.name, false, i, -1, false, true⟩) (hreal : Real L s.pos) :
    Calls Tryz.prog 72 #[.slice A L.length c, .agg (docC s u).toArray, .string t] w (LaidRes sk L H f s t w) := by
  have hmlt := (List.getElem?_eq_some_iff.1 hm).1
  have hilt := (List.getElem?_eq_some_iff.1 hd).1
  obtain rfl := hA (by omega)
  obtain ⟨hc, -, hi, -, hdf, -⟩ := h.mat m md hm
  obtain ⟨Ai, ci, hiv, -, hAi⟩ := hi
  obtain rfl := hAi (by omega)
  have hb1 : Below w.heap.size w (w.alloc (.cells #[.string md.name, .bool false, .int .i64 i, .int .i64 (-1), .bool false, .string u, .int .i64 m, .int .i64 1] 38)).drew := ((Below.refl _ _).alloc (Nat.le_refl _) _).drew
  have hbk : Blk w.heap.size #[.string md.name, .bool false, .int .i64 i, .int .i64 (-1), .bool false, .string u, .int .i64 m, .int .i64 1] 38 (w.alloc (.cells #[.string md.name, .bool false, .int .i64 i, .int .i64 (-1), .bool false, .string u, .int .i64 m, .int .i64 1] 38)) := Blk.alloc _ _ _
  have n1 := cell_later hb1 hc.2.2.1
  rw [hiv] at n1
  have t2 := cell_later hb1 (hdf i d hd).1.2.2.1
  obtain ⟨HR, fz⟩ := laid_done (o := .cells #[] 0) (t := t) (u := t) (a := ⟨sk.db m, sk.do_ m + i * 6 + 2, none⟩) h hreal (by subst hs; rfl) (by subst hs; simp [laid]) _ hb1
  have HRR := Lib.hid HR
  subst hs
  simp only [docC]
  clear HR hb1 h hc hdf hm hd hiv hA hAi hreal
  go_enter Tryz.func72, Tryz.ntmps72
  go_wp2_with fail
  generalize w.alloc (.cells #[.string md.name, .bool false, .int .i64 i, .int .i64 (-1), .bool false, .string u, .int .i64 m, .int .i64 1] 38) = w1 at *
  generalize w.heap.size = gx at *
  have b2 := hbk.cell (i := 2) rfl
  have b6 := hbk.cell (i := 6) rfl
  clear hbk
  refine wp_region_last (S := fun w' => w'.cell? ⟨gx, 2, none⟩ = some (.int .i64 i) ∧ w'.cell? ⟨gx, 6, none⟩ = some (.int .i64 m) ∧ w'.cell? ⟨sk.b, sk.o + m * 5 + 2, none⟩ = some (.slice (some ⟨sk.db m, sk.do_ m, none⟩) md.defs.length ci)) 11 [(0, true), (1, true), (2, true), (3, true), (4, true), (5, true), (6, true), (7, true), (8, true), (9, true), (10, true)] (by kernel_rfl) (by kernel_rfl) (by kernel_rfl) (fun _ _ _ _ _ h => h) ⟨b2, b6, n1⟩ ?_
  intro HSS
  repeat (first | (apply wpPlan_look; rfl; rfl; (intro wq hq; (try dsimp only at hq); go_split_ands; go_simp; (try rw [if_neg (by omega)]); (try rw [if_pos (by omega)]); try with_reducible rfl); simp only [Act.put, List.setIfInBounds_toArray, List.set_cons_zero, List.set_cons_succ]) | (apply wpPlan_skip; rfl; rfl; simp only [Act.put, List.setIfInBounds_toArray, List.set_cons_zero, List.set_cons_succ]) | (apply wpPlan_pass; rfl; rfl; assumption; simp only [Act.put, List.setIfInBounds_toArray, List.set_cons_zero, List.set_cons_succ]))
  refine wpPlan_last_run0 (w' := w1.drew.setCell ⟨sk.db m, sk.do_ m + i * 6 + 2, none⟩ (.string t)) rfl rfl (by simp [execOp, go_sem, t2, fz]) ?_
  clear HSS b2 b6 n1 t2 fz
  go_wp2_with fail
  exact bodyPost_end (v := .tuple #[]) (by simp [results, Tryz.results72, go_sem]) rfl HRR.out
set_option maxRecDepth 100000 in
set_option maxHeartbeats 3200000 in
theorem laid3_any (sk : Sk) (L : List Md) (H : Nat) (f : Pos → ByteArray) (s : Sl) (t u : ByteArray) (A : Option Addr) (c : Nat) (w : World) (h : OwnSt sk L H f w) (hA : 0 < L.length → A = some ⟨sk.b, sk.o, none⟩) (hll : L.length ≤ 1000000000000)
    (m : Nat) (md : Md) (i : Nat) (d : Df) (k : Nat) (x : Nd) (hm : L[m]? = some md) (hd : md.defs[i]? = some d) (hk : d.tree[k]? = some x) (hli : md.defs.length ≤ 1000000000000) (hlt : d.tree.length ≤ 1000000000000) (hs : s = ⟨(3, m, i, k), md.name, false, i, k, true, true⟩) (hreal : Real L s.pos) :
    Calls Tryz.prog 72 #[.slice A L.length c, .agg (docC s u).toArray, .string t] w (LaidRes sk L H f s t w) := by
  have hmlt := (List.getElem?_eq_some_iff.1 hm).1
  have hilt := (List.getElem?_eq_some_iff.1 hd).1
  have hklt := (List.getElem?_eq_some_iff.1 hk).1
  obtain rfl := hA (by omega)
  obtain ⟨hc, -, hi, -, hdf, hnd⟩ := h.mat m md hm
  obtain ⟨Ai, ci, hiv, -, hAi⟩ := hi
  obtain rfl := hAi (by omega)
  obtain ⟨⟨-, -, -, q3, -, -⟩, At, ct, htv, -, hAt⟩ := hdf i d hd
  obtain rfl := hAt (by omega)
  have hb1 : Below w.heap.size w (w.alloc (.cells #[.string md.name, .bool false, .int .i64 i, .int .i64 (k), .bool true, .string u, .int .i64 m, .int .i64 3] 38)).drew := ((Below.refl _ _).alloc (Nat.le_refl _) _).drew
  have hbk : Blk w.heap.size #[.string md.name, .bool false, .int .i64 i, .int .i64 (k), .bool true, .string u, .int .i64 m, .int .i64 3] 38 (w.alloc (.cells #[.string md.name, .bool false, .int .i64 i, .int .i64 (k), .bool true, .string u, .int .i64 m, .int .i64 3] 38)) := Blk.alloc _ _ _
  have n1 := cell_later hb1 hc.2.2.1
  rw [hiv] at n1
  have n2 := cell_later hb1 q3
  rw [htv] at n2
  have t2 : (w.alloc (.cells #[.string md.name, .bool false, .int .i64 i, .int .i64 (k), .bool true, .string u, .int .i64 m, .int .i64 3] 38)).drew.cell? ⟨sk.tb m i, sk.to_ m i + k * 8 + 5, none⟩ = some (.string (f (3, m, i, k))) := cell_later hb1 (hnd i d hd k x hk 5 _ rfl)
  obtain ⟨HR, fz⟩ := laid_done (o := .cells #[] 0) (t := t) (u := t) (a := ⟨sk.tb m i, sk.to_ m i + k * 8 + 5, none⟩) h hreal (by subst hs; rfl) (by subst hs; simp [laid]) _ hb1
  have HRR := Lib.hid HR
  subst hs
  simp only [docC]
  clear HR hb1 h hc hdf hnd hm hd hk hiv htv hA hAi hAt hreal q3
  go_enter Tryz.func72, Tryz.ntmps72
  go_wp2_with fail
  generalize w.alloc (.cells #[.string md.name, .bool false, .int .i64 i, .int .i64 (k), .bool true, .string u, .int .i64 m, .int .i64 3] 38) = w1 at *
  generalize w.heap.size = gx at *
  have b2 := hbk.cell (i := 2) rfl
  have b3 := hbk.cell (i := 3) rfl
  have b6 := hbk.cell (i := 6) rfl
  clear hbk
  refine wp_region_last (S := fun w' => w'.cell? ⟨gx, 2, none⟩ = some (.int .i64 i) ∧ w'.cell? ⟨gx, 3, none⟩ = some (.int .i64 k) ∧ w'.cell? ⟨gx, 6, none⟩ = some (.int .i64 m) ∧ w'.cell? ⟨sk.b, sk.o + m * 5 + 2, none⟩ = some (.slice (some ⟨sk.db m, sk.do_ m, none⟩) md.defs.length ci) ∧ w'.cell? ⟨sk.db m, sk.do_ m + i * 6 + 3, none⟩ = some (.slice (some ⟨sk.tb m i, sk.to_ m i, none⟩) d.tree.length ct)) 16 [(0, true), (1, true), (2, true), (3, true), (4, true), (5, true), (6, true), (7, true), (8, true), (9, true), (10, true), (11, true), (12, true), (13, true), (14, true), (15, true)] (by kernel_rfl) (by kernel_rfl) (by kernel_rfl) (fun _ _ _ _ _ h => h) ⟨b2, b3, b6, n1, n2⟩ ?_
  intro HSS
  repeat (first | (apply wpPlan_look; rfl; rfl; (intro wq hq; (try dsimp only at hq); go_split_ands; go_simp; (try rw [if_neg (by omega)]); (try rw [if_pos (by omega)]); try with_reducible rfl); simp only [Act.put, List.setIfInBounds_toArray, List.set_cons_zero, List.set_cons_succ]) | (apply wpPlan_skip; rfl; rfl; simp only [Act.put, List.setIfInBounds_toArray, List.set_cons_zero, List.set_cons_succ]) | (apply wpPlan_pass; rfl; rfl; assumption; simp only [Act.put, List.setIfInBounds_toArray, List.set_cons_zero, List.set_cons_succ]))
  refine wpPlan_last_run0 (w' := w1.drew.setCell ⟨sk.tb m i, sk.to_ m i + k * 8 + 5, none⟩ (.string t)) rfl rfl (by simp [execOp, go_sem, t2, fz]) ?_
  clear HSS b2 b3 b6 n1 n2 t2 fz
  go_wp2_with fail
  exact bodyPost_end (v := .tuple #[]) (by simp [results, Tryz.results72, go_sem]) rfl HRR.out
set_option maxRecDepth 100000 in
set_option maxHeartbeats 3200000 in
theorem laid2_any (sk : Sk) (L : List Md) (H : Nat) (f : Pos → ByteArray) (s : Sl) (t u : ByteArray) (A : Option Addr) (c : Nat) (w : World) (h : OwnSt sk L H f w) (hA : 0 < L.length → A = some ⟨sk.b, sk.o, none⟩) (hll : L.length ≤ 1000000000000)
    (m : Nat) (md : Md) (i : Nat) (d : Df) (k : Nat) (x : Nd) (hm : L[m]? = some md) (hd : md.defs[i]? = some d) (hk : d.tree[k]? = some x) (hli : md.defs.length ≤ 1000000000000) (hlt : d.tree.length ≤ 1000000000000) (hs : s = ⟨(2, m, i, k), md.name, false, i, k, false, decide (x.kind ≠ 29)⟩) (hreal : Real L s.pos) :
    Calls Tryz.prog 72 #[.slice A L.length c, .agg (docC s u).toArray, .string t] w (LaidRes sk L H f s t w) := by
  have hmlt := (List.getElem?_eq_some_iff.1 hm).1
  have hilt := (List.getElem?_eq_some_iff.1 hd).1
  have hklt := (List.getElem?_eq_some_iff.1 hk).1
  obtain rfl := hA (by omega)
  obtain ⟨hc, -, hi, -, hdf, hnd⟩ := h.mat m md hm
  obtain ⟨Ai, ci, hiv, -, hAi⟩ := hi
  obtain rfl := hAi (by omega)
  obtain ⟨⟨-, -, -, q3, -, -⟩, At, ct, htv, -, hAt⟩ := hdf i d hd
  obtain rfl := hAt (by omega)
  have hb1 : Below w.heap.size w (w.alloc (.cells #[.string md.name, .bool false, .int .i64 i, .int .i64 (k), .bool false, .string u, .int .i64 m, .int .i64 2] 38)).drew := ((Below.refl _ _).alloc (Nat.le_refl _) _).drew
  have hbk : Blk w.heap.size #[.string md.name, .bool false, .int .i64 i, .int .i64 (k), .bool false, .string u, .int .i64 m, .int .i64 2] 38 (w.alloc (.cells #[.string md.name, .bool false, .int .i64 i, .int .i64 (k), .bool false, .string u, .int .i64 m, .int .i64 2] 38)) := Blk.alloc _ _ _
  have hb2 : Below w.heap.size w (w.alloc (.cells #[.string md.name, .bool false, .int .i64 i, .int .i64 (k), .bool false, .string u, .int .i64 m, .int .i64 2] 38)).drew.drew := hb1.drew
  have n1 := cell_later hb1 hc.2.2.1
  rw [hiv] at n1
  have n2 := cell_later hb1 q3
  rw [htv] at n2
  have n3 : (w.alloc (.cells #[.string md.name, .bool false, .int .i64 i, .int .i64 (k), .bool false, .string u, .int .i64 m, .int .i64 2] 38)).drew.cell? ⟨sk.tb m i, sk.to_ m i + k * 8, none⟩ = some (.int .i8 x.kind) := cell_later hb1 (hnd i d hd k x hk 0 _ rfl)
  have t2 : (w.alloc (.cells #[.string md.name, .bool false, .int .i64 i, .int .i64 (k), .bool false, .string u, .int .i64 m, .int .i64 2] 38)).drew.drew.cell? ⟨sk.tb m i, sk.to_ m i + k * 8 + 4, none⟩ = some (.string (f (2, m, i, k))) := cell_later hb2 (hnd i d hd k x hk 4 _ rfl)
  obtain ⟨HR, fz⟩ := laid_done (o := .cells #[] 0) (t := t) (u := laid s t) (a := ⟨sk.tb m i, sk.to_ m i + k * 8 + 4, none⟩) h hreal (by subst hs; rfl) rfl _ hb2
  have HRR := Lib.hid HR
  have HLD : Hid (laid s t = if t = no ∧ x.kind = 29 then dynB else t) := Lib.hid (by subst hs; simp [laid])
  have HS := Lib.hid hs
  rw [hs]
  simp only [docC]
  rw [← hs]
  clear HR hb1 hb2 h hc hdf hnd hm hd hk hiv htv hA hAi hAt hreal q3 hs
  go_enter Tryz.func72, Tryz.ntmps72
  go_wp2_with fail
  generalize w.alloc (.cells #[.string md.name, .bool false, .int .i64 i, .int .i64 (k), .bool false, .string u, .int .i64 m, .int .i64 2] 38) = w1 at *
  generalize w.heap.size = gx at *
  have b2 := hbk.cell (i := 2) rfl
  have b3 := hbk.cell (i := 3) rfl
  have b6 := hbk.cell (i := 6) rfl
  clear hbk
  by_cases h0 : t.size = 0
  · have e1 := nil_yes h0
    have ht : t = no := ByteArray.ext (Array.toList_inj.1 (by rw [List.eq_nil_of_length_eq_zero (l := t.data.toList) (by rw [Array.length_toList]; exact h0)]; rfl))
    by_cases h9 : x.kind = 29
    · have e2 : (x.kind == 29) = true := beq_iff_eq.2 h9
      have hu : laid s t = { data := #[63] } := by rw [HLD.out, if_pos ⟨ht, h9⟩]; rfl
      rw [hu] at HRR
      clear hu h0 h9 ht HLD HS
      refine wp_region_plan (S := fun w' => w'.cell? ⟨gx, 2, none⟩ = some (.int .i64 i) ∧ w'.cell? ⟨gx, 3, none⟩ = some (.int .i64 k) ∧ w'.cell? ⟨gx, 6, none⟩ = some (.int .i64 m) ∧ w'.cell? ⟨sk.b, sk.o + m * 5 + 2, none⟩ = some (.slice (some ⟨sk.db m, sk.do_ m, none⟩) md.defs.length ci) ∧ w'.cell? ⟨sk.db m, sk.do_ m + i * 6 + 3, none⟩ = some (.slice (some ⟨sk.tb m i, sk.to_ m i, none⟩) d.tree.length ct) ∧ w'.cell? ⟨sk.tb m i, sk.to_ m i + k * 8, none⟩ = some (.int .i8 x.kind)) [(0, true), (1, true), (2, true), (3, true), (4, true), (5, true), (6, true), (7, true), (8, true), (9, true), (10, true), (11, true), (12, true), (13, true), (14, true), (15, true), (16, true), (17, true), (18, true), (19, true), (20, true)] (by kernel_rfl) (by kernel_rfl) (by kernel_rfl) (fun _ _ _ _ _ h => h) ⟨b2, b3, b6, n1, n2, n3⟩ ?_
      intro HP
      repeat (first | (apply wpPlan_look; rfl; rfl; (intro wq hq; (try dsimp only at hq); go_split_ands; go_simp; (try rw [if_neg (by omega)]); (try rw [if_pos (by omega)]); try with_reducible rfl); simp only [Act.put, List.setIfInBounds_toArray, List.set_cons_zero, List.set_cons_succ]) | (apply wpPlan_skip; rfl; rfl; simp only [Act.put, List.setIfInBounds_toArray, List.set_cons_zero, List.set_cons_succ]) | (apply wpPlan_pass; rfl; rfl; assumption; simp only [Act.put, List.setIfInBounds_toArray, List.set_cons_zero, List.set_cons_succ]))
      apply wpPlan_done
      clear HP
      go_wp2_with fail
      refine wp_region_last (S := fun w' => w'.cell? ⟨gx, 2, none⟩ = some (.int .i64 i) ∧ w'.cell? ⟨gx, 3, none⟩ = some (.int .i64 k) ∧ w'.cell? ⟨gx, 6, none⟩ = some (.int .i64 m) ∧ w'.cell? ⟨sk.b, sk.o + m * 5 + 2, none⟩ = some (.slice (some ⟨sk.db m, sk.do_ m, none⟩) md.defs.length ci) ∧ w'.cell? ⟨sk.db m, sk.do_ m + i * 6 + 3, none⟩ = some (.slice (some ⟨sk.tb m i, sk.to_ m i, none⟩) d.tree.length ct)) 16 [(0, true), (1, true), (2, true), (3, true), (4, true), (5, true), (6, true), (7, true), (8, true), (9, true), (10, true), (11, true), (12, true), (13, true), (14, true), (15, true)] (by kernel_rfl) (by kernel_rfl) (by kernel_rfl) (fun _ _ _ _ _ h => h) ⟨b2, b3, b6, n1, n2⟩ ?_
      intro HSS
      repeat (first | (apply wpPlan_look; rfl; rfl; (intro wq hq; (try dsimp only at hq); go_split_ands; go_simp; (try rw [if_neg (by omega)]); (try rw [if_pos (by omega)]); try with_reducible rfl); simp only [Act.put, List.setIfInBounds_toArray, List.set_cons_zero, List.set_cons_succ]) | (apply wpPlan_skip; rfl; rfl; simp only [Act.put, List.setIfInBounds_toArray, List.set_cons_zero, List.set_cons_succ]) | (apply wpPlan_pass; rfl; rfl; assumption; simp only [Act.put, List.setIfInBounds_toArray, List.set_cons_zero, List.set_cons_succ]))
      refine wpPlan_last_run0 (w' := w1.drew.drew.setCell ⟨sk.tb m i, sk.to_ m i + k * 8 + 4, none⟩ (.string { data := #[63] })) rfl rfl (by simp [execOp, go_sem, t2, fz]) ?_
      clear HSS b2 b3 b6 n1 n2 t2 fz
      go_wp2_with fail
      exact bodyPost_end (v := .tuple #[]) (by simp [results, Tryz.results72, go_sem]) rfl HRR.out
    · have e2 : (x.kind == 29) = false := beq_eq_false_iff_ne.2 h9
      have hu : laid s t = t := by rw [HLD.out, if_neg (fun h => h9 h.2)]
      rw [hu] at HRR
      clear hu h0 h9 ht HLD HS
      refine wp_region_plan (S := fun w' => w'.cell? ⟨gx, 2, none⟩ = some (.int .i64 i) ∧ w'.cell? ⟨gx, 3, none⟩ = some (.int .i64 k) ∧ w'.cell? ⟨gx, 6, none⟩ = some (.int .i64 m) ∧ w'.cell? ⟨sk.b, sk.o + m * 5 + 2, none⟩ = some (.slice (some ⟨sk.db m, sk.do_ m, none⟩) md.defs.length ci) ∧ w'.cell? ⟨sk.db m, sk.do_ m + i * 6 + 3, none⟩ = some (.slice (some ⟨sk.tb m i, sk.to_ m i, none⟩) d.tree.length ct) ∧ w'.cell? ⟨sk.tb m i, sk.to_ m i + k * 8, none⟩ = some (.int .i8 x.kind)) [(0, true), (1, true), (2, true), (3, true), (4, true), (5, true), (6, true), (7, true), (8, true), (9, true), (10, true), (11, true), (12, true), (13, true), (14, true), (15, true), (16, true), (17, true), (18, true), (19, true), (20, true)] (by kernel_rfl) (by kernel_rfl) (by kernel_rfl) (fun _ _ _ _ _ h => h) ⟨b2, b3, b6, n1, n2, n3⟩ ?_
      intro HP
      repeat (first | (apply wpPlan_look; rfl; rfl; (intro wq hq; (try dsimp only at hq); go_split_ands; go_simp; (try rw [if_neg (by omega)]); (try rw [if_pos (by omega)]); try with_reducible rfl); simp only [Act.put, List.setIfInBounds_toArray, List.set_cons_zero, List.set_cons_succ]) | (apply wpPlan_skip; rfl; rfl; simp only [Act.put, List.setIfInBounds_toArray, List.set_cons_zero, List.set_cons_succ]) | (apply wpPlan_pass; rfl; rfl; assumption; simp only [Act.put, List.setIfInBounds_toArray, List.set_cons_zero, List.set_cons_succ]))
      apply wpPlan_done
      clear HP
      go_wp2_with fail
      refine wp_region_last (S := fun w' => w'.cell? ⟨gx, 2, none⟩ = some (.int .i64 i) ∧ w'.cell? ⟨gx, 3, none⟩ = some (.int .i64 k) ∧ w'.cell? ⟨gx, 6, none⟩ = some (.int .i64 m) ∧ w'.cell? ⟨sk.b, sk.o + m * 5 + 2, none⟩ = some (.slice (some ⟨sk.db m, sk.do_ m, none⟩) md.defs.length ci) ∧ w'.cell? ⟨sk.db m, sk.do_ m + i * 6 + 3, none⟩ = some (.slice (some ⟨sk.tb m i, sk.to_ m i, none⟩) d.tree.length ct)) 16 [(0, true), (1, true), (2, true), (3, true), (4, true), (5, true), (6, true), (7, true), (8, true), (9, true), (10, true), (11, true), (12, true), (13, true), (14, true), (15, true)] (by kernel_rfl) (by kernel_rfl) (by kernel_rfl) (fun _ _ _ _ _ h => h) ⟨b2, b3, b6, n1, n2⟩ ?_
      intro HSS
      repeat (first | (apply wpPlan_look; rfl; rfl; (intro wq hq; (try dsimp only at hq); go_split_ands; go_simp; (try rw [if_neg (by omega)]); (try rw [if_pos (by omega)]); try with_reducible rfl); simp only [Act.put, List.setIfInBounds_toArray, List.set_cons_zero, List.set_cons_succ]) | (apply wpPlan_skip; rfl; rfl; simp only [Act.put, List.setIfInBounds_toArray, List.set_cons_zero, List.set_cons_succ]) | (apply wpPlan_pass; rfl; rfl; assumption; simp only [Act.put, List.setIfInBounds_toArray, List.set_cons_zero, List.set_cons_succ]))
      refine wpPlan_last_run0 (w' := w1.drew.drew.setCell ⟨sk.tb m i, sk.to_ m i + k * 8 + 4, none⟩ (.string t)) rfl rfl (by simp [execOp, go_sem, t2, fz]) ?_
      clear HSS b2 b3 b6 n1 n2 t2 fz
      go_wp2_with fail
      exact bodyPost_end (v := .tuple #[]) (by simp [results, Tryz.results72, go_sem]) rfl HRR.out
  · have e1 := nil_no h0
    have hu : laid s t = t := by rw [HLD.out, if_neg (fun h => h0 (by rw [h.1]; rfl))]
    rw [hu] at HRR
    clear hu h0 HLD HS
    refine wp_region_plan (S := fun w' => w'.cell? ⟨gx, 2, none⟩ = some (.int .i64 i) ∧ w'.cell? ⟨gx, 3, none⟩ = some (.int .i64 k) ∧ w'.cell? ⟨gx, 6, none⟩ = some (.int .i64 m) ∧ w'.cell? ⟨sk.b, sk.o + m * 5 + 2, none⟩ = some (.slice (some ⟨sk.db m, sk.do_ m, none⟩) md.defs.length ci) ∧ w'.cell? ⟨sk.db m, sk.do_ m + i * 6 + 3, none⟩ = some (.slice (some ⟨sk.tb m i, sk.to_ m i, none⟩) d.tree.length ct) ∧ w'.cell? ⟨sk.tb m i, sk.to_ m i + k * 8, none⟩ = some (.int .i8 x.kind)) [(0, true), (1, true), (2, true), (3, true), (4, true), (5, true), (6, true), (7, true), (8, true), (9, true), (10, true), (11, true), (12, true), (13, true), (14, true), (15, true), (16, true), (17, true), (18, true), (19, true), (20, true)] (by kernel_rfl) (by kernel_rfl) (by kernel_rfl) (fun _ _ _ _ _ h => h) ⟨b2, b3, b6, n1, n2, n3⟩ ?_
    intro HP
    repeat (first | (apply wpPlan_look; rfl; rfl; (intro wq hq; (try dsimp only at hq); go_split_ands; go_simp; (try rw [if_neg (by omega)]); (try rw [if_pos (by omega)]); try with_reducible rfl); simp only [Act.put, List.setIfInBounds_toArray, List.set_cons_zero, List.set_cons_succ]) | (apply wpPlan_skip; rfl; rfl; simp only [Act.put, List.setIfInBounds_toArray, List.set_cons_zero, List.set_cons_succ]) | (apply wpPlan_pass; rfl; rfl; assumption; simp only [Act.put, List.setIfInBounds_toArray, List.set_cons_zero, List.set_cons_succ]))
    apply wpPlan_done
    clear HP
    go_wp2_with fail
    refine wp_region_last (S := fun w' => w'.cell? ⟨gx, 2, none⟩ = some (.int .i64 i) ∧ w'.cell? ⟨gx, 3, none⟩ = some (.int .i64 k) ∧ w'.cell? ⟨gx, 6, none⟩ = some (.int .i64 m) ∧ w'.cell? ⟨sk.b, sk.o + m * 5 + 2, none⟩ = some (.slice (some ⟨sk.db m, sk.do_ m, none⟩) md.defs.length ci) ∧ w'.cell? ⟨sk.db m, sk.do_ m + i * 6 + 3, none⟩ = some (.slice (some ⟨sk.tb m i, sk.to_ m i, none⟩) d.tree.length ct)) 16 [(0, true), (1, true), (2, true), (3, true), (4, true), (5, true), (6, true), (7, true), (8, true), (9, true), (10, true), (11, true), (12, true), (13, true), (14, true), (15, true)] (by kernel_rfl) (by kernel_rfl) (by kernel_rfl) (fun _ _ _ _ _ h => h) ⟨b2, b3, b6, n1, n2⟩ ?_
    intro HSS
    repeat (first | (apply wpPlan_look; rfl; rfl; (intro wq hq; (try dsimp only at hq); go_split_ands; go_simp; (try rw [if_neg (by omega)]); (try rw [if_pos (by omega)]); try with_reducible rfl); simp only [Act.put, List.setIfInBounds_toArray, List.set_cons_zero, List.set_cons_succ]) | (apply wpPlan_skip; rfl; rfl; simp only [Act.put, List.setIfInBounds_toArray, List.set_cons_zero, List.set_cons_succ]) | (apply wpPlan_pass; rfl; rfl; assumption; simp only [Act.put, List.setIfInBounds_toArray, List.set_cons_zero, List.set_cons_succ]))
    refine wpPlan_last_run0 (w' := w1.drew.drew.setCell ⟨sk.tb m i, sk.to_ m i + k * 8 + 4, none⟩ (.string t)) rfl rfl (by simp [execOp, go_sem, t2, fz]) ?_
    clear HSS b2 b3 b6 n1 n2 t2 fz
    go_wp2_with fail
    exact bodyPost_end (v := .tuple #[]) (by simp [results, Tryz.results72, go_sem]) rfl HRR.out
theorem Laid_any (sk : Sk) (L : List Md) (H : Nat) (f : Pos → ByteArray) (s : Sl) (t u : ByteArray) (A : Option Addr) (c : Nat) (w : World) (h : OwnSt sk L H f w) (hA : 0 < L.length → A = some ⟨sk.b, sk.o, none⟩) (hl : Lens L) (hs : s ∈ slots L) :
    Calls Tryz.prog 72 #[.slice A L.length c, .agg (docC s u).toArray, .string t] w (LaidRes sk L H f s t w) := by
  have hr := slots_real hs
  rcases slots_at hs with ⟨m, md, i, x, hm, hx, he⟩ | ⟨m, md, i, d, hm, hd, he⟩ | ⟨m, md, i, d, k, x, hm, hd, hk, -, he⟩ | ⟨m, md, i, d, k, x, hm, hd, hk, -, he⟩
  · exact laid0_any sk L H f s t u A c w h hA hl.len m md i x hm hx (hl.imps md (List.mem_of_getElem? hm)) he hr
  · exact laid1_any sk L H f s t u A c w h hA hl.len m md i d hm hd (hl.defs md (List.mem_of_getElem? hm)) he hr
  · exact laid2_any sk L H f s t u A c w h hA hl.len m md i d k x hm hd hk (hl.defs md (List.mem_of_getElem? hm)) (hl.trees md (List.mem_of_getElem? hm) d (List.mem_of_getElem? hd)) he hr
  · exact laid3_any sk L H f s t u A c w h hA hl.len m md i d k x hm hd hk (hl.defs md (List.mem_of_getElem? hm)) (hl.trees md (List.mem_of_getElem? hm) d (List.mem_of_getElem? hd)) he hr
end Go.Proofs.YtidholghbjljaaaGreatDoor

/- Walks of the document's chapter 25: Lay; what it asks of Copied is a premise here (CopySpec), to be proved by itself. -/
namespace Culp.Er
set_option linter.unusedSimpArgs false
set_option linter.unusedVariables false
open Go Go.RowKit Culp
theorem doc_row8 {w : World} {base : Nat} {e : TypeId} {v : Value} {S : List Sl} {f : Pos → ByteArray} (h : w.ownsRow base e 8 v S.length (docs S f)) (hn : 0 < S.length) : ∃ g cap, v = .slice (some ⟨g, 0, none⟩) S.length cap ∧ ∀ W, Below w.heap.size w W → ∀ (k : Nat) s, S[k]? = some s →
    W.cell? ⟨g, k * 8, none⟩ = some (.string s.mod) ∧ W.cell? ⟨g, k * 8 + 1, none⟩ = some (.bool s.imp) ∧ W.cell? ⟨g, k * 8 + 2, none⟩ = some (.int .i64 s.item) ∧ W.cell? ⟨g, k * 8 + 3, none⟩ = some (.int .i64 s.node) ∧ W.cell? ⟨g, k * 8 + 4, none⟩ = some (.bool s.res) ∧ W.cell? ⟨g, k * 8 + 5, none⟩ = some (.string (f s.pos)) ∧ W.cell? ⟨g, k * 8 + 6, none⟩ = some (.int .i64 (s.pos.2.1 : Nat)) ∧ W.cell? ⟨g, k * 8 + 7, none⟩ = some (.int .i64 (s.pos.1 : Nat)) := by
  obtain ⟨g, cap, rfl, -, hc⟩ := own_at h hn
  refine ⟨g, cap, rfl, fun W hW k s hs => ?_⟩
  have K : ∀ j u, (docC s (f s.pos))[j]? = some u → W.cell? ⟨g, k * 8 + j, none⟩ = some u := fun j u hu => cell_later hW (hc _ _ (flat_at (fun s => docC s (f s.pos)) 8 (fun _ => rfl) S k s j u hs hu))
  exact ⟨K 0 _ rfl, K 1 _ rfl, K 2 _ rfl, K 3 _ rfl, K 4 _ rfl, K 5 _ rfl, K 6 _ rfl, K 7 _ rfl⟩
theorem layTo_at {S : List Sl} {f : Pos → ByteArray} {k : Nat} {s : Sl} {t : ByteArray} (hs : S[k]? = some s) : layTo S f (k : Int) t S.length = upd f s.pos (laid s t) := by
  have hk := (List.getElem?_eq_some_iff.1 hs).1
  unfold layTo
  rw [Int.toNat_natCast, hs]
  simp only
  rw [if_pos (by omega)]
end Culp.Er
namespace Go.Proofs.YtidholghbjljaaaGreatDoor
set_option linter.unusedSimpArgs false
set_option linter.unusedVariables false
open Go.RowKit Go.Maps Culp Culp.Er
/-- What is asked of the document's Copied. -/
def CopySpec : Prop := ∀ (L : List Md) (v : Value) (w : World), Mods w v L → Mo.mods L = 0 → Calls Tryz.prog 71 #[v] w (CopiedRes L (note L) w)
theorem lint_no {a b : Int} (h : a ≠ b) : (a != b) = true := bne_iff_ne.2 h
theorem lnat_no {s t : Nat} (h : ¬ s = t) : ((s : Int) != (t : Int)) = true := lint_no (fun e => h (Int.ofNat.inj e))
theorem lnat_yes {s t : Nat} (h : s = t) : ((s : Int) != (t : Int)) = false := by rw [h]; simp
set_option maxRecDepth 100000 in
set_option maxHeartbeats 3200000 in
theorem rLay_any (HCS : CopySpec) (L : List Md) (v : Value) (slot : Int) (t : ByteArray) (w : World) (hm : Mods w v L) (hl : L.length ≤ 1000000000000000) (hz : ∀ m ∈ L, MdSz m) : Calls Tryz.prog 23 #[v, .int .i64 slot, .string t] w (LayRes L slot t w) := by
  have HM := Lib.hid hm
  have HC := Lib.hid (rModules_any L v w hm hl hz)
  obtain ⟨A, c, rfl⟩ := hm.form
  clear hm hz hl
  go_enter Tryz.func23, Tryz.ntmps23
  go_wp2_with fail
  refine HC.out.mono ?_
  rintro E w1 ⟨rfl, hb1⟩
  have HB1 := Lib.hid hb1
  clear hb1 HC
  by_cases h0 : Mo.mods L = 0
  rotate_left
  · have e1 : (((Mo.mods L : Nat) : Int) != 0) = true := lint_no (by omega)
    have HM0 := Lib.hid h0
    clear h0
    go_wp2_with fail
    refine bodyPost_ret (v := .tuple #[.slice none 0 0, .int .i64 (Mo.mods L : Nat)]) (by simp [results, Tryz.results23, go_sem]) rfl ?_
    exact ⟨HB1.out, .inl ⟨HM0.out, rfl⟩⟩
  have H0 := Lib.hid h0
  rw [h0]
  clear h0
  go_wp2_with fail
  refine (rSlots_any L _ w1 (HM.out.later HB1.out) H0.out).mono ?_
  rintro E w2 ⟨va, rfl, hb2, ho2⟩
  have HB2 := Lib.hid (below_later hb2 HB1.out)
  have HO2 := Lib.hid ho2
  obtain ⟨Aa, ca, rfl⟩ := own_shape ho2
  have hns := fits_small H0.out
  clear hb2 ho2 HB1
  by_cases hs0 : slot < 0
  · have HN : Hid (¬ layOk L slot t) := Lib.hid fun h => by have := h.1; omega
    go_wp2_with fail
    refine bodyPost_ret (v := .tuple #[.slice none 0 0, .int .i64 1]) (by simp [results, Tryz.results23, go_sem]) rfl ?_
    exact ⟨HB2.out, .inr (.inl ⟨H0.out, HN.out, rfl⟩)⟩
  obtain ⟨k, rfl⟩ : ∃ k : Nat, slot = k := ⟨slot.toNat, by omega⟩
  by_cases hk : k < (slots L).length
  rotate_left
  · have HN : Hid (¬ layOk L k t) := Lib.hid fun h => by have := h.2.1; omega
    clear hs0
    go_wp2_with fail
    refine bodyPost_ret (v := .tuple #[.slice none 0 0, .int .i64 1]) (by simp [results, Tryz.results23, go_sem]) rfl ?_
    exact ⟨HB2.out, .inr (.inl ⟨H0.out, HN.out, rfl⟩)⟩
  clear hs0
  have HCP := Lib.hid (HCS L (.slice A L.length c) w2 (HM.out.later HB2.out) H0.out)
  obtain ⟨s, hs⟩ : ∃ s, (slots L)[k]? = some s := ⟨_, List.getElem?_eq_getElem hk⟩
  have HSS := Lib.hid hs
  have HLN := Lib.hid (lens_of H0.out)
  obtain ⟨g, cg, eg, hcg⟩ := doc_row8 HO2.out (by omega)
  cases eg
  have HCG := Lib.hid (fun W h => hcg W h k s hs)
  clear hcg hs
  by_cases ht : t = no
  · have e1 := nil_yes (s := t) (by rw [ht]; rfl)
    have HY : Hid (layOk L k t) := Lib.hid ⟨by omega, by omega, .inl ht⟩
    clear ht
    go_wp2_with fail
    clear e1
    refine HCP.out.mono ?_
    rintro E w3 ⟨v3, sk, rfl, ⟨A3, c3, rfl, hc3, hA3⟩, hb3, hM3, hX3, hV3⟩
    have HV3 := Lib.hid hV3
    clear hV3
    have HB3 := Lib.hid (below_later hb3 HB2.out)
    have HOS := Lib.hid (OwnSt.mk hM3 hX3)
    obtain ⟨n0, n1, n2, n3, n4, n5, n6, n7⟩ := HCG.out w3 hb3
    have HA3 := Lib.hid hA3
    have HC3 := Lib.hid hc3
    have h2s := HB2.out.size
    clear hb3 hM3 hX3 hA3 hc3 HCP HCG
    go_wp2_with fail
    refine (Laid_any sk L w2.heap.size (note L) s t (note L s.pos) A3 c3 _ HOS.out HA3.out HLN.out (List.mem_of_getElem? HSS.out)).mono ?_
    rintro E w4 ⟨rfl, hos, hb4⟩
    have HB4 := Lib.hid (HB3.out.trans (hb4.mono h2s))
    have HOS4 := Lib.hid hos
    clear hb4 hos n0 n1 n2 n3 n4 n5 n6 n7
    go_wp2_with fail
    refine bodyPost_ret (v := .tuple #[.slice A3 L.length c3, .int .i64 0]) (by simp [results, Tryz.results23, go_sem]) rfl ?_
    exact ⟨HB4.out, .inr (.inr ⟨H0.out, HY.out, _, rfl, sk, ⟨A3, c3, rfl, HC3.out, HA3.out⟩, by rw [layTo_at HSS.out]; exact HOS4.out.low' h2s, HV3.out⟩)⟩
  · have e1 := nil_no (s := t) (fun h => ht (ByteArray.ext (Array.toList_inj.1 (by rw [List.eq_nil_of_length_eq_zero (l := t.data.toList) (by rw [Array.length_toList]; exact h)]; rfl))))
    have HNO := Lib.hid ht
    clear ht
    go_wp2_with fail
    clear e1
    refine (rType_any t _).mono ?_
    rintro E w' ⟨rfl, rfl⟩
    obtain ⟨b, hb⟩ : ∃ b, isTy t.data.toList = b := ⟨_, rfl⟩
    have HBB := Lib.hid hb
    rw [hb]
    clear hb
    cases b with
    | false =>
      have HN : Hid (¬ layOk L k t) := Lib.hid fun h => by
        rcases h.2.2 with h | h
        · exact HNO.out h
        · rw [HBB.out] at h; cases h
      go_wp2_with fail
      refine bodyPost_ret (v := .tuple #[.slice none 0 0, .int .i64 1]) (by simp [results, Tryz.results23, go_sem]) rfl ?_
      exact ⟨HB2.out, .inr (.inl ⟨H0.out, HN.out, rfl⟩)⟩
    | true =>
      have HY : Hid (layOk L k t) := Lib.hid ⟨by omega, by omega, .inr HBB.out⟩
      clear HNO HBB
      go_wp2_with fail
      refine HCP.out.mono ?_
      rintro E w3 ⟨v3, sk, rfl, ⟨A3, c3, rfl, hc3, hA3⟩, hb3, hM3, hX3, hV3⟩
      have HV3 := Lib.hid hV3
      clear hV3
      have HB3 := Lib.hid (below_later hb3 HB2.out)
      have HOS := Lib.hid (OwnSt.mk hM3 hX3)
      obtain ⟨n0, n1, n2, n3, n4, n5, n6, n7⟩ := HCG.out w3 hb3
      have HA3 := Lib.hid hA3
      have HC3 := Lib.hid hc3
      have h2s := HB2.out.size
      clear hb3 hM3 hX3 hA3 hc3 HCP HCG
      go_wp2_with fail
      refine (Laid_any sk L w2.heap.size (note L) s t (note L s.pos) A3 c3 _ HOS.out HA3.out HLN.out (List.mem_of_getElem? HSS.out)).mono ?_
      rintro E w4 ⟨rfl, hos, hb4⟩
      have HB4 := Lib.hid (HB3.out.trans (hb4.mono h2s))
      have HOS4 := Lib.hid hos
      clear hb4 hos n0 n1 n2 n3 n4 n5 n6 n7
      go_wp2_with fail
      refine bodyPost_ret (v := .tuple #[.slice A3 L.length c3, .int .i64 0]) (by simp [results, Tryz.results23, go_sem]) rfl ?_
      exact ⟨HB4.out, .inr (.inr ⟨H0.out, HY.out, _, rfl, sk, ⟨A3, c3, rfl, HC3.out, HA3.out⟩, by rw [layTo_at HSS.out]; exact HOS4.out.low' h2s, HV3.out⟩)⟩
end Go.Proofs.YtidholghbjljaaaGreatDoor

/- Walks of the document's chapter 25: Keep; what it asks of Copied is a premise here (CopySpec), to be proved by itself. -/
namespace Go.Proofs.YtidholghbjljaaaGreatDoor
set_option linter.unusedSimpArgs false
set_option linter.unusedVariables false
open Go.RowKit Go.Maps Culp Culp.Er
set_option maxRecDepth 100000 in
set_option maxHeartbeats 6400000 in
theorem rKeep_any (HCS : CopySpec) (L : List Md) (v kv : Value) (keep : List Bool) (w : World) (hm : Mods w v L) (hk : Bools w kv keep) (hkp : keep.length ≤ 1000000000000000) (hl : L.length ≤ 1000000000000000) (hz : ∀ m ∈ L, MdSz m) : Calls Tryz.prog 24 #[v, kv] w (KeepRes L keep w) := by
  have HM := Lib.hid hm
  have HC := Lib.hid (rModules_any L v w hm hl hz)
  obtain ⟨A, c, rfl⟩ := hm.form
  obtain ⟨Ak, ck, bb, bo, rfl, hAk, hbo⟩ := hk
  have HAK := Lib.hid hAk
  have HBO := Lib.hid hbo
  clear hm hz hl hAk hbo
  go_enter Tryz.func24, Tryz.ntmps24
  go_wp2_with fail
  refine HC.out.mono ?_
  rintro E w1 ⟨rfl, hb1⟩
  have HB1 := Lib.hid hb1
  clear hb1 HC
  by_cases h0 : Mo.mods L = 0
  rotate_left
  · have e1 : (((Mo.mods L : Nat) : Int) != 0) = true := lint_no (by omega)
    have HM0 := Lib.hid h0
    clear h0
    go_wp2_with fail
    refine bodyPost_ret (v := .tuple #[.slice none 0 0, .int .i64 (Mo.mods L : Nat)]) (by simp [results, Tryz.results24, go_sem]) rfl ?_
    exact ⟨HB1.out, .inl ⟨HM0.out, rfl⟩⟩
  have H0 := Lib.hid h0
  rw [h0]
  clear h0
  go_wp2_with fail
  refine (rSlots_any L _ w1 (HM.out.later HB1.out) H0.out).mono ?_
  rintro E w2 ⟨va, rfl, hb2, ho2⟩
  have HB2 := Lib.hid (below_later hb2 HB1.out)
  have HO2 := Lib.hid ho2
  obtain ⟨Aa, ca, rfl⟩ := own_shape ho2
  have hns := fits_small H0.out
  have HLN := Lib.hid (lens_of H0.out)
  clear hb2 ho2 HB1
  go_wp2_with fail
  refine (HCS L (.slice A L.length c) w2 (HM.out.later HB2.out) H0.out).mono ?_
  rintro E w3 ⟨v3, sk, rfl, ⟨A3, c3, rfl, hc3, hA3⟩, hb3, hM3, hX3, hV3⟩
  have HV3 := Lib.hid hV3
  clear hV3
  have HB3 := Lib.hid hb3
  have HOS := Lib.hid (OwnSt.mk hM3 hX3)
  have HA3 := Lib.hid hA3
  have HC3 := Lib.hid hc3
  clear hb3 hM3 hX3 hA3 hc3
  go_wp2_with fail
  go_loopw [9, 10] (fun nv iv wr => ∃ k : Nat, k ≤ (slots L).length ∧ iv = .int .i64 k ∧ nv = .int .i64 ((keepAt keep (slots L) (note L) k).1 : Nat) ∧ Hid (OwnSt sk L w2.heap.size (keepAt keep (slots L) (note L) k).2 wr) ∧ Hid (Below w2.heap.size w2 wr)) (fun _ i _ => (slots L).length - (intOf i).toNat)
  case atStart => exact ⟨0, Nat.zero_le _, rfl, rfl, HOS, HB3⟩
  case round =>
    clear HOS HB3
    obtain ⟨k, hk, rfl, rfl, HOS, HB⟩ := hrel
    have HKL : Hid ((keepAt keep (slots L) (note L) k).1 ≤ k) := Lib.hid (keep_le _)
    by_cases hlt : k < (slots L).length
    · obtain ⟨g1, c1, es1, hc1⟩ := doc_row8 HO2.out (by omega)
      cases es1
      obtain ⟨s, hs⟩ : ∃ s, (slots L)[k]? = some s := ⟨_, List.getElem?_eq_getElem hlt⟩
      obtain ⟨n0, n1, n2, n3, n4, n5, n6, n7⟩ := hc1 wr HB.out k s hs
      have HST := Lib.hid (keep_step (keep := keep) (f := note L) hs)
      have HOL := Lib.hid (keep_old (keep := keep) (f := note L) (slots_dist L) hs k (Nat.le_refl _))
      have HSS := Lib.hid hs
      have HW : Hid (keepAt keep (slots L) (note L) (k + 1) = if isW (note L s.pos) = true then ((keepAt keep (slots L) (note L) k).1 + 1, if keep[(keepAt keep (slots L) (note L) k).1]? = some false then upd (keepAt keep (slots L) (note L) k).2 s.pos (laid s no) else (keepAt keep (slots L) (note L) k).2) else keepAt keep (slots L) (note L) k) := Lib.hid (by
        rw [HST.out]; unfold stepK; rw [HOL.out])
      clear hc1 hs HST HOL
      obtain ⟨tx, htx⟩ : ∃ tx, tx = note L s.pos := ⟨_, rfl⟩
      rw [← htx] at n5 HW
      have HTX := Lib.hid htx
      clear htx
      go_wp2_with fail
      refine (IsWritten_any tx _).mono ?_
      rintro E w' ⟨rfl, rfl⟩
      cases hw : isW tx with
      | false =>
        have HE : Hid (keepAt keep (slots L) (note L) (k + 1) = keepAt keep (slots L) (note L) k) := Lib.hid (by rw [HW.out, if_neg (by rw [hw]; decide)])
        have HOS2 : Hid (OwnSt sk L w2.heap.size (keepAt keep (slots L) (note L) (k + 1)).2 wr) := Lib.hid (by rw [HE.out]; exact HOS.out)
        clear hw HW HOS n0 n1 n2 n3 n4 n5 n6 n7
        go_wp2_with fail
        go_roundw
        case rel => exact ⟨k + 1, by omega, by go_num, by rw [HE.out], HOS2, HB⟩
        case measure => simp [intOf]; omega
      | true =>
        have HE : Hid (keepAt keep (slots L) (note L) (k + 1) = ((keepAt keep (slots L) (note L) k).1 + 1, if keep[(keepAt keep (slots L) (note L) k).1]? = some false then upd (keepAt keep (slots L) (note L) k).2 s.pos (laid s no) else (keepAt keep (slots L) (note L) k).2)) := Lib.hid (by rw [HW.out, if_pos hw])
        have HE1 : Hid ((keepAt keep (slots L) (note L) (k + 1)).1 = (keepAt keep (slots L) (note L) k).1 + 1) := Lib.hid (by rw [HE.out])
        have HE2 : Hid ((keepAt keep (slots L) (note L) (k + 1)).2 = if keep[(keepAt keep (slots L) (note L) k).1]? = some false then upd (keepAt keep (slots L) (note L) k).2 s.pos (laid s no) else (keepAt keep (slots L) (note L) k).2) := Lib.hid (by rw [HE.out])
        clear hw HW HE
        have hkl := HKL.out
        obtain ⟨n, hn⟩ : ∃ n, n = (keepAt keep (slots L) (note L) k).1 := ⟨_, rfl⟩
        obtain ⟨fk, hfk⟩ : ∃ fk, fk = (keepAt keep (slots L) (note L) k).2 := ⟨_, rfl⟩
        rw [← hn] at HE1 HE2 hkl ⊢
        rw [← hfk] at HE2 HOS
        clear HKL hn hfk
        by_cases hnl : n < keep.length
        · obtain ⟨rfl, -⟩ := HAK.out (by omega)
          have hx : keep[n]? = some keep[n] := List.getElem?_eq_getElem hnl
          have b0 := cell_later (HB2.out.trans (HB.out.mono HB2.out.size)) (HBO.out n _ hx)
          rw [hx] at HE2
          generalize keep[n] = b at *
          cases b with
          | false =>
            have HE3 : Hid ((keepAt keep (slots L) (note L) (k + 1)).2 = upd fk s.pos (laid s no)) := Lib.hid (by rw [HE2.out, if_pos rfl])
            clear hx HE2
            go_wp2_with fail
            rw [HTX.out] at n5 ⊢
            refine (Laid_any sk L w2.heap.size fk s no (note L s.pos) A3 c3 _ HOS.out HA3.out HLN.out (List.mem_of_getElem? HSS.out)).mono ?_
            rintro E w4 ⟨rfl, hos, hb4⟩
            have HB4 := Lib.hid (HB.out.trans hb4)
            have HOS4 : Hid (OwnSt sk L w2.heap.size (keepAt keep (slots L) (note L) (k + 1)).2 w4) := Lib.hid (by rw [HE3.out]; exact hos)
            clear hb4 hos n0 n1 n2 n3 n4 n5 n6 n7 b0 HB HOS
            go_wp2_with fail
            go_roundw
            case rel => exact ⟨k + 1, by omega, by go_num, by rw [HE1.out]; go_num, HOS4, HB4⟩
            case measure => simp [intOf]; omega
          | true =>
            have HE3 : Hid ((keepAt keep (slots L) (note L) (k + 1)).2 = fk) := Lib.hid (by rw [HE2.out, if_neg (by decide)])
            have HOS4 : Hid (OwnSt sk L w2.heap.size (keepAt keep (slots L) (note L) (k + 1)).2 wr) := Lib.hid (by rw [HE3.out]; exact HOS.out)
            clear hx HE2 n0 n1 n2 n3 n4 n5 n6 n7 HOS
            go_wp2_with fail
            go_roundw
            case rel => exact ⟨k + 1, by omega, by go_num, by rw [HE1.out]; go_num, HOS4, HB⟩
            case measure => simp [intOf]; omega
        · have HE3 : Hid ((keepAt keep (slots L) (note L) (k + 1)).2 = fk) := Lib.hid (by rw [HE2.out, if_neg (by rw [List.getElem?_eq_none (by omega)]; decide)])
          have HOS4 : Hid (OwnSt sk L w2.heap.size (keepAt keep (slots L) (note L) (k + 1)).2 wr) := Lib.hid (by rw [HE3.out]; exact HOS.out)
          clear HE2 n0 n1 n2 n3 n4 n5 n6 n7 HOS
          go_wp2_with fail
          go_roundw
          case rel => exact ⟨k + 1, by omega, by go_num, by rw [HE1.out]; go_num, HOS4, HB⟩
          case measure => simp [intOf]; omega
    · have hke : k = (slots L).length := by omega
      have hkl := HKL.out
      have HBW := Lib.hid (HB2.out.trans (HB.out.mono HB2.out.size))
      by_cases hnk : (keepAt keep (slots L) (note L) k).1 = keep.length
      · have e1 := lnat_yes hnk
        have HR : Hid (KeepRes L keep w (.returned (.tuple #[.slice A3 L.length c3, .int .i64 0])) wr) := Lib.hid ⟨HBW.out, .inr (.inr ⟨H0.out, by rw [← hke]; exact hnk, _, rfl, sk, ⟨A3, c3, rfl, HC3.out, HA3.out⟩, by rw [← hke]; exact HOS.out.low' HB2.out.size, HV3.out⟩)⟩
        generalize (keepAt keep (slots L) (note L) k).1 = n at *
        clear hnk HOS
        go_wp2_with fail
        refine bodyPost_ret (v := .tuple #[.slice A3 L.length c3, .int .i64 0]) (by simp [results, Tryz.results24, go_sem]) rfl ?_
        exact HR.out
      · have e1 := lnat_no hnk
        have HR : Hid (KeepRes L keep w (.returned (.tuple #[.slice none 0 0, .int .i64 1])) wr) := Lib.hid ⟨HBW.out, .inr (.inl ⟨H0.out, by rw [← hke]; exact hnk, rfl⟩)⟩
        generalize (keepAt keep (slots L) (note L) k).1 = n at *
        clear hnk HOS
        go_wp2_with fail
        refine bodyPost_ret (v := .tuple #[.slice none 0 0, .int .i64 1]) (by simp [results, Tryz.results24, go_sem]) rfl ?_
        exact HR.out
end Go.Proofs.YtidholghbjljaaaGreatDoor
