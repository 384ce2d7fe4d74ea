
/- Walks of the printer: ranks, a part in brackets, two parts, parts with commas. -/
import Derived.Test.YtacihffkjadbbaaGreatDoorUf
namespace Go.Proofs.YtacihffkjadbbaaGreatDoor
set_option linter.unusedSimpArgs false
set_option linter.unusedVariables false
open Go.RowKit Culp
theorem rank_or (k : Int) : k = 5 ∨ k = 6 ∨ k = 8 ∨ k = 9 ∨ k = 28 ∨ k = 14 ∨ k = 15 ∨ k = 10 ∨ k = 11 ∨ k = 13 ∨ k = 12 ∨ k = 16 ∨ k = 27 ∨ k = 7 ∨ (¬ k = 5 ∧ ¬ k = 6 ∧ ¬ k = 8 ∧ ¬ k = 9 ∧ ¬ k = 28 ∧ ¬ k = 14 ∧ ¬ k = 15 ∧ ¬ k = 10 ∧ ¬ k = 11 ∧ ¬ k = 13 ∧ ¬ k = 12 ∧ ¬ k = 16 ∧ ¬ k = 27 ∧ ¬ k = 7) := by omega
set_option maxRecDepth 100000 in
set_option maxHeartbeats 1600000 in
theorem rankOf_any (k : Int) (w : World) : Calls Tryz.prog 103 #[.int .i8 k] w (Gives (.int .i64 (Pt.rank k : Nat)) w) := by
  rcases rank_or k with rfl | rfl | rfl | rfl | rfl | rfl | rfl | rfl | rfl | rfl | rfl | rfl | rfl | rfl | ⟨h1, h2, h3, h4, h5, h6, h7, h8, h9, h10, h11, h12, h13, h14⟩
  all_goals
    go_enter Tryz.func103, Tryz.ntmps103
    go_wp2_with fail
    go_ret
    first
    | exact Gives.mk rfl
    | exact Gives.mk (int_congr (by simp [Pt.rank, *]))
set_option maxRecDepth 100000 in
set_option maxHeartbeats 1600000 in
theorem Rank_any (k : Int) (w : World) : Calls Tryz.prog 106 #[.int .i8 k] w (Gives (.int .i64 (Pt.rank k : Nat)) w) := by
  rcases rank_or k with rfl | rfl | rfl | rfl | rfl | rfl | rfl | rfl | rfl | rfl | rfl | rfl | rfl | rfl | ⟨h1, h2, h3, h4, h5, h6, h7, h8, h9, h10, h11, h12, h13, h14⟩
  all_goals
    go_enter Tryz.func106, Tryz.ntmps106
    go_wp2_with fail
    go_ret
    first
    | exact Gives.mk rfl
    | exact Gives.mk (int_congr (by simp [Pt.rank, *]))
/-- What node does with a part. -/
def NodeP (w0 : World) (lv : Value) (L : List Nd) (y : Nd) (ky : Tr.F) : Prop := ∀ (b : Nat) (o : Option Nat) (bs : List Value) (w1 : World) (l : List UInt8) (i : Nat) (p v : Value) (w : World), PS w0 lv b o bs w1 l i p v w →
  (∃ R, L.drop i = (y :: ky.flat) ++ R) → bs.length + l.length + (Pt.part y ky).length ≤ 140737488355328 → Calls Tryz.prog 40 #[.pointer (some ⟨b, 0, none⟩)] w (Goes w0 lv b o bs w1 (l ++ Pt.part y ky) (i + (1 + ky.flat.length)))
/-- What kid does with a part. -/
def kidT (r : Nat) (y : Nd) (ky : Tr.F) : List UInt8 := Pt.br (decide (Pt.rank y.kind < r)) (Pt.part y ky)
def KidP (w0 : World) (lv : Value) (L : List Nd) (r : Nat) (y : Nd) (ky : Tr.F) : Prop := ∀ (b : Nat) (o : Option Nat) (bs : List Value) (w1 : World) (l : List UInt8) (i : Nat) (p v : Value) (w : World), PS w0 lv b o bs w1 l i p v w →
  (∃ R, L.drop i = (y :: ky.flat) ++ R) → bs.length + l.length + (kidT r y ky).length ≤ 140737488355328 → Calls Tryz.prog 74 #[.pointer (some ⟨b, 0, none⟩), .int .i64 r] w (Goes w0 lv b o bs w1 (l ++ kidT r y ky) (i + (1 + ky.flat.length)))
theorem at_drop {L R : List Nd} {i : Nat} {y : Nd} {K : List Nd} (h : L.drop i = (y :: K) ++ R) : L[i]? = some y ∧ i < L.length := by
  have h1 : (L.drop i)[0]? = some y := by rw [h]; rfl
  rw [List.getElem?_drop, Nat.add_zero] at h1
  exact ⟨h1, (List.getElem?_eq_some_iff.1 h1).1⟩
theorem PS.nodes {w0 w1 w : World} {lv p v : Value} {b i : Nat} {o : Option Nat} {bs : List Value} {l : List UInt8} {L : List Nd} (h : PS w0 lv b o bs w1 l i p v w) (hN : Nodes w0 lv L) : Nodes w lv L := hN.later h.below
set_option maxRecDepth 100000 in
set_option maxHeartbeats 3200000 in
theorem kid_any (w0 : World) (lv : Value) (L : List Nd) (hN : Nodes w0 lv L) (r : Nat) (y : Nd) (ky : Tr.F) (hP : NodeP w0 lv L y ky) : KidP w0 lv L r y ky := by
  intro b o bs w1 l i p v w h hR hl
  have HP := Lib.hid h
  have HNP := Lib.hid hP
  have HRR := Lib.hid hR
  obtain ⟨R, hR⟩ := hR
  obtain ⟨hy, hi⟩ := at_drop hR
  obtain ⟨A, c, rfl, hcl, hA⟩ := h.nodes hN
  obtain ⟨g, off, rfl, hn⟩ := hA (by omega)
  obtain ⟨n0, -, -, -, -, -, -, -⟩ := hn.at_ hy
  obtain ⟨m2, m3⟩ := h.cells
  clear h hN hP hn hA hy hR
  go_enter Tryz.func74, Tryz.ntmps74
  go_wp2_with fail
  have hbd : Below w.heap.size w w.drew := (Below.refl _ _).drew
  have HPd := Lib.hid (HP.out.later hbd)
  have d2 := cell_later hbd m2
  have d3 := cell_later hbd m3
  have e0 := cell_later hbd n0
  clear HP m2 m3 n0 hbd
  refine wp_region_plan (S := fun w' => w'.cell? ⟨b, 2, none⟩ = some (.slice (some ⟨g, off, none⟩) L.length c) ∧ w'.cell? ⟨b, 3, none⟩ = some (.int .i64 i) ∧ w'.cell? ⟨g, off + i * 8, none⟩ = some (.int .i8 y.kind))
    [(0, true), (1, true), (2, true), (3, true), (4, true), (5, true), (6, true), (7, true), (8, true), (9, true), (10, true), (12, true), (11, false), (13, true)] (by kernel_rfl) (by kernel_rfl) (by kernel_rfl) (fun _ _ _ _ _ h => h) ⟨d2, d3, e0⟩ ?_
  intro HS
  repeat (first | (apply wpPlan_look; rfl; rfl; (intro wq hq; (try dsimp only at hq); go_split_ands; go_simp; (try rw [if_neg (by omega)]); (try rw [if_pos (by omega)]); try with_reducible rfl); simp only [Act.put, List.setIfInBounds_toArray, List.set_cons_zero, List.set_cons_succ]) | (apply wpPlan_skip; rfl; rfl; simp only [Act.put, List.setIfInBounds_toArray, List.set_cons_zero, List.set_cons_succ]) | (apply wpPlan_pass; rfl; rfl; assumption; simp only [Act.put, List.setIfInBounds_toArray, List.set_cons_zero, List.set_cons_succ]))
  apply wpPlan_call; rfl; rfl; rfl; rfl; kernel_rfl; exact rankOf_any y.kind _; rfl; rintro e w' ⟨rfl, rfl⟩
  refine ⟨_, rfl, as_S ⟨d2, d3, e0⟩ ?_⟩
  intro _
  simp only [Act.put, List.setIfInBounds_toArray, List.set_cons_zero, List.set_cons_succ]
  repeat (first | (apply wpPlan_look; rfl; rfl; (intro wq hq; (try dsimp only at hq); go_split_ands; go_simp; (try rw [if_neg (by omega)]); (try rw [if_pos (by omega)]); try with_reducible rfl); simp only [Act.put, List.setIfInBounds_toArray, List.set_cons_zero, List.set_cons_succ]) | (apply wpPlan_skip; rfl; rfl; simp only [Act.put, List.setIfInBounds_toArray, List.set_cons_zero, List.set_cons_succ]) | (apply wpPlan_pass; rfl; rfl; assumption; simp only [Act.put, List.setIfInBounds_toArray, List.set_cons_zero, List.set_cons_succ]))
  apply wpPlan_done
  have hb3 : HPd.out.pen.1 = HPd.out.pen.1 := rfl
  clear HS d2 d3 e0 hb3
  generalize w.drew = wd at *
  by_cases hrk : Pt.rank y.kind < r
  · have hkT : kidT r y ky = [40] ++ Pt.part y ky ++ [41] := by unfold kidT Pt.br; rw [if_pos (by simpa using hrk)]
    rw [hkT] at hl
    simp only [List.length_append, List.length_cons, List.length_nil] at hl
    go_wp2_with fail
    refine (put_lit [⟨#[40]⟩] _ HPd.out (by simp [cat]; omega) (by decide) (by decide)).mono ?_
    rintro e w2 ⟨rfl, v2, h2⟩
    have HP2 := Lib.hid h2
    clear h2 HPd
    go_wp2_with fail
    refine (HNP.out _ _ _ _ _ _ _ _ _ HP2.out HRR.out (by simp [cat]; omega)).mono ?_
    rintro e w3 ⟨rfl, v3, h3⟩
    have HP3 := Lib.hid h3
    clear h3 HP2
    go_wp2_with fail
    refine (put_lit [⟨#[41]⟩] _ HP3.out (by simp [cat]; omega) (by decide) (by decide)).mono ?_
    rintro e w4 ⟨rfl, v4, h4⟩
    have HP4 := Lib.hid h4
    clear h4 HP3
    go_wp2_with fail
    go_end0
    refine ⟨rfl, v4, ?_⟩
    rw [hkT]
    simpa [cat] using HP4.out
  · have hkT : kidT r y ky = Pt.part y ky := by unfold kidT Pt.br; rw [if_neg (by simpa using hrk)]
    rw [hkT] at hl
    go_wp2_with fail
    refine (HNP.out _ _ _ _ _ _ _ _ _ HPd.out HRR.out hl).mono ?_
    rintro e w3 ⟨rfl, v3, h3⟩
    go_wp2_with fail
    go_end0
    exact ⟨rfl, v3, by rw [hkT]; exact h3⟩
/-- What two does. -/
theorem drop_step {L : List Nd} {i : Nat} {y z : Nd} {ky kz r : Tr.F} (h : ∃ R, L.drop i = (y :: ky.flat) ++ (r.flat ++ R)) : ∃ R, L.drop (i + (1 + ky.flat.length)) = r.flat ++ R := by
  obtain ⟨R, h⟩ := h
  refine ⟨R, ?_⟩
  rw [← List.drop_drop, h, List.drop_append_of_le_length (by simp; omega), List.drop_of_length_le (by simp; omega), List.nil_append]
set_option maxRecDepth 100000 in
set_option maxHeartbeats 3200000 in
theorem two_pr (w0 : World) (lv : Value) (L : List Nd) (r r2 : Nat) (m : ByteArray) (y z : Nd) (ky kz : Tr.F) (hY : KidP w0 lv L r y ky) (hZ : KidP w0 lv L r2 z kz)
    (b : Nat) (o : Option Nat) (bs : List Value) (w1 : World) (l : List UInt8) (i : Nat) (p v : Value) (w : World) (h : PS w0 lv b o bs w1 l i p v w)
    (hR : ∃ R, L.drop i = (y :: ky.flat) ++ ((z :: kz.flat) ++ R)) (hl : bs.length + l.length + (kidT r y ky ++ ([32] ++ m.data.toList ++ [32]) ++ kidT r2 z kz).length ≤ 140737488355328) :
    Calls Tryz.prog 105 #[.pointer (some ⟨b, 0, none⟩), .int .i64 r, .string m, .int .i64 r2] w (Goes w0 lv b o bs w1 (l ++ (kidT r y ky ++ ([32] ++ m.data.toList ++ [32]) ++ kidT r2 z kz)) (i + (1 + ky.flat.length) + (1 + kz.flat.length))) := by
  have HP := Lib.hid h
  have HY := Lib.hid hY
  have HZ := Lib.hid hZ
  have HR1 : Hid (∃ R, L.drop i = (y :: ky.flat) ++ R) := Lib.hid (by obtain ⟨R, h⟩ := hR; exact ⟨_, h⟩)
  have HR2 : Hid (∃ R, L.drop (i + (1 + ky.flat.length)) = (z :: kz.flat) ++ R) := Lib.hid (by
    obtain ⟨R, h⟩ := hR
    have := drop_step (L := L) (i := i) (y := y) (z := z) (ky := ky) (kz := kz) (r := .cons z kz .nil) ⟨R, by rw [h]; simp [Tr.F.flat]⟩
    simpa [Tr.F.flat] using this)
  clear h hY hZ hR
  simp only [List.length_append, List.length_cons, List.length_nil] at hl
  rw [show m.data.toList.length = m.size from Array.length_toList] at hl
  go_enter Tryz.func105, Tryz.ntmps105
  go_wp2_with fail
  refine (HY.out _ _ _ _ _ _ _ _ _ HP.out HR1.out (by omega)).mono ?_
  rintro e w2 ⟨rfl, v2, h2⟩
  have HP2 := Lib.hid h2
  clear h2 HP
  go_wp2_with fail
  refine (put_lit [⟨#[32]⟩, m, ⟨#[32]⟩] _ HP2.out (by simp [cat]; omega) (by simp) (by simp)).mono ?_
  rintro e w3 ⟨rfl, v3, h3⟩
  have HP3 := Lib.hid h3
  clear h3 HP2
  go_wp2_with fail
  refine (HZ.out _ _ _ _ _ _ _ _ _ HP3.out HR2.out (by simp [cat]; omega)).mono ?_
  rintro e w4 ⟨rfl, v4, h4⟩
  have HP4 := Lib.hid h4
  clear h4 HP3
  go_wp2_with fail
  go_end0
  refine ⟨rfl, v4, ?_⟩
  simpa [cat] using HP4.out
/-- Parts with commas between. -/
def commas : Nat → Tr.F → List UInt8
  | _, .nil => []
  | k, .cons y ky r => (if k = 0 then [] else [44, 32]) ++ (Pt.part y ky ++ commas (k + 1) r)
/-- What node does with each of the parts. -/
def AllP (w0 : World) (lv : Value) (L : List Nd) : Tr.F → Prop
  | .nil => True
  | .cons y ky r => NodeP w0 lv L y ky ∧ AllP w0 lv L r
theorem kidT_0 (y : Nd) (ky : Tr.F) : kidT 0 y ky = Pt.part y ky := by unfold kidT Pt.br; rw [if_neg (by simp)]
theorem PS.kept {w0 w1 w : World} {lv p v : Value} {b i : Nat} {o : Option Nat} {bs : List Value} {l : List UInt8} {q : Addr} {u : Value} (h : PS w0 lv b o bs w1 l i p v w) (hq : w1.cell? q = some u) (hb : q.block ≠ b) (ho : o ≠ some q.block) : w.cell? q = some u := h.keep.cell hq hb ho
set_option maxRecDepth 100000 in
set_option maxHeartbeats 3200000 in
theorem between_any (k : Nat) (pb : Nat) {w0 w1 w : World} {lv v : Value} {b i : Nat} {o : Option Nat} {bs : List Value} {l : List UInt8} (h : PS w0 lv b o bs w1 l i (.pointer (some ⟨b, 0, none⟩)) v w) (hpb : w.cell? ⟨pb, 0, none⟩ = some (.pointer (some ⟨b, 0, none⟩))) (hl : bs.length + l.length + (if k = 0 then ([] : List UInt8) else [44, 32]).length ≤ 140737488355328) :
    Calls Tryz.prog 102 #[.int .i64 k, .pointer (some ⟨pb, 0, none⟩)] w (Goes w0 lv b o bs w1 (l ++ if k = 0 then [] else [44, 32]) i) := by
  have HP := Lib.hid h
  clear h
  by_cases hk : k = 0
  · subst hk
    go_enter Tryz.func102, Tryz.ntmps102
    go_wp2_with fail
    go_end0
    exact ⟨rfl, v, by simpa using HP.out⟩
  · rw [if_neg hk] at hl ⊢
    have hk0 : 0 < k := by omega
    go_enter Tryz.func102, Tryz.ntmps102
    go_wp2_with fail
    refine (put_lit [⟨#[44, 32]⟩] _ HP.out (by simpa [cat] using hl) (by decide) (by decide)).mono ?_
    rintro e w2 ⟨rfl, v2, h2⟩
    go_wp2_with fail
    go_end0
    exact ⟨rfl, v2, by simpa [cat] using h2⟩
set_option maxRecDepth 100000 in
set_option maxHeartbeats 6400000 in
theorem within_any (w0 : World) (lv : Value) (L : List Nd) (hN : Nodes w0 lv L) (ks : Tr.F) (hA : AllP w0 lv L ks) (hc : ks.cnt ≤ 100000) {b : Nat} {o : Option Nat} {bs : List Value} {w1 : World} {l : List UInt8} {i : Nat} {v : Value} {w : World} (h : PS w0 lv b o bs w1 l i (.pointer (some ⟨b, 0, none⟩)) v w)
    (hR : ∃ R, L.drop i = ks.flat ++ R) (hl : bs.length + l.length + (commas 0 ks).length ≤ 140737488355328) :
    Calls Tryz.prog 73 #[.pointer (some ⟨b, 0, none⟩), .int .i64 ks.cnt] w (Goes w0 lv b o bs w1 (l ++ commas 0 ks) (i + ks.flat.length)) := by
  have hb1 : Below w.heap.size w (w.alloc (.cells #[.pointer (some ⟨b, 0, none⟩)] 68)) := (Below.refl _ _).alloc (Nat.le_refl _) _
  have hpb : (w.alloc (.cells #[.pointer (some ⟨b, 0, none⟩)] 68)).cell? ⟨w.heap.size, 0, none⟩ = some (.pointer (some ⟨b, 0, none⟩)) := by rw [Lib.cell_of_heap (heap_alloc_new w _)]; rfl
  have HPB := Lib.hid hpb
  have HP := Lib.hid h
  have HP1 := Lib.hid (h.later hb1)
  have HP0 := Lib.hid (h.later hb1).rebase
  have hne : w.heap.size ≠ b := by have := h.blt; omega
  have hno : v.ownBlock ≠ some w.heap.size := fun e => by have := h.vlt e; omega
  have HA := Lib.hid hA
  have HRR := Lib.hid hR
  clear h hA hR hb1 hpb
  go_enter Tryz.func73, Tryz.ntmps73
  go_wp2_with fail
  generalize hwb : w.alloc (.cells #[.pointer (some ⟨b, 0, none⟩)] 68) = wb at *
  go_loopw [8] (fun iv wr => ∃ (k j : Nat) (r : Tr.F) (v' : Value) (m : List UInt8), k + r.cnt = ks.cnt ∧ iv = .int .i64 k ∧ Hid (m ++ commas k r = commas 0 ks) ∧ Hid (i + ks.flat.length = j + r.flat.length) ∧ Hid (PS w0 lv b v.ownBlock (bs ++ Lib.byteCells l) wb m j (.pointer (some ⟨b, 0, none⟩)) v' wr) ∧ Hid (AllP w0 lv L r) ∧ Hid (∃ R, L.drop j = r.flat ++ R)) (fun i _ => ks.cnt - (intOf i).toNat)
  case atStart => exact ⟨0, i, ks, v, [], by omega, rfl, Lib.hid rfl, Lib.hid rfl, HP0, HA, HRR⟩
  case round =>
    clear HP0 HA HRR
    obtain ⟨k, j, r, v', m, hk, rfl, HM, HJ, HQ, HA, HRR⟩ := hrel
    have c0 := HQ.out.kept HPB.out hne hno
    cases r with
    | nil =>
      have hk2 : ks.cnt = k := by simpa [Tr.F.cnt] using hk.symm
      rw [hk2]
      go_wp2_with fail
      go_end0
      refine ⟨rfl, v', ?_⟩
      have := HP1.out.join HQ.out
      have h1 := HM.out
      have h2 := HJ.out
      simp only [commas, List.append_nil] at h1
      simp only [Tr.F.flat, List.length_nil, Nat.add_zero] at h2
      rw [h1] at this
      rw [h2]
      exact this
    | cons y ky r =>
      have hk2 : k < ks.cnt := by simp only [Tr.F.cnt] at hk; omega
      have hm := congrArg List.length HM.out
      simp only [commas, List.length_append] at hm
      have HNY := Lib.hid (kid_any w0 lv L hN 0 y ky HA.out.1)
      have HR1 : Hid (∃ R, L.drop j = (y :: ky.flat) ++ R) := Lib.hid (by obtain ⟨R, h⟩ := HRR.out; exact ⟨r.flat ++ R, by rw [h]; simp [Tr.F.flat]⟩)
      have HR2 : Hid (∃ R, L.drop (j + (1 + ky.flat.length)) = r.flat ++ R) := Lib.hid (by obtain ⟨R, h⟩ := HRR.out; exact drop_step (L := L) (i := j) (y := y) (z := y) (ky := ky) (kz := ky) (r := r) ⟨R, by rw [h]; simp [Tr.F.flat]⟩)
      go_wp2_with fail
      refine (between_any k w.heap.size HQ.out c0 (by simp [Lib.byteCells]; omega)).mono ?_
      rintro e w2 ⟨rfl, v2, h2⟩
      have HQ2 := Lib.hid h2
      have c2 := h2.kept HPB.out hne hno
      clear h2 HQ c0
      go_wp2_with fail
      refine (HNY.out _ _ _ _ _ _ _ _ _ HQ2.out HR1.out (by rw [kidT_0]; simp [Lib.byteCells]; omega)).mono ?_
      rintro e w3 ⟨rfl, v3, h3⟩
      have HQ3 := Lib.hid h3
      clear h3 HQ2
      rw [kidT_0] at HQ3
      go_wp2_with fail
      go_roundw
      case rel => exact ⟨k + 1, j + (1 + ky.flat.length), r, v3, _, by simp only [Tr.F.cnt] at hk; omega, by go_num, Lib.hid (by rw [← HM.out]; simp only [commas, List.append_assoc]), Lib.hid (by rw [HJ.out]; simp only [Tr.F.flat, List.length_cons, List.length_append]; omega), HQ3, Lib.hid HA.out.2, HR2⟩
      case measure => simp [intOf]; omega
end Go.Proofs.YtacihffkjadbbaaGreatDoor
