
/- The walk of the document's chapter 25: same. -/
import Derived.Test.YtidholghbjljaaaGreatDoorXl
import Derived.Test.YtidholghbjljaaaGreatDoorHa
import Derived.Test.YtidholghbjljaaaGreatDoorWx
namespace Go.Proofs.YtidholghbjljaaaGreatDoor
set_option linter.unusedSimpArgs false
set_option linter.unusedVariables false
open Go.RowKit Go.Maps Culp Culp.Er
def SameRes (A B : List Md) (w : World) (e : Ending) (w' : World) : Prop := (∃ z : Bool, e = .returned (.bool z) ∧ (z = true ↔ sameAll A B)) ∧ Below w.heap.size w w'
theorem SameRes.no {A B : List Md} {w w' : World} (h : ¬ sameAll A B) (hb : Below w.heap.size w w') : SameRes A B w (.returned (.bool false)) w' := ⟨⟨false, rfl, by simp only [Bool.false_eq_true, false_iff]; exact h⟩, hb⟩
theorem bool_no {s t : Bool} (h : ¬ s = t) : (s == t) = false := beq_eq_false_iff_ne.2 h
theorem bool_yes {s t : Bool} (h : s = t) : (s == t) = true := beq_iff_eq.2 h
theorem str_no {s t : ByteArray} (h : ¬ s = t) : (s.toList == t.toList) = false := beq_eq_false_iff_ne.2 (fun e => h ((toL_inj _ _).1 e))
theorem str_yes {s t : ByteArray} (h : s = t) : (s.toList == t.toList) = true := beq_iff_eq.2 ((toL_inj _ _).2 h)
theorem int_no {s t : Int} (h : ¬ s = t) : (s != t) = true := by rw [bne, beq_eq_false_iff_ne.2 h]; rfl
theorem int_yes {s t : Int} (h : s = t) : (s != t) = false := by rw [h]; simp
theorem nat_no {s t : Nat} (h : ¬ s = t) : ((s : Int) != (t : Int)) = true := int_no (fun e => h (Int.ofNat.inj e))
theorem nat_yes {s t : Nat} (h : s = t) : ((s : Int) != (t : Int)) = false := int_yes (by rw [h])
set_option maxRecDepth 100000 in
set_option maxHeartbeats 12800000 in
theorem rSame_any (A B : List Md) (u v : Value) (w : World) (ha : Mods w u A) (hb : Mods w v B) (hla : Lens A) (hlb : Lens B) : Calls Tryz.prog 77 #[u, v] w (SameRes A B w) := by
  have HA := Lib.hid ha
  have HBB := Lib.hid hb
  have HLA := Lib.hid hla
  have HLB := Lib.hid hlb
  have ll1 := hla.len
  have ll2 := hlb.len
  obtain ⟨Aa, ca, rfl⟩ := ha.form
  obtain ⟨Ab, cb, rfl⟩ := hb.form
  clear ha hb hla hlb
  by_cases hl : A.length = B.length
  rotate_left
  · have el := nat_no hl
    have HR : Hid (SameRes A B w (.returned (.bool false)) w) := Lib.hid (SameRes.no (fun h => hl h.1) (Below.refl _ _))
    clear hl
    go_enter Tryz.func77, Tryz.ntmps77
    go_wp2_with fail
    go_ret
    exact HR.out
  have el := nat_yes hl
  have HL := Lib.hid hl
  clear hl
  go_enter Tryz.func77, Tryz.ntmps77
  go_wp2_with fail
  clear el
  go_loopw [5] (fun i wr => ∃ m : Nat, m ≤ A.length ∧ i = .int .i64 m ∧ Hid (∀ (i : Nat) a b, i < m → A[i]? = some a → B[i]? = some b → sameM a b) ∧ Hid (Below w.heap.size w wr)) (fun i _ => A.length - (intOf i).toNat)
  case atStart => exact ⟨0, Nat.zero_le _, rfl, Lib.hid (fun i x y h => by omega), Lib.hid (Below.refl _ _)⟩
  case round =>
    obtain ⟨m, hm, rfl, HK, HB⟩ := hrel
    by_cases hlt : m < A.length
    case neg =>
      have HR : Hid (sameAll A B) := Lib.hid ⟨HL.out, fun i x y h1 h2 => HK.out i x y (by have := (List.getElem?_eq_some_iff.1 h1).1; omega) h1 h2⟩
      clear HK
      go_wp2_with fail
      go_ret
      exact ⟨⟨true, rfl, by simp only [true_iff]; exact HR.out⟩, HB.out⟩
    have hltu : m < B.length := by have := HL.out; omega
    obtain ⟨b1, o1, iv, dv, rfl, ⟨n0, n1, n2, -, -⟩, hi1, hd1⟩ := HA.out.at_ hlt
    obtain ⟨b2, o2, jv, ev, rfl, ⟨q0, q1, q2, -, -⟩, hi2, hd2⟩ := HBB.out.at_ hltu
    have hx : A[m]? = some A[m] := List.getElem?_eq_getElem hlt
    have hy : B[m]? = some B[m] := List.getElem?_eq_getElem hltu
    have il1 := HLA.out.imps _ (List.mem_of_getElem? hx)
    have il2 := HLB.out.imps _ (List.mem_of_getElem? hy)
    have dl1 := HLA.out.defs _ (List.mem_of_getElem? hx)
    have dl2 := HLB.out.defs _ (List.mem_of_getElem? hy)
    have HT1 := Lib.hid (HLA.out.trees _ (List.mem_of_getElem? hx))
    have HT2 := Lib.hid (HLB.out.trees _ (List.mem_of_getElem? hy))
    have HX := Lib.hid hx
    have HY := Lib.hid hy
    generalize A[m] = a at *
    generalize B[m] = b at *
    obtain ⟨Ai, ci, rfl⟩ := hi1.form
    obtain ⟨Ad, cd, rfl⟩ := hd1.form
    obtain ⟨Aj, cj, rfl⟩ := hi2.form
    obtain ⟨Ae, ce, rfl⟩ := hd2.form
    have HI1 := Lib.hid hi1
    have HI2 := Lib.hid hi2
    have HD1 := Lib.hid hd1
    have HD2 := Lib.hid hd2
    have N1 := Lib.hid n1
    have N2 := Lib.hid n2
    have Q1 := Lib.hid q1
    have Q2 := Lib.hid q2
    have HBD := Lib.hid HB.out.drew
    have k0 := cell_later HB.out n0
    have k1 := cell_later HB.out n1
    have k2 := cell_later HB.out n2
    have r0 := cell_later HB.out q0
    have r1 := cell_later HB.out q1
    have r2 := cell_later HB.out q2
    clear hx hy hi1 hi2 hd1 hd2 n0 n1 n2 q0 q1 q2 HB
    by_cases hn : a.name = b.name
    rotate_left
    · have ehn := str_no hn
      have HR : Hid (SameRes A B w (.returned (.bool false)) wr.drew) := Lib.hid (SameRes.no (fun h => (fun h => hn h.name) (h.2 m a b HX.out HY.out)) HBD.out)
      clear hn HK
      go_wp2_with fail
      refine wp_region_plan (S := fun w' => (w'.cell? ⟨b1, o1 + m * 5, none⟩ = some (.string a.name) ∧ w'.cell? ⟨b1, o1 + m * 5 + 1, none⟩ = some (.slice Ai a.imps.length ci) ∧ w'.cell? ⟨b1, o1 + m * 5 + 2, none⟩ = some (.slice Ad a.defs.length cd)) ∧
          (w'.cell? ⟨b2, o2 + m * 5, none⟩ = some (.string b.name) ∧ w'.cell? ⟨b2, o2 + m * 5 + 1, none⟩ = some (.slice Aj b.imps.length cj) ∧ w'.cell? ⟨b2, o2 + m * 5 + 2, none⟩ = some (.slice Ae b.defs.length ce)))
        [(0, true), (1, true), (2, true), (3, true), (4, true), (5, true), (6, true), (7, true), (8, true), (9, true), (10, true), (11, true), (12, true), (13, true), (14, true), (15, true), (16, true), (17, true), (18, true), (19, true), (20, true), (21, true), (22, true), (23, true), (24, true), (25, true), (26, true), (27, true), (28, true), (29, true), (30, true), (31, true), (32, true), (33, true), (34, true), (35, true), (36, true), (37, true), (38, true), (39, true), (40, true)] (by kernel_rfl) (by kernel_rfl) (by kernel_rfl) (fun _ _ _ _ _ h => h) ⟨⟨k0, k1, k2⟩, ⟨r0, r1, r2⟩⟩ ?_
      clear k0 k1 k2 r0 r1 r2
      intro HP
      repeat (first | (apply wpPlan_look; rfl; rfl; (intro wq hq; (try dsimp only at hq); go_split_ands; go_simp; (try rw [if_neg (by omega)]); (try rw [if_pos (by omega)]); try with_reducible rfl); simp only [Act.put, List.setIfInBounds_toArray, List.set_cons_zero, List.set_cons_succ]) | (apply wpPlan_skip; rfl; rfl; simp only [Act.put, List.setIfInBounds_toArray, List.set_cons_zero, List.set_cons_succ]) | (apply wpPlan_pass; rfl; rfl; assumption; simp only [Act.put, List.setIfInBounds_toArray, List.set_cons_zero, List.set_cons_succ]))
      apply wpPlan_done
      clear HP
      go_wp2_with fail
      go_ret
      exact HR.out
    have ehn := str_yes hn
    have Hhn := Lib.hid hn
    clear hn
    by_cases hi : a.imps.length = b.imps.length
    rotate_left
    · have ehi := nat_no hi
      have HR : Hid (SameRes A B w (.returned (.bool false)) wr.drew) := Lib.hid (SameRes.no (fun h => (fun h => hi h.iLen) (h.2 m a b HX.out HY.out)) HBD.out)
      clear hi HK
      go_wp2_with fail
      refine wp_region_plan (S := fun w' => (w'.cell? ⟨b1, o1 + m * 5, none⟩ = some (.string a.name) ∧ w'.cell? ⟨b1, o1 + m * 5 + 1, none⟩ = some (.slice Ai a.imps.length ci) ∧ w'.cell? ⟨b1, o1 + m * 5 + 2, none⟩ = some (.slice Ad a.defs.length cd)) ∧
          (w'.cell? ⟨b2, o2 + m * 5, none⟩ = some (.string b.name) ∧ w'.cell? ⟨b2, o2 + m * 5 + 1, none⟩ = some (.slice Aj b.imps.length cj) ∧ w'.cell? ⟨b2, o2 + m * 5 + 2, none⟩ = some (.slice Ae b.defs.length ce)))
        [(0, true), (1, true), (2, true), (3, true), (4, true), (5, true), (6, true), (7, true), (8, true), (9, true), (10, true), (11, true), (12, true), (13, true), (14, true), (15, true), (16, true), (17, true), (18, true), (19, true), (20, true), (21, true), (22, true), (23, true), (24, true), (25, true), (26, true), (27, true), (28, true), (29, true), (30, true), (31, true), (32, true), (33, true), (34, true), (35, true), (36, true), (37, true), (38, true), (39, true), (40, true)] (by kernel_rfl) (by kernel_rfl) (by kernel_rfl) (fun _ _ _ _ _ h => h) ⟨⟨k0, k1, k2⟩, ⟨r0, r1, r2⟩⟩ ?_
      clear k0 k1 k2 r0 r1 r2
      intro HP
      repeat (first | (apply wpPlan_look; rfl; rfl; (intro wq hq; (try dsimp only at hq); go_split_ands; go_simp; (try rw [if_neg (by omega)]); (try rw [if_pos (by omega)]); try with_reducible rfl); simp only [Act.put, List.setIfInBounds_toArray, List.set_cons_zero, List.set_cons_succ]) | (apply wpPlan_skip; rfl; rfl; simp only [Act.put, List.setIfInBounds_toArray, List.set_cons_zero, List.set_cons_succ]) | (apply wpPlan_pass; rfl; rfl; assumption; simp only [Act.put, List.setIfInBounds_toArray, List.set_cons_zero, List.set_cons_succ]))
      apply wpPlan_done
      clear HP
      go_wp2_with fail
      go_ret
      exact HR.out
    have ehi := nat_yes hi
    have Hhi := Lib.hid hi
    clear hi
    by_cases hd : a.defs.length = b.defs.length
    rotate_left
    · have ehd := nat_no hd
      have HR : Hid (SameRes A B w (.returned (.bool false)) wr.drew) := Lib.hid (SameRes.no (fun h => (fun h => hd h.dLen) (h.2 m a b HX.out HY.out)) HBD.out)
      clear hd HK
      go_wp2_with fail
      refine wp_region_plan (S := fun w' => (w'.cell? ⟨b1, o1 + m * 5, none⟩ = some (.string a.name) ∧ w'.cell? ⟨b1, o1 + m * 5 + 1, none⟩ = some (.slice Ai a.imps.length ci) ∧ w'.cell? ⟨b1, o1 + m * 5 + 2, none⟩ = some (.slice Ad a.defs.length cd)) ∧
          (w'.cell? ⟨b2, o2 + m * 5, none⟩ = some (.string b.name) ∧ w'.cell? ⟨b2, o2 + m * 5 + 1, none⟩ = some (.slice Aj b.imps.length cj) ∧ w'.cell? ⟨b2, o2 + m * 5 + 2, none⟩ = some (.slice Ae b.defs.length ce)))
        [(0, true), (1, true), (2, true), (3, true), (4, true), (5, true), (6, true), (7, true), (8, true), (9, true), (10, true), (11, true), (12, true), (13, true), (14, true), (15, true), (16, true), (17, true), (18, true), (19, true), (20, true), (21, true), (22, true), (23, true), (24, true), (25, true), (26, true), (27, true), (28, true), (29, true), (30, true), (31, true), (32, true), (33, true), (34, true), (35, true), (36, true), (37, true), (38, true), (39, true), (40, true)] (by kernel_rfl) (by kernel_rfl) (by kernel_rfl) (fun _ _ _ _ _ h => h) ⟨⟨k0, k1, k2⟩, ⟨r0, r1, r2⟩⟩ ?_
      clear k0 k1 k2 r0 r1 r2
      intro HP
      repeat (first | (apply wpPlan_look; rfl; rfl; (intro wq hq; (try dsimp only at hq); go_split_ands; go_simp; (try rw [if_neg (by omega)]); (try rw [if_pos (by omega)]); try with_reducible rfl); simp only [Act.put, List.setIfInBounds_toArray, List.set_cons_zero, List.set_cons_succ]) | (apply wpPlan_skip; rfl; rfl; simp only [Act.put, List.setIfInBounds_toArray, List.set_cons_zero, List.set_cons_succ]) | (apply wpPlan_pass; rfl; rfl; assumption; simp only [Act.put, List.setIfInBounds_toArray, List.set_cons_zero, List.set_cons_succ]))
      apply wpPlan_done
      clear HP
      go_wp2_with fail
      go_ret
      exact HR.out
    have ehd := nat_yes hd
    have Hhd := Lib.hid hd
    clear hd
    go_wp2_with fail
    refine wp_region_plan (S := fun w' => (w'.cell? ⟨b1, o1 + m * 5, none⟩ = some (.string a.name) ∧ w'.cell? ⟨b1, o1 + m * 5 + 1, none⟩ = some (.slice Ai a.imps.length ci) ∧ w'.cell? ⟨b1, o1 + m * 5 + 2, none⟩ = some (.slice Ad a.defs.length cd)) ∧
        (w'.cell? ⟨b2, o2 + m * 5, none⟩ = some (.string b.name) ∧ w'.cell? ⟨b2, o2 + m * 5 + 1, none⟩ = some (.slice Aj b.imps.length cj) ∧ w'.cell? ⟨b2, o2 + m * 5 + 2, none⟩ = some (.slice Ae b.defs.length ce)))
      [(0, true), (1, true), (2, true), (3, true), (4, true), (5, true), (6, true), (7, true), (8, true), (9, true), (10, true), (11, true), (12, true), (13, true), (14, true), (15, true), (16, true), (17, true), (18, true), (19, true), (20, true), (21, true), (22, true), (23, true), (24, true), (25, true), (26, true), (27, true), (28, true), (29, true), (30, true), (31, true), (32, true), (33, true), (34, true), (35, true), (36, true), (37, true), (38, true), (39, true), (40, true)] (by kernel_rfl) (by kernel_rfl) (by kernel_rfl) (fun _ _ _ _ _ h => h) ⟨⟨k0, k1, k2⟩, ⟨r0, r1, r2⟩⟩ ?_
    clear k0 k1 k2 r0 r1 r2
    intro HP
    repeat (first | (apply wpPlan_look; rfl; rfl; (intro wq hq; (try dsimp only at hq); go_split_ands; go_simp; (try rw [if_neg (by omega)]); (try rw [if_pos (by omega)]); try with_reducible rfl); simp only [Act.put, List.setIfInBounds_toArray, List.set_cons_zero, List.set_cons_succ]) | (apply wpPlan_skip; rfl; rfl; simp only [Act.put, List.setIfInBounds_toArray, List.set_cons_zero, List.set_cons_succ]) | (apply wpPlan_pass; rfl; rfl; assumption; simp only [Act.put, List.setIfInBounds_toArray, List.set_cons_zero, List.set_cons_succ]))
    apply wpPlan_done
    clear HP
    clear ehn ehi ehd
    have t1 := cell_later HBD.out N1.out
    go_wp2_with fail
    clear t1
    obtain ⟨w2, hw2⟩ : ∃ w2, w2 = wr.drew := ⟨_, rfl⟩
    rw [← hw2] at HBD ⊢
    clear hw2
    go_loopw [6] (fun i wr => ∃ k : Nat, k ≤ a.imps.length ∧ i = .int .i64 k ∧ Hid (∀ (i : Nat) x y, i < k → a.imps[i]? = some x → b.imps[i]? = some y → x.src = y.src ∧ x.name = y.name) ∧ Hid (Below w.heap.size w wr)) (fun i _ => a.imps.length - (intOf i).toNat)
    case atStart => exact ⟨0, Nat.zero_le _, rfl, Lib.hid (fun i x y h => by omega), HBD⟩
    case round =>
      clear HBD
      obtain ⟨k, hk, rfl, HKI, HB⟩ := hrel
      have t1 := cell_later HB.out N1.out
      have s1 := cell_later HB.out Q1.out
      by_cases hltk : k < a.imps.length
      · have hltl : k < b.imps.length := by have := Hhi.out; omega
        obtain ⟨b3, o3, rfl, n0, n1, -, -, -⟩ := HI1.out.at_ hltk
        obtain ⟨b4, o4, rfl, q0, q1, -, -, -⟩ := HI2.out.at_ hltl
        have hx : a.imps[k]? = some a.imps[k] := List.getElem?_eq_getElem hltk
        have hy : b.imps[k]? = some b.imps[k] := List.getElem?_eq_getElem hltl
        have HXI := Lib.hid hx
        have HYI := Lib.hid hy
        generalize a.imps[k] = x at *
        generalize b.imps[k] = y at *
        replace n0 := cell_later HB.out n0
        replace n1 := cell_later HB.out n1
        replace q0 := cell_later HB.out q0
        replace q1 := cell_later HB.out q1
        have HBD := Lib.hid HB.out.drew
        clear hx hy HB
        by_cases h1 : x.src = y.src
        rotate_left
        · have eh1 := str_no h1
          have HR : Hid (SameRes A B w (.returned (.bool false)) wr.drew) := Lib.hid (SameRes.no (fun h => (fun h => h1 h.1) ((h.2 m a b HX.out HY.out).imps k x y HXI.out HYI.out)) HBD.out)
          clear h1 HK HKI
          go_wp2_with fail
          refine wp_region_plan (S := fun w' => (w'.cell? ⟨b1, o1 + m * 5 + 1, none⟩ = some (.slice (some ⟨b3, o3, none⟩) a.imps.length ci) ∧ w'.cell? ⟨b2, o2 + m * 5 + 1, none⟩ = some (.slice (some ⟨b4, o4, none⟩) b.imps.length cj)) ∧
              (w'.cell? ⟨b3, o3 + k * 5, none⟩ = some (.string x.src) ∧ w'.cell? ⟨b3, o3 + k * 5 + 1, none⟩ = some (.string x.name)) ∧ (w'.cell? ⟨b4, o4 + k * 5, none⟩ = some (.string y.src) ∧ w'.cell? ⟨b4, o4 + k * 5 + 1, none⟩ = some (.string y.name)))
            [(0, true), (1, true), (2, true), (3, true), (4, true), (5, true), (6, true), (7, true), (8, true), (9, true), (10, true), (11, true), (12, true), (13, true), (14, true), (15, true), (16, true), (17, true), (18, true), (19, true), (20, true), (21, true), (22, true), (23, true), (24, true), (25, true), (26, true), (27, true), (28, true), (29, true), (30, true), (31, true), (32, true), (33, true), (34, true), (35, true), (36, true), (37, true), (38, true), (39, true)] (by kernel_rfl) (by kernel_rfl) (by kernel_rfl) (fun _ _ _ _ _ h => h) ⟨⟨t1, s1⟩, ⟨n0, n1⟩, ⟨q0, q1⟩⟩ ?_
          clear t1 s1 n0 n1 q0 q1
          intro HP
          repeat (first | (apply wpPlan_look; rfl; rfl; (intro wq hq; (try dsimp only at hq); go_split_ands; go_simp; (try rw [if_neg (by omega)]); (try rw [if_pos (by omega)]); try with_reducible rfl); simp only [Act.put, List.setIfInBounds_toArray, List.set_cons_zero, List.set_cons_succ]) | (apply wpPlan_skip; rfl; rfl; simp only [Act.put, List.setIfInBounds_toArray, List.set_cons_zero, List.set_cons_succ]) | (apply wpPlan_pass; rfl; rfl; assumption; simp only [Act.put, List.setIfInBounds_toArray, List.set_cons_zero, List.set_cons_succ]))
          apply wpPlan_done
          clear HP
          go_wp2_with fail
          go_ret
          exact HR.out
        have eh1 := str_yes h1
        have Hh1 := Lib.hid h1
        clear h1
        by_cases h2 : x.name = y.name
        rotate_left
        · have eh2 := str_no h2
          have HR : Hid (SameRes A B w (.returned (.bool false)) wr.drew) := Lib.hid (SameRes.no (fun h => (fun h => h2 h.2) ((h.2 m a b HX.out HY.out).imps k x y HXI.out HYI.out)) HBD.out)
          clear h2 HK HKI
          go_wp2_with fail
          refine wp_region_plan (S := fun w' => (w'.cell? ⟨b1, o1 + m * 5 + 1, none⟩ = some (.slice (some ⟨b3, o3, none⟩) a.imps.length ci) ∧ w'.cell? ⟨b2, o2 + m * 5 + 1, none⟩ = some (.slice (some ⟨b4, o4, none⟩) b.imps.length cj)) ∧
              (w'.cell? ⟨b3, o3 + k * 5, none⟩ = some (.string x.src) ∧ w'.cell? ⟨b3, o3 + k * 5 + 1, none⟩ = some (.string x.name)) ∧ (w'.cell? ⟨b4, o4 + k * 5, none⟩ = some (.string y.src) ∧ w'.cell? ⟨b4, o4 + k * 5 + 1, none⟩ = some (.string y.name)))
            [(0, true), (1, true), (2, true), (3, true), (4, true), (5, true), (6, true), (7, true), (8, true), (9, true), (10, true), (11, true), (12, true), (13, true), (14, true), (15, true), (16, true), (17, true), (18, true), (19, true), (20, true), (21, true), (22, true), (23, true), (24, true), (25, true), (26, true), (27, true), (28, true), (29, true), (30, true), (31, true), (32, true), (33, true), (34, true), (35, true), (36, true), (37, true), (38, true), (39, true)] (by kernel_rfl) (by kernel_rfl) (by kernel_rfl) (fun _ _ _ _ _ h => h) ⟨⟨t1, s1⟩, ⟨n0, n1⟩, ⟨q0, q1⟩⟩ ?_
          clear t1 s1 n0 n1 q0 q1
          intro HP
          repeat (first | (apply wpPlan_look; rfl; rfl; (intro wq hq; (try dsimp only at hq); go_split_ands; go_simp; (try rw [if_neg (by omega)]); (try rw [if_pos (by omega)]); try with_reducible rfl); simp only [Act.put, List.setIfInBounds_toArray, List.set_cons_zero, List.set_cons_succ]) | (apply wpPlan_skip; rfl; rfl; simp only [Act.put, List.setIfInBounds_toArray, List.set_cons_zero, List.set_cons_succ]) | (apply wpPlan_pass; rfl; rfl; assumption; simp only [Act.put, List.setIfInBounds_toArray, List.set_cons_zero, List.set_cons_succ]))
          apply wpPlan_done
          clear HP
          go_wp2_with fail
          go_ret
          exact HR.out
        have eh2 := str_yes h2
        have Hh2 := Lib.hid h2
        clear h2
        have HKI2 : Hid (∀ (i : Nat) x y, i < k + 1 → a.imps[i]? = some x → b.imps[i]? = some y → x.src = y.src ∧ x.name = y.name) := Lib.hid (fun i x' y' hi h1 h2 => by
          rcases Nat.lt_or_ge i k with h | h
          · exact HKI.out i x' y' h h1 h2
          · obtain rfl : i = k := by omega
            rw [HXI.out] at h1
            rw [HYI.out] at h2
            obtain rfl := Option.some.inj h1
            obtain rfl := Option.some.inj h2
            exact ⟨Hh1.out, Hh2.out⟩)
        clear HKI Hh1 Hh2
        go_wp2_with fail
        refine wp_region_plan (S := fun w' => (w'.cell? ⟨b1, o1 + m * 5 + 1, none⟩ = some (.slice (some ⟨b3, o3, none⟩) a.imps.length ci) ∧ w'.cell? ⟨b2, o2 + m * 5 + 1, none⟩ = some (.slice (some ⟨b4, o4, none⟩) b.imps.length cj)) ∧
            (w'.cell? ⟨b3, o3 + k * 5, none⟩ = some (.string x.src) ∧ w'.cell? ⟨b3, o3 + k * 5 + 1, none⟩ = some (.string x.name)) ∧ (w'.cell? ⟨b4, o4 + k * 5, none⟩ = some (.string y.src) ∧ w'.cell? ⟨b4, o4 + k * 5 + 1, none⟩ = some (.string y.name)))
          [(0, true), (1, true), (2, true), (3, true), (4, true), (5, true), (6, true), (7, true), (8, true), (9, true), (10, true), (11, true), (12, true), (13, true), (14, true), (15, true), (16, true), (17, true), (18, true), (19, true), (20, true), (21, true), (22, true), (23, true), (24, true), (25, true), (26, true), (27, true), (28, true), (29, true), (30, true), (31, true), (32, true), (33, true), (34, true), (35, true), (36, true), (37, true), (38, true), (39, true)] (by kernel_rfl) (by kernel_rfl) (by kernel_rfl) (fun _ _ _ _ _ h => h) ⟨⟨t1, s1⟩, ⟨n0, n1⟩, ⟨q0, q1⟩⟩ ?_
        clear t1 s1 n0 n1 q0 q1
        intro HP
        repeat (first | (apply wpPlan_look; rfl; rfl; (intro wq hq; (try dsimp only at hq); go_split_ands; go_simp; (try rw [if_neg (by omega)]); (try rw [if_pos (by omega)]); try with_reducible rfl); simp only [Act.put, List.setIfInBounds_toArray, List.set_cons_zero, List.set_cons_succ]) | (apply wpPlan_skip; rfl; rfl; simp only [Act.put, List.setIfInBounds_toArray, List.set_cons_zero, List.set_cons_succ]) | (apply wpPlan_pass; rfl; rfl; assumption; simp only [Act.put, List.setIfInBounds_toArray, List.set_cons_zero, List.set_cons_succ]))
        apply wpPlan_done
        clear HP
        go_wp2_with fail
        go_roundw
        case rel => exact ⟨k + 1, by omega, by go_num, HKI2, HBD⟩
        case measure => simp [intOf]; omega
      · have HKI1 : Hid (∀ (i : Nat) x y, a.imps[i]? = some x → b.imps[i]? = some y → x.src = y.src ∧ x.name = y.name) := Lib.hid (fun i x y h1 h2 => HKI.out i x y (by have := (List.getElem?_eq_some_iff.1 h1).1; omega) h1 h2)
        have t2 := cell_later HB.out N2.out
        clear HKI s1
        have HBW := HB
        clear HB
        go_wp2_with fail
        clear t1 t2
        obtain ⟨w3, hw3⟩ : ∃ w3, w3 = wr := ⟨_, rfl⟩
        rw [← hw3] at HBW ⊢
        clear hw3
        go_loopw [7] (fun i wr => ∃ k : Nat, k ≤ a.defs.length ∧ i = .int .i64 k ∧ Hid (∀ (i : Nat) x y, i < k → a.defs[i]? = some x → b.defs[i]? = some y → sameD x y) ∧ Hid (Below w.heap.size w wr)) (fun i _ => a.defs.length - (intOf i).toNat)
        case atStart => exact ⟨0, Nat.zero_le _, rfl, Lib.hid (fun i x y h => by omega), HBW⟩
        case round =>
          clear HBW
          obtain ⟨k, hk, rfl, HKD, HB⟩ := hrel
          have t2 := cell_later HB.out N2.out
          by_cases hltk : k < a.defs.length
          case neg =>
            have HK2 : Hid (∀ (i : Nat) a b, i < m + 1 → A[i]? = some a → B[i]? = some b → sameM a b) := Lib.hid (fun i a' b' hi h1 h2 => by
              rcases Nat.lt_or_ge i m with h | h
              · exact HK.out i a' b' h h1 h2
              · obtain rfl : i = m := by omega
                rw [HX.out] at h1
                rw [HY.out] at h2
                obtain rfl := Option.some.inj h1
                obtain rfl := Option.some.inj h2
                exact ⟨Hhn.out, Hhi.out, Hhd.out, HKI1.out, fun i x y h1 h2 => HKD.out i x y (by have := (List.getElem?_eq_some_iff.1 h1).1; omega) h1 h2⟩)
            clear HK HKD HKI1
            go_wp2_with fail
            go_roundw
            case rel => exact ⟨m + 1, by omega, by go_num, HK2, HB⟩
            case measure => simp [intOf]; omega
          have s2 := cell_later HB.out Q2.out
          have hltl : k < b.defs.length := by have := Hhd.out; omega
          obtain ⟨b3, o3, tv, rfl, ⟨n0, n1, n2, n3, n4, n5⟩, ht1⟩ := HD1.out.at_ hltk
          obtain ⟨b4, o4, uv, rfl, ⟨q0, q1, q2, q3, q4, q5⟩, ht2⟩ := HD2.out.at_ hltl
          have hx : a.defs[k]? = some a.defs[k] := List.getElem?_eq_getElem hltk
          have hy : b.defs[k]? = some b.defs[k] := List.getElem?_eq_getElem hltl
          have tl1 := HT1.out _ (List.mem_of_getElem? hx)
          have tl2 := HT2.out _ (List.mem_of_getElem? hy)
          have HXD := Lib.hid hx
          have HYD := Lib.hid hy
          generalize a.defs[k] = x at *
          generalize b.defs[k] = y at *
          have HTX := Lib.hid ht1
          have HTY := Lib.hid ht2
          obtain ⟨At, ct, rfl⟩ := ht1.form
          obtain ⟨Au, cu, rfl⟩ := ht2.form
          replace n0 := cell_later HB.out n0
          replace n1 := cell_later HB.out n1
          replace n2 := cell_later HB.out n2
          replace n3 := cell_later HB.out n3
          replace n4 := cell_later HB.out n4
          replace n5 := cell_later HB.out n5
          replace q0 := cell_later HB.out q0
          replace q1 := cell_later HB.out q1
          replace q2 := cell_later HB.out q2
          replace q3 := cell_later HB.out q3
          replace q4 := cell_later HB.out q4
          replace q5 := cell_later HB.out q5
          obtain ⟨X, hX⟩ : ∃ X : Obj, X = .cells #[.string x.name, .bool x.out, .string x.t, .slice At x.tree.length ct, .int .i64 x.line, .int .i64 x.col] 84 := ⟨_, rfl⟩
          have hb2 : Below wr.heap.size wr (wr.alloc (.cells #[.string x.name, .bool x.out, .string x.t, .slice At x.tree.length ct, .int .i64 x.line, .int .i64 x.col] 84)) := (Below.refl _ _).alloc (Nat.le_refl _) _
          have hb3 := below_two wr (.cells #[.string x.name, .bool x.out, .string x.t, .slice At x.tree.length ct, .int .i64 x.line, .int .i64 x.col] 84) (.cells #[.string y.name, .bool y.out, .string y.t, .slice Au y.tree.length cu, .int .i64 y.line, .int .i64 y.col] 84)
          have HB3 := Lib.hid (below_later hb3 HB.out)
          have HX3 : Hid (Blk wr.heap.size #[.string x.name, .bool x.out, .string x.t, .slice At x.tree.length ct, .int .i64 x.line, .int .i64 x.col] 84 ((wr.alloc (.cells #[.string x.name, .bool x.out, .string x.t, .slice At x.tree.length ct, .int .i64 x.line, .int .i64 x.col] 84)).alloc (.cells #[.string y.name, .bool y.out, .string y.t, .slice Au y.tree.length cu, .int .i64 y.line, .int .i64 y.col] 84))) := Lib.hid ((Blk.alloc _ _ _).later ((Below.refl _ _).alloc (Nat.le_refl _) _))
          have HY3 : Hid (Blk (wr.heap.size + 1) #[.string y.name, .bool y.out, .string y.t, .slice Au y.tree.length cu, .int .i64 y.line, .int .i64 y.col] 84 ((wr.alloc (.cells #[.string x.name, .bool x.out, .string x.t, .slice At x.tree.length ct, .int .i64 x.line, .int .i64 x.col] 84)).alloc (.cells #[.string y.name, .bool y.out, .string y.t, .slice Au y.tree.length cu, .int .i64 y.line, .int .i64 y.col] 84))) := Lib.hid (Blk.alloc2 _ _ _ _)
          have v2 := cell_later hb2 s2
          have v3 := cell_later hb2 q0
          have v4 := cell_later hb2 q1
          have v5 := cell_later hb2 q2
          have v6 := cell_later hb2 q3
          have v7 := cell_later hb2 q4
          have v8 := cell_later hb2 q5
          clear hX X hb2 hb3 HB hx hy ht1 ht2 s2 q0 q1 q2 q3 q4 q5
          by_cases h1 : x.name = y.name
          rotate_left
          · have eh1 := str_no h1
            have HR := Lib.hid (SameRes.no (fun h : sameAll A B => (fun h => h1 h.name) ((h.2 m a b HX.out HY.out).defs k x y HXD.out HYD.out)) HB3.out)
            clear h1 HK HKD HX3 HY3
            go_wp2_with fail
            go_ret
            exact HR.out
          have eh1 := str_yes h1
          have Hh1 := Lib.hid h1
          clear h1
          by_cases h2 : x.out = y.out
          rotate_left
          · have eh2 := bool_no h2
            have HR := Lib.hid (SameRes.no (fun h : sameAll A B => (fun h => h2 h.out) ((h.2 m a b HX.out HY.out).defs k x y HXD.out HYD.out)) HB3.out)
            clear h2 HK HKD HX3 HY3
            go_wp2_with fail
            go_ret
            exact HR.out
          have eh2 := bool_yes h2
          have Hh2 := Lib.hid h2
          clear h2
          by_cases h3 : x.tree.length = y.tree.length
          rotate_left
          · have eh3 := nat_no h3
            have HR := Lib.hid (SameRes.no (fun h : sameAll A B => (fun h => h3 h.len) ((h.2 m a b HX.out HY.out).defs k x y HXD.out HYD.out)) HB3.out)
            clear h3 HK HKD HX3 HY3
            go_wp2_with fail
            go_ret
            exact HR.out
          have eh3 := nat_yes h3
          have Hh3 := Lib.hid h3
          clear h3
          go_wp2_with fail
          clear n0 n1 n2 n3 n4 n5 v2 v3 v4 v5 v6 v7 v8 t2 eh1 eh2 eh3
          generalize (wr.alloc (.cells #[.string x.name, .bool x.out, .string x.t, .slice At x.tree.length ct, .int .i64 x.line, .int .i64 x.col] 84)).alloc (.cells #[.string y.name, .bool y.out, .string y.t, .slice Au y.tree.length cu, .int .i64 y.line, .int .i64 y.col] 84) = w4 at *
          obtain ⟨gx, hgx⟩ : ∃ gx, gx = wr.heap.size := ⟨_, rfl⟩
          rw [← hgx] at HX3 HY3 ⊢
          clear hgx
          go_loopw [10] (fun i wr => ∃ j : Nat, j ≤ x.tree.length ∧ i = .int .i64 j ∧ Hid (∀ (i : Nat) u v, i < j → x.tree[i]? = some u → y.tree[i]? = some v → sameN u v) ∧ Hid (Below w4.heap.size w4 wr)) (fun i _ => x.tree.length - (intOf i).toNat)
          case atStart => exact ⟨0, Nat.zero_le _, rfl, Lib.hid (fun i x y h => by omega), Lib.hid (Below.refl _ _)⟩
          case round =>
            obtain ⟨j, hj, rfl, HKN, HB⟩ := hrel
            have m0 := HX3.out.later HB.out
            have m1 := HY3.out.later HB.out
            have t3 := m0.cell (i := 3) rfl
            by_cases hltj : j < x.tree.length
            case neg =>
              have HKD2 : Hid (∀ (i : Nat) x y, i < k + 1 → a.defs[i]? = some x → b.defs[i]? = some y → sameD x y) := Lib.hid (fun i x' y' hi q1 q2 => by
                rcases Nat.lt_or_ge i k with h | h
                · exact HKD.out i x' y' h q1 q2
                · obtain rfl : i = k := by omega
                  rw [HXD.out] at q1
                  rw [HYD.out] at q2
                  obtain rfl := Option.some.inj q1
                  obtain rfl := Option.some.inj q2
                  exact ⟨Hh1.out, Hh2.out, Hh3.out, fun i u v q1 q2 => HKN.out i u v (by have := (List.getElem?_eq_some_iff.1 q1).1; omega) q1 q2⟩)
              have HBE := Lib.hid (below_later HB.out HB3.out)
              clear HK HKD HKN m0 m1 HB
              go_wp2_with fail
              go_roundw
              case rel => exact ⟨k + 1, by omega, by go_num, HKD2, HBE⟩
              case measure => simp [intOf]; omega
            have hltl : j < y.tree.length := by have := Hh3.out; omega
            have s3 := m1.cell (i := 3) rfl
            obtain ⟨A2, c2, e2, -, hN⟩ := HTX.out
            simp only [Value.slice.injEq] at e2
            obtain ⟨rfl, -, rfl⟩ := e2
            obtain ⟨b5, o5, rfl, hM⟩ := hN (by omega)
            obtain ⟨B2, d2, e3, -, hN2⟩ := HTY.out
            simp only [Value.slice.injEq] at e3
            obtain ⟨rfl, -, rfl⟩ := e3
            obtain ⟨b6, o6, rfl, hM2⟩ := hN2 (by omega)
            have hx : x.tree[j]? = some x.tree[j] := List.getElem?_eq_getElem hltj
            have hy : y.tree[j]? = some y.tree[j] := List.getElem?_eq_getElem hltl
            obtain ⟨n0, n1, n2, n3, n4, n5, n6, n7⟩ := hM.at_ hx
            obtain ⟨q0, q1, q2, q3, q4, q5, q6, q7⟩ := hM2.at_ hy
            have HXN := Lib.hid hx
            have HYN := Lib.hid hy
            generalize x.tree[j] = p at *
            generalize y.tree[j] = q at *
            have hbw := below_later HB.out HB3.out
            replace n0 := cell_later hbw n0
            replace n1 := cell_later hbw n1
            replace n2 := cell_later hbw n2
            replace n3 := cell_later hbw n3
            replace n4 := cell_later hbw n4
            replace n5 := cell_later hbw n5
            replace n6 := cell_later hbw n6
            replace n7 := cell_later hbw n7
            replace q0 := cell_later hbw q0
            replace q1 := cell_later hbw q1
            replace q2 := cell_later hbw q2
            replace q3 := cell_later hbw q3
            replace q4 := cell_later hbw q4
            replace q5 := cell_later hbw q5
            replace q6 := cell_later hbw q6
            replace q7 := cell_later hbw q7
            have hb2 : Below wr.heap.size wr (wr.alloc (.cells #[.int .i8 p.kind, .int .i64 p.kids, .int .i64 p.n, .string p.s, .string p.t, .string p.u, .int .i64 p.line, .int .i64 p.col] 81)) := (Below.refl _ _).alloc (Nat.le_refl _) _
            have hb3 := below_two wr (.cells #[.int .i8 p.kind, .int .i64 p.kids, .int .i64 p.n, .string p.s, .string p.t, .string p.u, .int .i64 p.line, .int .i64 p.col] 81) (.cells #[.int .i8 q.kind, .int .i64 q.kids, .int .i64 q.n, .string q.s, .string q.t, .string q.u, .int .i64 q.line, .int .i64 q.col] 81)
            have HB5 := Lib.hid (below_later hb3 hbw)
            have HB6 := Lib.hid (below_later hb3 HB.out)
            have v3 := cell_later hb2 s3
            replace q0 := cell_later hb2 q0
            replace q1 := cell_later hb2 q1
            replace q2 := cell_later hb2 q2
            replace q3 := cell_later hb2 q3
            replace q4 := cell_later hb2 q4
            replace q5 := cell_later hb2 q5
            replace q6 := cell_later hb2 q6
            replace q7 := cell_later hb2 q7
            clear hb2 hb3 hbw HB hx hy hN hM hN2 hM2 m0 m1 s3
            by_cases h4 : p.kind = q.kind
            rotate_left
            · have eh4 := int_no h4
              have HR := Lib.hid (SameRes.no (fun h : sameAll A B => (fun h => h4 h.1) (((h.2 m a b HX.out HY.out).defs k x y HXD.out HYD.out).nodes j p q HXN.out HYN.out)) HB5.out)
              clear h4 HK HKD HKN
              go_wp2_with fail
              go_ret
              exact HR.out
            have eh4 := int_yes h4
            have Hh4 := Lib.hid h4
            clear h4
            by_cases h5 : p.kids = q.kids
            rotate_left
            · have eh5 := int_no h5
              have HR := Lib.hid (SameRes.no (fun h : sameAll A B => (fun h => h5 h.2.1) (((h.2 m a b HX.out HY.out).defs k x y HXD.out HYD.out).nodes j p q HXN.out HYN.out)) HB5.out)
              clear h5 HK HKD HKN
              go_wp2_with fail
              go_ret
              exact HR.out
            have eh5 := int_yes h5
            have Hh5 := Lib.hid h5
            clear h5
            by_cases h6 : p.n = q.n
            rotate_left
            · have eh6 := int_no h6
              have HR := Lib.hid (SameRes.no (fun h : sameAll A B => (fun h => h6 h.2.2.1) (((h.2 m a b HX.out HY.out).defs k x y HXD.out HYD.out).nodes j p q HXN.out HYN.out)) HB5.out)
              clear h6 HK HKD HKN
              go_wp2_with fail
              go_ret
              exact HR.out
            have eh6 := int_yes h6
            have Hh6 := Lib.hid h6
            clear h6
            by_cases h7 : p.s = q.s
            rotate_left
            · have eh7 := str_no h7
              have HR := Lib.hid (SameRes.no (fun h : sameAll A B => (fun h => h7 h.2.2.2) (((h.2 m a b HX.out HY.out).defs k x y HXD.out HYD.out).nodes j p q HXN.out HYN.out)) HB5.out)
              clear h7 HK HKD HKN
              go_wp2_with fail
              go_ret
              exact HR.out
            have eh7 := str_yes h7
            have Hh7 := Lib.hid h7
            clear h7
            have HKN2 : Hid (∀ (i : Nat) u v, i < j + 1 → x.tree[i]? = some u → y.tree[i]? = some v → sameN u v) := Lib.hid (fun i x' y' hi z1 z2 => by
              rcases Nat.lt_or_ge i j with h | h
              · exact HKN.out i x' y' h z1 z2
              · obtain rfl : i = j := by omega
                rw [HXN.out] at z1
                rw [HYN.out] at z2
                obtain rfl := Option.some.inj z1
                obtain rfl := Option.some.inj z2
                exact ⟨Hh4.out, Hh5.out, Hh6.out, Hh7.out⟩)
            clear HKN
            go_wp2_with fail
            go_roundw
            case rel => exact ⟨j + 1, by omega, by go_num, HKN2, HB6⟩
            case measure => simp [intOf]; omega
end Go.Proofs.YtidholghbjljaaaGreatDoor
