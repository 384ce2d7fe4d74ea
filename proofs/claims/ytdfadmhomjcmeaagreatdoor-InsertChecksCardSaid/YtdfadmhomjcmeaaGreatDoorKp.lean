
/- Walks of the checker: what a node's rule asks: If, lists; any node. -/
import Derived.Test.YtdfadmhomjcmeaaGreatDoorKo
namespace Culp.Tr
set_option linter.unusedSimpArgs false
set_option linter.unusedVariables false
/-- What a condition's rule answers. -/
def ifR (p p0 : Nat) (t0 : Ty) (t1 : Ty) (L : List (Nat × Ty)) : Except Bad Ty := match thenFit (.ok .bool) t0 23 p0 with
  | .error b => .error b
  | .ok _ => meetsT false p t1 L
end Culp.Tr
namespace Go.Proofs.YtdfadmhomjcmeaaGreatDoor
set_option linter.unusedSimpArgs false
set_option linter.unusedVariables false
open Go.RowKit Culp
theorem RuleRes.after {c B a : Nat} {tv yv : Value} {ys : List ByteArray} {r : Except Tr.Bad Ty} {w w1 w2 : World} {E : Ending} (k : Keep c w w1) (h : RuleRes c B tv yv ys a r w1 E w2) : RuleRes c B tv yv ys a r w E w2 := by
  unfold RuleRes at *
  split
  · exact ⟨h.1, h.2.1, k.trans h.2.2⟩
  · obtain ⟨s, h1, h2⟩ := h
    exact ⟨s, ⟨h1.1, h1.2.1, k.trans h1.2.2⟩, h2⟩
theorem RuleRes.some {c B a : Nat} {tv yv : Value} {ys : List ByteArray} {r : Except Tr.Bad Ty} {w w1 : World} {E : Ending} (h : RuleRes c B tv yv ys a r w E w1) : ∃ s : ByteArray, E = .returned (.string s) := by
  unfold RuleRes at h
  split at h
  · exact ⟨_, h.1⟩
  · obtain ⟨s, h1, _⟩ := h
    exact ⟨s, h1.1⟩
section
variable (c B : Nat) (tv yv : Value) (ys : List ByteArray) (a : Nat) (w : World)
variable (p : Nat) (x : Nd) (p0 p1 p2 : Nat) (t0 t1 t2 : Ty) (K : List (Nat × Ty)) (kv : Value)
theorem KidsV.tail {c : Nat} {w : World} {g o n C p0 : Nat} {P : List Nat} (h : KidsV c w (.slice (some ⟨g, o, none⟩) n C) (p0 :: P)) : KidsV c w (.slice (some ⟨g, o + 1, none⟩) P.length (C - 1)) P := by
  obtain ⟨g', o', C', n', e, hn, hC, hg, hc⟩ := h
  simp only [Value.slice.injEq, Option.some.injEq, Addr.mk.injEq] at e
  obtain ⟨⟨rfl, rfl, _⟩, rfl, rfl⟩ := e
  simp only [List.length_cons] at hn
  exact ⟨g, o + 1, C - 1, P.length, rfl, rfl, by omega, hg, fun j q hj => by rw [Nat.add_assoc, Nat.add_comm 1 j]; exact hc (j + 1) q hj⟩
set_option maxRecDepth 100000 in
set_option maxHeartbeats 1600000 in
theorem asked_9 (hk : x.kind = 9) (hTab : Tab w) (hK : KidsV c w kv (([(p0, t0), (p1, t1), (p2, t2)]).map Prod.fst)) (hT : Told ys ([(p0, t0), (p1, t1), (p2, t2)])) (h : CkAt c B tv yv ys 0 a w) :
    Calls Tryz.prog 113 #[.pointer (some ⟨c, 0, none⟩), .int .i64 (p : Int), x.val, kv] w (RuleRes c B tv yv ys a (Tr.ifR p p0 t0 t1 [(p2, t2)]) w) := by
  have rowNot : ∀ k < 8, (rowK k == 9) = false := by decide
  have h0 := hT (p0, t0) List.mem_cons_self
  have HF := Lib.hid (fun w' h' => fitsR c B tv yv ys a w' (.ok .bool) (Tr.good_ok _) (Tr.fitsR_ok (by unfold Ty.fits; decide)) p0 23 p0 { data := #[98] } (fun t' ht' => by injection ht' with ht'; subst ht'; rfl) t0 h0.2 (by decide) h0.1 h')
  have HG := Lib.hid (Tr.thenFit_good (R := .ok .bool) (s := t0) (n := 23) (p := p0) (Tr.good_ok _) (by decide))
  have HKV4 : Hid (∀ w', Keep c w w' → KidsV c w' kv [p0, p1, p2]) := Lib.hid (fun w' k => hK.keep k)
  have HMM0 := Lib.hid (fun v w' h' hk' => met_any c B tv yv ys a p p1 t1 [(p2, t2)] v w' hk' (fun y hy => hT y (List.mem_cons_of_mem _ hy)) (by simp) h')
  unfold Tr.ifR
  rw [show ((23 : Nat) : Int) = 23 from rfl] at HF
  generalize Tr.thenFit (.ok .bool) t0 23 p0 = R at *
  generalize Tr.meetsT false p t1 [(p2, t2)] = RM at *
  clear h0
  have HTB := Lib.hid (fun cs => hTab.later ((Below.refl w.heap.size w).alloc (Nat.le_refl _) (.cells cs 38)))
  obtain ⟨k, kd, n, s, t, u, l, cl⟩ := x
  obtain rfl : k = 9 := hk
  have HC := Lib.hid h
  obtain ⟨g, o, C, rfl, hlC, hg, hkc⟩ := hK.shape
  have HKV := Lib.hid hkc
  have HBX : Hid (Box w.heap.size (Nd.mk 9 kd n s t u l cl) (w.alloc (.cells #[.int .i8 9, .int .i64 kd, .int .i64 n, .string s, .string t, .string u, .int .i64 l, .int .i64 cl] 38))) := Lib.hid (MapKept.heap_alloc w _).1
  have HB0 := Lib.hid ((Below.refl w.heap.size w).alloc (Nat.le_refl _) (.cells #[.int .i8 9, .int .i64 kd, .int .i64 n, .string s, .string t, .string u, .int .i64 l, .int .i64 cl] 38))
  show Calls Tryz.prog _ #[_, _, .agg #[.int .i8 9, .int .i64 kd, .int .i64 n, .string s, .string t, .string u, .int .i64 l, .int .i64 cl], _] w _
  have hlm : (([(p0, t0), (p1, t1), (p2, t2)] : List (Nat × Ty)).map Prod.fst).length = ([(p0, t0), (p1, t1), (p2, t2)] : List (Nat × Ty)).length := List.length_map _
  rw [hlm] at hlC ⊢
  clear hTab h hkc hlm hK
  go_enter Tryz.func113, Tryz.ntmps113
  go_wp2_with (refine wpList_load_mid rfl 205 _ rfl 1 0 rfl rowsL _ (Tab.range (HTB.out _)) Tryz.underlying205 rfl (by kernel_rfl) ?_)
  have HKV3 : Hid (∀ w', Keep c w w' → KidsV c w' (.slice (some ⟨g, o + 1, none⟩) 2 (C - 1)) [p1, p2]) := Lib.hid (fun w' k => (HKV4.out w' k).tail)
  have HMM := Lib.hid (fun w' h' hk' => HMM0.out (.slice (some ⟨g, o + 1, none⟩) 2 (C - 1)) w' h' hk')
  clear HKV4 HMM0
  go_loopw [17] (fun i wr => ∃ k : Nat, k ≤ 8 ∧ i = .int .i64 k ∧ Hid (Below w.heap.size w wr) ∧ Hid (Box w.heap.size (Nd.mk 9 kd n s t u l cl) wr)) (fun i _ => 8 - (intOf i).toNat)
  case atStart => exact ⟨0, Nat.zero_le _, rfl, HB0, HBX⟩
  case round =>
    obtain ⟨k, hk, rfl, HB, HX⟩ := hrel
    rcases Nat.lt_or_ge k 8 with hlt | hge
    ·
      have x0 : ∀ cs, (wr.alloc (.cells cs 204)).cell? ⟨w.heap.size, 0, none⟩ = some (.int .i8 9) := fun cs => alloc_cell cs 204 (HX.out.cell 0)
      obtain ⟨s1, s2, hix⟩ := idx_any k (by omega)
      have hne : (rowK k == 9) = false := rowNot k (by omega)
      have hk8 : k < 8 := by omega
      have HB1 : Hid (∀ w' : World, Below wr.heap.size wr w' → Below w.heap.size w w') := Lib.hid (fun w' hb => below_later hb HB.out)
      have HX1 : Hid (∀ w' : World, Below wr.heap.size wr w' → Box w.heap.size (Nd.mk 9 kd n s t u l cl) w') := Lib.hid (fun w' hb => HX.out.later hb)
      generalize rowK k = rk at *
      have hb : ∀ cs, Below wr.heap.size wr (wr.alloc (.cells cs 204)) := fun cs => (Below.refl _ _).alloc (Nat.le_refl _) _
      have HB2 := Lib.hid (fun cs => HB1.out _ (hb cs))
      have HX2 := Lib.hid (fun cs => HX1.out _ (hb cs))
      clear HB HX HB1 HX1 hb
      go_wp2_with fail
      go_roundw
      case rel => exact ⟨k + 1, by omega, by go_num, HB2.out _, HX2.out _⟩
      case measure => simp [intOf]; omega
    ·
      have hd8 : decide ((k : Int) < 8) = false := decide_eq_false (by omega)
      have HC1 := Lib.hid (HC.out.later HB.out)
      have HK1 : Hid (Keep c w wr) := Lib.hid (Keep.of HB.out)
      have x0 : wr.cell? ⟨w.heap.size, 0, none⟩ = some (.int .i8 9) := HX.out.cell 0
      generalize wr = w1 at *
      clear HB HBX HB0 HTB hk hge
      have q0 := HKV.out _ HK1.out 0 p0 rfl
      rw [Nat.add_zero] at q0
      go_wp2_with fail
      refine wp_region_plan (S := fun w' => w'.cell? ⟨g, o, none⟩ = some (.int .i64 (p0 : Int)))
        [(0, true), (1, true), (2, true), (3, true), (4, true), (5, true), (6, true), (7, false)] (by kernel_rfl) (by kernel_rfl) (by kernel_rfl) (fun _ _ _ _ _ h => h) q0 ?_
      intro HS
      repeat (first | (apply wpPlan_look; rfl; rfl; (intro wq hq; (try dsimp only at hq); go_split_ands; go_simp; (try rw [if_neg (by omega)]); (try rw [if_pos (by omega)]); try with_reducible rfl); simp only [Act.put, List.setIfInBounds_toArray, List.set_cons_zero, List.set_cons_succ]) | (apply wpPlan_skip; rfl; rfl; simp only [Act.put, List.setIfInBounds_toArray, List.set_cons_zero, List.set_cons_succ]) | (apply wpPlan_pass; rfl; rfl; assumption; simp only [Act.put, List.setIfInBounds_toArray, List.set_cons_zero, List.set_cons_succ]))
      apply wpPlan_call; rfl; rfl; rfl; rfl; kernel_rfl; exact HF.out _ (HC1.out.later (below_dn _ _)); rfl; rintro E w2 ⟨rfl, h2, k2⟩
      refine ⟨_, rfl, as_S (k2.cell HS hg) ?_⟩
      intro HS2
      have HC2 := Lib.hid h2
      have HK2 := Lib.hid (HK1.out.trans ((Keep.of (below_dn _ _)).trans k2))
      have HKM := Lib.hid (HKV3.out _ HK2.out)
      clear h2 k2 HS HS2 q0 x0
      simp only [Act.put, List.setIfInBounds_toArray, List.set_cons_zero, List.set_cons_succ]
      apply wpPlan_done
      cases R with
      | error b =>
        have c2 : w2.cell? ⟨c, 2, none⟩ = some (.int .i64 b.1) := HC2.out.c2
        have q : (b.1 != 0) = true := by
          have := HG.out b rfl
          simpa using this
        have HR : Hid (RuleRes c B tv yv ys a (.error b) w (.returned (.string ByteArray.empty)) w2) := Lib.hid (CkRes.rule c B tv yv ys a (R := .error b) HG.out (fun t ht => by cases ht) HK2.out HC2.out (Keep.refl _ _))
        go_wp2_with fail
        go_ret
        exact HR.out
      | ok v =>
        have c2 : w2.cell? ⟨c, 2, none⟩ = some (.int .i64 0) := HC2.out.c2
        have HME := Lib.hid (HMM.out w2 HC2.out HKM.out)
        have hC3 : 1 ≤ C := by have := hlC; simp at this; omega
        have hC4 : ¬ (C = 1) := by have := hlC; simp at this; omega
        go_wp2_with fail
        refine HME.out.mono ?_
        rintro E w3 hr
        have HR := Lib.hid (hr.rule.after HK2.out)
        obtain ⟨s', rfl⟩ := hr.rule.some
        clear hr
        go_wp2_with fail
        go_ret
        exact HR.out
set_option maxRecDepth 100000 in
set_option maxHeartbeats 1600000 in
theorem asked_21 (hk : x.kind = 21) (hTab : Tab w) (hK : KidsV c w kv (((p0, t0) :: K : List (Nat × Ty)).map Prod.fst)) (hT : Told ys ((p0, t0) :: K)) (hKl : K.length ≤ 1000000) (h : CkAt c B tv yv ys 0 a w) :
    Calls Tryz.prog 113 #[.pointer (some ⟨c, 0, none⟩), .int .i64 (p : Int), x.val, kv] w (RuleRes c B tv yv ys a ((Tr.meetsT false p t0 K).map .list) w) := by
  have rowNot : ∀ k < 8, (rowK k == 21) = false := by decide
  have HL : Hid (∀ w', CkAt c B tv yv ys 0 a w' → KidsV c w' kv (p0 :: K.map Prod.fst) → Calls Tryz.prog 144 #[.pointer (some ⟨c, 0, none⟩), .int .i64 (p : Int), x.val, kv] w' (RuleRes c B tv yv ys a ((Tr.meetsT false p t0 K).map .list) w')) := Lib.hid (fun w' h' hk' => lists_list c B tv yv ys a w' p x p0 t0 K kv hk hk' hT hKl h')
  have HKV4 : Hid (∀ w', Keep c w w' → KidsV c w' kv (p0 :: K.map Prod.fst)) := Lib.hid (fun w' k => hK.keep k)
  generalize ((Tr.meetsT false p t0 K).map .list : Except Tr.Bad Ty) = R at *
  have HTB := Lib.hid (fun cs => hTab.later ((Below.refl w.heap.size w).alloc (Nat.le_refl _) (.cells cs 38)))
  obtain ⟨k, kd, n, s, t, u, l, cl⟩ := x
  obtain rfl : k = 21 := hk
  have HC := Lib.hid h
  obtain ⟨g, o, C, rfl, hlC, hg, hkc⟩ := hK.shape
  have HKV := Lib.hid hkc
  have HBX : Hid (Box w.heap.size (Nd.mk 21 kd n s t u l cl) (w.alloc (.cells #[.int .i8 21, .int .i64 kd, .int .i64 n, .string s, .string t, .string u, .int .i64 l, .int .i64 cl] 38))) := Lib.hid (MapKept.heap_alloc w _).1
  have HB0 := Lib.hid ((Below.refl w.heap.size w).alloc (Nat.le_refl _) (.cells #[.int .i8 21, .int .i64 kd, .int .i64 n, .string s, .string t, .string u, .int .i64 l, .int .i64 cl] 38))
  show Calls Tryz.prog _ #[_, _, .agg #[.int .i8 21, .int .i64 kd, .int .i64 n, .string s, .string t, .string u, .int .i64 l, .int .i64 cl], _] w _
  have hlm : (((p0, t0) :: K : List (Nat × Ty)).map Prod.fst).length = ((p0, t0) :: K : List (Nat × Ty)).length := List.length_map _
  rw [hlm] at hlC ⊢
  clear hTab h hkc hlm hK
  go_enter Tryz.func113, Tryz.ntmps113
  go_wp2_with (refine wpList_load_mid rfl 205 _ rfl 1 0 rfl rowsL _ (Tab.range (HTB.out _)) Tryz.underlying205 rfl (by kernel_rfl) ?_)
  simp only [List.map_cons, List.map_nil, List.length_cons, List.length_nil, List.length_map] at HL HKV4
  go_loopw [17] (fun i wr => ∃ k : Nat, k ≤ 8 ∧ i = .int .i64 k ∧ Hid (Below w.heap.size w wr) ∧ Hid (Box w.heap.size (Nd.mk 21 kd n s t u l cl) wr)) (fun i _ => 8 - (intOf i).toNat)
  case atStart => exact ⟨0, Nat.zero_le _, rfl, HB0, HBX⟩
  case round =>
    obtain ⟨k, hk, rfl, HB, HX⟩ := hrel
    rcases Nat.lt_or_ge k 8 with hlt | hge
    ·
      have x0 : ∀ cs, (wr.alloc (.cells cs 204)).cell? ⟨w.heap.size, 0, none⟩ = some (.int .i8 21) := fun cs => alloc_cell cs 204 (HX.out.cell 0)
      obtain ⟨s1, s2, hix⟩ := idx_any k (by omega)
      have hne : (rowK k == 21) = false := rowNot k (by omega)
      have hk8 : k < 8 := by omega
      have HB1 : Hid (∀ w' : World, Below wr.heap.size wr w' → Below w.heap.size w w') := Lib.hid (fun w' hb => below_later hb HB.out)
      have HX1 : Hid (∀ w' : World, Below wr.heap.size wr w' → Box w.heap.size (Nd.mk 21 kd n s t u l cl) w') := Lib.hid (fun w' hb => HX.out.later hb)
      generalize rowK k = rk at *
      have hb : ∀ cs, Below wr.heap.size wr (wr.alloc (.cells cs 204)) := fun cs => (Below.refl _ _).alloc (Nat.le_refl _) _
      have HB2 := Lib.hid (fun cs => HB1.out _ (hb cs))
      have HX2 := Lib.hid (fun cs => HX1.out _ (hb cs))
      clear HB HX HB1 HX1 hb
      go_wp2_with fail
      go_roundw
      case rel => exact ⟨k + 1, by omega, by go_num, HB2.out _, HX2.out _⟩
      case measure => simp [intOf]; omega
    ·
      have hd8 : decide ((k : Int) < 8) = false := decide_eq_false (by omega)
      have HC1 := Lib.hid (HC.out.later HB.out)
      have HK1 : Hid (Keep c w wr) := Lib.hid (Keep.of HB.out)
      have x0 : wr.cell? ⟨w.heap.size, 0, none⟩ = some (.int .i8 21) := HX.out.cell 0
      generalize wr = w1 at *
      clear HB HBX HB0 HTB hk hge
      have x1 : w1.cell? ⟨w.heap.size, 1, none⟩ = some (.int .i64 kd) := HX.out.cell 1
      have x2 : w1.cell? ⟨w.heap.size, 2, none⟩ = some (.int .i64 n) := HX.out.cell 2
      have x3 : w1.cell? ⟨w.heap.size, 3, none⟩ = some (.string s) := HX.out.cell 3
      have x4 : w1.cell? ⟨w.heap.size, 4, none⟩ = some (.string t) := HX.out.cell 4
      have x5 : w1.cell? ⟨w.heap.size, 5, none⟩ = some (.string u) := HX.out.cell 5
      have x6 : w1.cell? ⟨w.heap.size, 6, none⟩ = some (.int .i64 l) := HX.out.cell 6
      have x7 : w1.cell? ⟨w.heap.size, 7, none⟩ = some (.int .i64 cl) := HX.out.cell 7
      have HLC : Hid (Calls Tryz.prog 144 #[.pointer (some ⟨c, 0, none⟩), .int .i64 (p : Int), .agg #[.int .i8 21, .int .i64 kd, .int .i64 n, .string s, .string t, .string u, .int .i64 l, .int .i64 cl], .slice (some ⟨g, o, none⟩) (K.length + 1) C] w1 (RuleRes c B tv yv ys a R w1)) := Lib.hid (HL.out w1 HC1.out (HKV4.out w1 HK1.out))
      go_wp2_with fail
      refine HLC.out.mono ?_
      rintro E w2 hr
      have HR := Lib.hid (hr.after HK1.out)
      obtain ⟨s', rfl⟩ := hr.some
      clear hr
      go_wp2_with fail
      go_ret
      exact HR.out
set_option maxRecDepth 100000 in
set_option maxHeartbeats 1600000 in
theorem asked_22 (hk : x.kind = 22) (hTab : Tab w) (hK : KidsV c w kv (((p0, t0) :: K : List (Nat × Ty)).map Prod.fst)) (hT : Told ys ((p0, t0) :: K))  (h : CkAt c B tv yv ys 0 a w) :
    Calls Tryz.prog 113 #[.pointer (some ⟨c, 0, none⟩), .int .i64 (p : Int), x.val, kv] w (RuleRes c B tv yv ys a (Tr.partT p0 t0 108 0) w) := by
  have rowNot : ∀ k < 8, (rowK k == 22) = false := by decide
  have HL : Hid (∀ w', CkAt c B tv yv ys 0 a w' → KidsV c w' kv (p0 :: K.map Prod.fst) → Calls Tryz.prog 144 #[.pointer (some ⟨c, 0, none⟩), .int .i64 (p : Int), x.val, kv] w' (RuleRes c B tv yv ys a (Tr.partT p0 t0 108 0) w')) := Lib.hid (fun w' h' hk' => lists_head c B tv yv ys a w' p x p0 t0 K kv hk hk' hT h')
  have HKV4 : Hid (∀ w', Keep c w w' → KidsV c w' kv (p0 :: K.map Prod.fst)) := Lib.hid (fun w' k => hK.keep k)
  generalize (Tr.partT p0 t0 108 0 : Except Tr.Bad Ty) = R at *
  have HTB := Lib.hid (fun cs => hTab.later ((Below.refl w.heap.size w).alloc (Nat.le_refl _) (.cells cs 38)))
  obtain ⟨k, kd, n, s, t, u, l, cl⟩ := x
  obtain rfl : k = 22 := hk
  have HC := Lib.hid h
  obtain ⟨g, o, C, rfl, hlC, hg, hkc⟩ := hK.shape
  have HKV := Lib.hid hkc
  have HBX : Hid (Box w.heap.size (Nd.mk 22 kd n s t u l cl) (w.alloc (.cells #[.int .i8 22, .int .i64 kd, .int .i64 n, .string s, .string t, .string u, .int .i64 l, .int .i64 cl] 38))) := Lib.hid (MapKept.heap_alloc w _).1
  have HB0 := Lib.hid ((Below.refl w.heap.size w).alloc (Nat.le_refl _) (.cells #[.int .i8 22, .int .i64 kd, .int .i64 n, .string s, .string t, .string u, .int .i64 l, .int .i64 cl] 38))
  show Calls Tryz.prog _ #[_, _, .agg #[.int .i8 22, .int .i64 kd, .int .i64 n, .string s, .string t, .string u, .int .i64 l, .int .i64 cl], _] w _
  have hlm : (((p0, t0) :: K : List (Nat × Ty)).map Prod.fst).length = ((p0, t0) :: K : List (Nat × Ty)).length := List.length_map _
  rw [hlm] at hlC ⊢
  clear hTab h hkc hlm hK
  go_enter Tryz.func113, Tryz.ntmps113
  go_wp2_with (refine wpList_load_mid rfl 205 _ rfl 1 0 rfl rowsL _ (Tab.range (HTB.out _)) Tryz.underlying205 rfl (by kernel_rfl) ?_)
  simp only [List.map_cons, List.map_nil, List.length_cons, List.length_nil, List.length_map] at HL HKV4
  go_loopw [17] (fun i wr => ∃ k : Nat, k ≤ 8 ∧ i = .int .i64 k ∧ Hid (Below w.heap.size w wr) ∧ Hid (Box w.heap.size (Nd.mk 22 kd n s t u l cl) wr)) (fun i _ => 8 - (intOf i).toNat)
  case atStart => exact ⟨0, Nat.zero_le _, rfl, HB0, HBX⟩
  case round =>
    obtain ⟨k, hk, rfl, HB, HX⟩ := hrel
    rcases Nat.lt_or_ge k 8 with hlt | hge
    ·
      have x0 : ∀ cs, (wr.alloc (.cells cs 204)).cell? ⟨w.heap.size, 0, none⟩ = some (.int .i8 22) := fun cs => alloc_cell cs 204 (HX.out.cell 0)
      obtain ⟨s1, s2, hix⟩ := idx_any k (by omega)
      have hne : (rowK k == 22) = false := rowNot k (by omega)
      have hk8 : k < 8 := by omega
      have HB1 : Hid (∀ w' : World, Below wr.heap.size wr w' → Below w.heap.size w w') := Lib.hid (fun w' hb => below_later hb HB.out)
      have HX1 : Hid (∀ w' : World, Below wr.heap.size wr w' → Box w.heap.size (Nd.mk 22 kd n s t u l cl) w') := Lib.hid (fun w' hb => HX.out.later hb)
      generalize rowK k = rk at *
      have hb : ∀ cs, Below wr.heap.size wr (wr.alloc (.cells cs 204)) := fun cs => (Below.refl _ _).alloc (Nat.le_refl _) _
      have HB2 := Lib.hid (fun cs => HB1.out _ (hb cs))
      have HX2 := Lib.hid (fun cs => HX1.out _ (hb cs))
      clear HB HX HB1 HX1 hb
      go_wp2_with fail
      go_roundw
      case rel => exact ⟨k + 1, by omega, by go_num, HB2.out _, HX2.out _⟩
      case measure => simp [intOf]; omega
    ·
      have hd8 : decide ((k : Int) < 8) = false := decide_eq_false (by omega)
      have HC1 := Lib.hid (HC.out.later HB.out)
      have HK1 : Hid (Keep c w wr) := Lib.hid (Keep.of HB.out)
      have x0 : wr.cell? ⟨w.heap.size, 0, none⟩ = some (.int .i8 22) := HX.out.cell 0
      generalize wr = w1 at *
      clear HB HBX HB0 HTB hk hge
      have x1 : w1.cell? ⟨w.heap.size, 1, none⟩ = some (.int .i64 kd) := HX.out.cell 1
      have x2 : w1.cell? ⟨w.heap.size, 2, none⟩ = some (.int .i64 n) := HX.out.cell 2
      have x3 : w1.cell? ⟨w.heap.size, 3, none⟩ = some (.string s) := HX.out.cell 3
      have x4 : w1.cell? ⟨w.heap.size, 4, none⟩ = some (.string t) := HX.out.cell 4
      have x5 : w1.cell? ⟨w.heap.size, 5, none⟩ = some (.string u) := HX.out.cell 5
      have x6 : w1.cell? ⟨w.heap.size, 6, none⟩ = some (.int .i64 l) := HX.out.cell 6
      have x7 : w1.cell? ⟨w.heap.size, 7, none⟩ = some (.int .i64 cl) := HX.out.cell 7
      have HLC : Hid (Calls Tryz.prog 144 #[.pointer (some ⟨c, 0, none⟩), .int .i64 (p : Int), .agg #[.int .i8 22, .int .i64 kd, .int .i64 n, .string s, .string t, .string u, .int .i64 l, .int .i64 cl], .slice (some ⟨g, o, none⟩) (K.length + 1) C] w1 (RuleRes c B tv yv ys a R w1)) := Lib.hid (HL.out w1 HC1.out (HKV4.out w1 HK1.out))
      go_wp2_with fail
      refine HLC.out.mono ?_
      rintro E w2 hr
      have HR := Lib.hid (hr.after HK1.out)
      obtain ⟨s', rfl⟩ := hr.some
      clear hr
      go_wp2_with fail
      go_ret
      exact HR.out
set_option maxRecDepth 100000 in
set_option maxHeartbeats 1600000 in
theorem asked_23 (hk : x.kind = 23) (hTab : Tab w) (hK : KidsV c w kv (((p0, t0) :: K : List (Nat × Ty)).map Prod.fst)) (hT : Told ys ((p0, t0) :: K))  (h : CkAt c B tv yv ys 0 a w) :
    Calls Tryz.prog 113 #[.pointer (some ⟨c, 0, none⟩), .int .i64 (p : Int), x.val, kv] w (RuleRes c B tv yv ys a ((Tr.partT p0 t0 108 0).map .list) w) := by
  have rowNot : ∀ k < 8, (rowK k == 23) = false := by decide
  have HL : Hid (∀ w', CkAt c B tv yv ys 0 a w' → KidsV c w' kv (p0 :: K.map Prod.fst) → Calls Tryz.prog 144 #[.pointer (some ⟨c, 0, none⟩), .int .i64 (p : Int), x.val, kv] w' (RuleRes c B tv yv ys a ((Tr.partT p0 t0 108 0).map .list) w')) := Lib.hid (fun w' h' hk' => lists_tail c B tv yv ys a w' p x p0 t0 K kv hk hk' hT h')
  have HKV4 : Hid (∀ w', Keep c w w' → KidsV c w' kv (p0 :: K.map Prod.fst)) := Lib.hid (fun w' k => hK.keep k)
  generalize ((Tr.partT p0 t0 108 0).map .list : Except Tr.Bad Ty) = R at *
  have HTB := Lib.hid (fun cs => hTab.later ((Below.refl w.heap.size w).alloc (Nat.le_refl _) (.cells cs 38)))
  obtain ⟨k, kd, n, s, t, u, l, cl⟩ := x
  obtain rfl : k = 23 := hk
  have HC := Lib.hid h
  obtain ⟨g, o, C, rfl, hlC, hg, hkc⟩ := hK.shape
  have HKV := Lib.hid hkc
  have HBX : Hid (Box w.heap.size (Nd.mk 23 kd n s t u l cl) (w.alloc (.cells #[.int .i8 23, .int .i64 kd, .int .i64 n, .string s, .string t, .string u, .int .i64 l, .int .i64 cl] 38))) := Lib.hid (MapKept.heap_alloc w _).1
  have HB0 := Lib.hid ((Below.refl w.heap.size w).alloc (Nat.le_refl _) (.cells #[.int .i8 23, .int .i64 kd, .int .i64 n, .string s, .string t, .string u, .int .i64 l, .int .i64 cl] 38))
  show Calls Tryz.prog _ #[_, _, .agg #[.int .i8 23, .int .i64 kd, .int .i64 n, .string s, .string t, .string u, .int .i64 l, .int .i64 cl], _] w _
  have hlm : (((p0, t0) :: K : List (Nat × Ty)).map Prod.fst).length = ((p0, t0) :: K : List (Nat × Ty)).length := List.length_map _
  rw [hlm] at hlC ⊢
  clear hTab h hkc hlm hK
  go_enter Tryz.func113, Tryz.ntmps113
  go_wp2_with (refine wpList_load_mid rfl 205 _ rfl 1 0 rfl rowsL _ (Tab.range (HTB.out _)) Tryz.underlying205 rfl (by kernel_rfl) ?_)
  simp only [List.map_cons, List.map_nil, List.length_cons, List.length_nil, List.length_map] at HL HKV4
  go_loopw [17] (fun i wr => ∃ k : Nat, k ≤ 8 ∧ i = .int .i64 k ∧ Hid (Below w.heap.size w wr) ∧ Hid (Box w.heap.size (Nd.mk 23 kd n s t u l cl) wr)) (fun i _ => 8 - (intOf i).toNat)
  case atStart => exact ⟨0, Nat.zero_le _, rfl, HB0, HBX⟩
  case round =>
    obtain ⟨k, hk, rfl, HB, HX⟩ := hrel
    rcases Nat.lt_or_ge k 8 with hlt | hge
    ·
      have x0 : ∀ cs, (wr.alloc (.cells cs 204)).cell? ⟨w.heap.size, 0, none⟩ = some (.int .i8 23) := fun cs => alloc_cell cs 204 (HX.out.cell 0)
      obtain ⟨s1, s2, hix⟩ := idx_any k (by omega)
      have hne : (rowK k == 23) = false := rowNot k (by omega)
      have hk8 : k < 8 := by omega
      have HB1 : Hid (∀ w' : World, Below wr.heap.size wr w' → Below w.heap.size w w') := Lib.hid (fun w' hb => below_later hb HB.out)
      have HX1 : Hid (∀ w' : World, Below wr.heap.size wr w' → Box w.heap.size (Nd.mk 23 kd n s t u l cl) w') := Lib.hid (fun w' hb => HX.out.later hb)
      generalize rowK k = rk at *
      have hb : ∀ cs, Below wr.heap.size wr (wr.alloc (.cells cs 204)) := fun cs => (Below.refl _ _).alloc (Nat.le_refl _) _
      have HB2 := Lib.hid (fun cs => HB1.out _ (hb cs))
      have HX2 := Lib.hid (fun cs => HX1.out _ (hb cs))
      clear HB HX HB1 HX1 hb
      go_wp2_with fail
      go_roundw
      case rel => exact ⟨k + 1, by omega, by go_num, HB2.out _, HX2.out _⟩
      case measure => simp [intOf]; omega
    ·
      have hd8 : decide ((k : Int) < 8) = false := decide_eq_false (by omega)
      have HC1 := Lib.hid (HC.out.later HB.out)
      have HK1 : Hid (Keep c w wr) := Lib.hid (Keep.of HB.out)
      have x0 : wr.cell? ⟨w.heap.size, 0, none⟩ = some (.int .i8 23) := HX.out.cell 0
      generalize wr = w1 at *
      clear HB HBX HB0 HTB hk hge
      have x1 : w1.cell? ⟨w.heap.size, 1, none⟩ = some (.int .i64 kd) := HX.out.cell 1
      have x2 : w1.cell? ⟨w.heap.size, 2, none⟩ = some (.int .i64 n) := HX.out.cell 2
      have x3 : w1.cell? ⟨w.heap.size, 3, none⟩ = some (.string s) := HX.out.cell 3
      have x4 : w1.cell? ⟨w.heap.size, 4, none⟩ = some (.string t) := HX.out.cell 4
      have x5 : w1.cell? ⟨w.heap.size, 5, none⟩ = some (.string u) := HX.out.cell 5
      have x6 : w1.cell? ⟨w.heap.size, 6, none⟩ = some (.int .i64 l) := HX.out.cell 6
      have x7 : w1.cell? ⟨w.heap.size, 7, none⟩ = some (.int .i64 cl) := HX.out.cell 7
      have HLC : Hid (Calls Tryz.prog 144 #[.pointer (some ⟨c, 0, none⟩), .int .i64 (p : Int), .agg #[.int .i8 23, .int .i64 kd, .int .i64 n, .string s, .string t, .string u, .int .i64 l, .int .i64 cl], .slice (some ⟨g, o, none⟩) (K.length + 1) C] w1 (RuleRes c B tv yv ys a R w1)) := Lib.hid (HL.out w1 HC1.out (HKV4.out w1 HK1.out))
      go_wp2_with fail
      refine HLC.out.mono ?_
      rintro E w2 hr
      have HR := Lib.hid (hr.after HK1.out)
      obtain ⟨s', rfl⟩ := hr.some
      clear hr
      go_wp2_with fail
      go_ret
      exact HR.out
set_option maxRecDepth 100000 in
set_option maxHeartbeats 1600000 in
theorem asked_24 (hk : x.kind = 24) (hTab : Tab w) (hK : KidsV c w kv (((p0, t0) :: K : List (Nat × Ty)).map Prod.fst)) (hT : Told ys ((p0, t0) :: K))  (h : CkAt c B tv yv ys 0 a w) :
    Calls Tryz.prog 113 #[.pointer (some ⟨c, 0, none⟩), .int .i64 (p : Int), x.val, kv] w (RuleRes c B tv yv ys a ((Tr.partT p0 t0 108 0).map fun _ => .bool) w) := by
  have rowNot : ∀ k < 8, (rowK k == 24) = false := by decide
  have HL : Hid (∀ w', CkAt c B tv yv ys 0 a w' → KidsV c w' kv (p0 :: K.map Prod.fst) → Calls Tryz.prog 144 #[.pointer (some ⟨c, 0, none⟩), .int .i64 (p : Int), x.val, kv] w' (RuleRes c B tv yv ys a ((Tr.partT p0 t0 108 0).map fun _ => .bool) w')) := Lib.hid (fun w' h' hk' => lists_empty c B tv yv ys a w' p x p0 t0 K kv hk hk' hT h')
  have HKV4 : Hid (∀ w', Keep c w w' → KidsV c w' kv (p0 :: K.map Prod.fst)) := Lib.hid (fun w' k => hK.keep k)
  generalize ((Tr.partT p0 t0 108 0).map fun _ => .bool : Except Tr.Bad Ty) = R at *
  have HTB := Lib.hid (fun cs => hTab.later ((Below.refl w.heap.size w).alloc (Nat.le_refl _) (.cells cs 38)))
  obtain ⟨k, kd, n, s, t, u, l, cl⟩ := x
  obtain rfl : k = 24 := hk
  have HC := Lib.hid h
  obtain ⟨g, o, C, rfl, hlC, hg, hkc⟩ := hK.shape
  have HKV := Lib.hid hkc
  have HBX : Hid (Box w.heap.size (Nd.mk 24 kd n s t u l cl) (w.alloc (.cells #[.int .i8 24, .int .i64 kd, .int .i64 n, .string s, .string t, .string u, .int .i64 l, .int .i64 cl] 38))) := Lib.hid (MapKept.heap_alloc w _).1
  have HB0 := Lib.hid ((Below.refl w.heap.size w).alloc (Nat.le_refl _) (.cells #[.int .i8 24, .int .i64 kd, .int .i64 n, .string s, .string t, .string u, .int .i64 l, .int .i64 cl] 38))
  show Calls Tryz.prog _ #[_, _, .agg #[.int .i8 24, .int .i64 kd, .int .i64 n, .string s, .string t, .string u, .int .i64 l, .int .i64 cl], _] w _
  have hlm : (((p0, t0) :: K : List (Nat × Ty)).map Prod.fst).length = ((p0, t0) :: K : List (Nat × Ty)).length := List.length_map _
  rw [hlm] at hlC ⊢
  clear hTab h hkc hlm hK
  go_enter Tryz.func113, Tryz.ntmps113
  go_wp2_with (refine wpList_load_mid rfl 205 _ rfl 1 0 rfl rowsL _ (Tab.range (HTB.out _)) Tryz.underlying205 rfl (by kernel_rfl) ?_)
  simp only [List.map_cons, List.map_nil, List.length_cons, List.length_nil, List.length_map] at HL HKV4
  go_loopw [17] (fun i wr => ∃ k : Nat, k ≤ 8 ∧ i = .int .i64 k ∧ Hid (Below w.heap.size w wr) ∧ Hid (Box w.heap.size (Nd.mk 24 kd n s t u l cl) wr)) (fun i _ => 8 - (intOf i).toNat)
  case atStart => exact ⟨0, Nat.zero_le _, rfl, HB0, HBX⟩
  case round =>
    obtain ⟨k, hk, rfl, HB, HX⟩ := hrel
    rcases Nat.lt_or_ge k 8 with hlt | hge
    ·
      have x0 : ∀ cs, (wr.alloc (.cells cs 204)).cell? ⟨w.heap.size, 0, none⟩ = some (.int .i8 24) := fun cs => alloc_cell cs 204 (HX.out.cell 0)
      obtain ⟨s1, s2, hix⟩ := idx_any k (by omega)
      have hne : (rowK k == 24) = false := rowNot k (by omega)
      have hk8 : k < 8 := by omega
      have HB1 : Hid (∀ w' : World, Below wr.heap.size wr w' → Below w.heap.size w w') := Lib.hid (fun w' hb => below_later hb HB.out)
      have HX1 : Hid (∀ w' : World, Below wr.heap.size wr w' → Box w.heap.size (Nd.mk 24 kd n s t u l cl) w') := Lib.hid (fun w' hb => HX.out.later hb)
      generalize rowK k = rk at *
      have hb : ∀ cs, Below wr.heap.size wr (wr.alloc (.cells cs 204)) := fun cs => (Below.refl _ _).alloc (Nat.le_refl _) _
      have HB2 := Lib.hid (fun cs => HB1.out _ (hb cs))
      have HX2 := Lib.hid (fun cs => HX1.out _ (hb cs))
      clear HB HX HB1 HX1 hb
      go_wp2_with fail
      go_roundw
      case rel => exact ⟨k + 1, by omega, by go_num, HB2.out _, HX2.out _⟩
      case measure => simp [intOf]; omega
    ·
      have hd8 : decide ((k : Int) < 8) = false := decide_eq_false (by omega)
      have HC1 := Lib.hid (HC.out.later HB.out)
      have HK1 : Hid (Keep c w wr) := Lib.hid (Keep.of HB.out)
      have x0 : wr.cell? ⟨w.heap.size, 0, none⟩ = some (.int .i8 24) := HX.out.cell 0
      generalize wr = w1 at *
      clear HB HBX HB0 HTB hk hge
      have x1 : w1.cell? ⟨w.heap.size, 1, none⟩ = some (.int .i64 kd) := HX.out.cell 1
      have x2 : w1.cell? ⟨w.heap.size, 2, none⟩ = some (.int .i64 n) := HX.out.cell 2
      have x3 : w1.cell? ⟨w.heap.size, 3, none⟩ = some (.string s) := HX.out.cell 3
      have x4 : w1.cell? ⟨w.heap.size, 4, none⟩ = some (.string t) := HX.out.cell 4
      have x5 : w1.cell? ⟨w.heap.size, 5, none⟩ = some (.string u) := HX.out.cell 5
      have x6 : w1.cell? ⟨w.heap.size, 6, none⟩ = some (.int .i64 l) := HX.out.cell 6
      have x7 : w1.cell? ⟨w.heap.size, 7, none⟩ = some (.int .i64 cl) := HX.out.cell 7
      have HLC : Hid (Calls Tryz.prog 144 #[.pointer (some ⟨c, 0, none⟩), .int .i64 (p : Int), .agg #[.int .i8 24, .int .i64 kd, .int .i64 n, .string s, .string t, .string u, .int .i64 l, .int .i64 cl], .slice (some ⟨g, o, none⟩) (K.length + 1) C] w1 (RuleRes c B tv yv ys a R w1)) := Lib.hid (HL.out w1 HC1.out (HKV4.out w1 HK1.out))
      go_wp2_with fail
      refine HLC.out.mono ?_
      rintro E w2 hr
      have HR := Lib.hid (hr.after HK1.out)
      obtain ⟨s', rfl⟩ := hr.some
      clear hr
      go_wp2_with fail
      go_ret
      exact HR.out
set_option maxRecDepth 100000 in
set_option maxHeartbeats 1600000 in
theorem asked_25 (hk : x.kind = 25) (hTab : Tab w) (hK : KidsV c w kv (([(p0, t0), (p1, t1)] : List (Nat × Ty)).map Prod.fst)) (hT : Told ys ([(p0, t0), (p1, t1)]))  (h : CkAt c B tv yv ys 0 a w) :
    Calls Tryz.prog 113 #[.pointer (some ⟨c, 0, none⟩), .int .i64 (p : Int), x.val, kv] w (RuleRes c B tv yv ys a ((Tr.thenFit (Tr.partT p1 t1 108 0) t0 23 p0).map .list) w) := by
  have rowNot : ∀ k < 8, (rowK k == 25) = false := by decide
  have HL : Hid (∀ w', CkAt c B tv yv ys 0 a w' → KidsV c w' kv ([p0, p1]) → Calls Tryz.prog 144 #[.pointer (some ⟨c, 0, none⟩), .int .i64 (p : Int), x.val, kv] w' (RuleRes c B tv yv ys a ((Tr.thenFit (Tr.partT p1 t1 108 0) t0 23 p0).map .list) w')) := Lib.hid (fun w' h' hk' => lists_cons c B tv yv ys a w' p x p0 t0 kv p1 t1 hk hk' hT h')
  have HKV4 : Hid (∀ w', Keep c w w' → KidsV c w' kv ([p0, p1])) := Lib.hid (fun w' k => hK.keep k)
  generalize ((Tr.thenFit (Tr.partT p1 t1 108 0) t0 23 p0).map .list : Except Tr.Bad Ty) = R at *
  have HTB := Lib.hid (fun cs => hTab.later ((Below.refl w.heap.size w).alloc (Nat.le_refl _) (.cells cs 38)))
  obtain ⟨k, kd, n, s, t, u, l, cl⟩ := x
  obtain rfl : k = 25 := hk
  have HC := Lib.hid h
  obtain ⟨g, o, C, rfl, hlC, hg, hkc⟩ := hK.shape
  have HKV := Lib.hid hkc
  have HBX : Hid (Box w.heap.size (Nd.mk 25 kd n s t u l cl) (w.alloc (.cells #[.int .i8 25, .int .i64 kd, .int .i64 n, .string s, .string t, .string u, .int .i64 l, .int .i64 cl] 38))) := Lib.hid (MapKept.heap_alloc w _).1
  have HB0 := Lib.hid ((Below.refl w.heap.size w).alloc (Nat.le_refl _) (.cells #[.int .i8 25, .int .i64 kd, .int .i64 n, .string s, .string t, .string u, .int .i64 l, .int .i64 cl] 38))
  show Calls Tryz.prog _ #[_, _, .agg #[.int .i8 25, .int .i64 kd, .int .i64 n, .string s, .string t, .string u, .int .i64 l, .int .i64 cl], _] w _
  have hlm : (([(p0, t0), (p1, t1)] : List (Nat × Ty)).map Prod.fst).length = ([(p0, t0), (p1, t1)] : List (Nat × Ty)).length := List.length_map _
  rw [hlm] at hlC ⊢
  clear hTab h hkc hlm hK
  go_enter Tryz.func113, Tryz.ntmps113
  go_wp2_with (refine wpList_load_mid rfl 205 _ rfl 1 0 rfl rowsL _ (Tab.range (HTB.out _)) Tryz.underlying205 rfl (by kernel_rfl) ?_)
  simp only [List.map_cons, List.map_nil, List.length_cons, List.length_nil, List.length_map] at HL HKV4
  go_loopw [17] (fun i wr => ∃ k : Nat, k ≤ 8 ∧ i = .int .i64 k ∧ Hid (Below w.heap.size w wr) ∧ Hid (Box w.heap.size (Nd.mk 25 kd n s t u l cl) wr)) (fun i _ => 8 - (intOf i).toNat)
  case atStart => exact ⟨0, Nat.zero_le _, rfl, HB0, HBX⟩
  case round =>
    obtain ⟨k, hk, rfl, HB, HX⟩ := hrel
    rcases Nat.lt_or_ge k 8 with hlt | hge
    ·
      have x0 : ∀ cs, (wr.alloc (.cells cs 204)).cell? ⟨w.heap.size, 0, none⟩ = some (.int .i8 25) := fun cs => alloc_cell cs 204 (HX.out.cell 0)
      obtain ⟨s1, s2, hix⟩ := idx_any k (by omega)
      have hne : (rowK k == 25) = false := rowNot k (by omega)
      have hk8 : k < 8 := by omega
      have HB1 : Hid (∀ w' : World, Below wr.heap.size wr w' → Below w.heap.size w w') := Lib.hid (fun w' hb => below_later hb HB.out)
      have HX1 : Hid (∀ w' : World, Below wr.heap.size wr w' → Box w.heap.size (Nd.mk 25 kd n s t u l cl) w') := Lib.hid (fun w' hb => HX.out.later hb)
      generalize rowK k = rk at *
      have hb : ∀ cs, Below wr.heap.size wr (wr.alloc (.cells cs 204)) := fun cs => (Below.refl _ _).alloc (Nat.le_refl _) _
      have HB2 := Lib.hid (fun cs => HB1.out _ (hb cs))
      have HX2 := Lib.hid (fun cs => HX1.out _ (hb cs))
      clear HB HX HB1 HX1 hb
      go_wp2_with fail
      go_roundw
      case rel => exact ⟨k + 1, by omega, by go_num, HB2.out _, HX2.out _⟩
      case measure => simp [intOf]; omega
    ·
      have hd8 : decide ((k : Int) < 8) = false := decide_eq_false (by omega)
      have HC1 := Lib.hid (HC.out.later HB.out)
      have HK1 : Hid (Keep c w wr) := Lib.hid (Keep.of HB.out)
      have x0 : wr.cell? ⟨w.heap.size, 0, none⟩ = some (.int .i8 25) := HX.out.cell 0
      generalize wr = w1 at *
      clear HB HBX HB0 HTB hk hge
      have x1 : w1.cell? ⟨w.heap.size, 1, none⟩ = some (.int .i64 kd) := HX.out.cell 1
      have x2 : w1.cell? ⟨w.heap.size, 2, none⟩ = some (.int .i64 n) := HX.out.cell 2
      have x3 : w1.cell? ⟨w.heap.size, 3, none⟩ = some (.string s) := HX.out.cell 3
      have x4 : w1.cell? ⟨w.heap.size, 4, none⟩ = some (.string t) := HX.out.cell 4
      have x5 : w1.cell? ⟨w.heap.size, 5, none⟩ = some (.string u) := HX.out.cell 5
      have x6 : w1.cell? ⟨w.heap.size, 6, none⟩ = some (.int .i64 l) := HX.out.cell 6
      have x7 : w1.cell? ⟨w.heap.size, 7, none⟩ = some (.int .i64 cl) := HX.out.cell 7
      have HLC : Hid (Calls Tryz.prog 144 #[.pointer (some ⟨c, 0, none⟩), .int .i64 (p : Int), .agg #[.int .i8 25, .int .i64 kd, .int .i64 n, .string s, .string t, .string u, .int .i64 l, .int .i64 cl], .slice (some ⟨g, o, none⟩) 2 C] w1 (RuleRes c B tv yv ys a R w1)) := Lib.hid (HL.out w1 HC1.out (HKV4.out w1 HK1.out))
      go_wp2_with fail
      refine HLC.out.mono ?_
      rintro E w2 hr
      have HR := Lib.hid (hr.after HK1.out)
      obtain ⟨s', rfl⟩ := hr.some
      clear hr
      go_wp2_with fail
      go_ret
      exact HR.out
set_option maxRecDepth 100000 in
set_option maxHeartbeats 1600000 in
theorem asked_21e (A0 : Option Addr) (C0 : Nat) (hk : x.kind = 21) (hTab : Tab w) (hK : kv = .slice A0 0 C0) (h : CkAt c B tv yv ys 0 a w) :
    Calls Tryz.prog 113 #[.pointer (some ⟨c, 0, none⟩), .int .i64 (p : Int), x.val, kv] w (RuleRes c B tv yv ys a (.ok (.list .dyn)) w) := by
  have rowNot : ∀ k < 8, (rowK k == 21) = false := by decide
  have HL : Hid (∀ w', CkAt c B tv yv ys 0 a w' → Calls Tryz.prog 144 #[.pointer (some ⟨c, 0, none⟩), .int .i64 (p : Int), x.val, kv] w' (RuleRes c B tv yv ys a (.ok (.list .dyn)) w')) := Lib.hid (fun w' h' => lists_none c B tv yv ys a w' p x kv A0 C0 hk hK h')
  generalize (.ok (.list .dyn) : Except Tr.Bad Ty) = R at *
  have HTB := Lib.hid (fun cs => hTab.later ((Below.refl w.heap.size w).alloc (Nat.le_refl _) (.cells cs 38)))
  obtain ⟨k, kd, n, s, t, u, l, cl⟩ := x
  obtain rfl : k = 21 := hk
  have HC := Lib.hid h
  subst hK
  have HBX : Hid (Box w.heap.size (Nd.mk 21 kd n s t u l cl) (w.alloc (.cells #[.int .i8 21, .int .i64 kd, .int .i64 n, .string s, .string t, .string u, .int .i64 l, .int .i64 cl] 38))) := Lib.hid (MapKept.heap_alloc w _).1
  have HB0 := Lib.hid ((Below.refl w.heap.size w).alloc (Nat.le_refl _) (.cells #[.int .i8 21, .int .i64 kd, .int .i64 n, .string s, .string t, .string u, .int .i64 l, .int .i64 cl] 38))
  show Calls Tryz.prog _ #[_, _, .agg #[.int .i8 21, .int .i64 kd, .int .i64 n, .string s, .string t, .string u, .int .i64 l, .int .i64 cl], _] w _
  clear hTab h
  go_enter Tryz.func113, Tryz.ntmps113
  go_wp2_with (refine wpList_load_mid rfl 205 _ rfl 1 0 rfl rowsL _ (Tab.range (HTB.out _)) Tryz.underlying205 rfl (by kernel_rfl) ?_)
  go_loopw [17] (fun i wr => ∃ k : Nat, k ≤ 8 ∧ i = .int .i64 k ∧ Hid (Below w.heap.size w wr) ∧ Hid (Box w.heap.size (Nd.mk 21 kd n s t u l cl) wr)) (fun i _ => 8 - (intOf i).toNat)
  case atStart => exact ⟨0, Nat.zero_le _, rfl, HB0, HBX⟩
  case round =>
    obtain ⟨k, hk, rfl, HB, HX⟩ := hrel
    rcases Nat.lt_or_ge k 8 with hlt | hge
    ·
      have x0 : ∀ cs, (wr.alloc (.cells cs 204)).cell? ⟨w.heap.size, 0, none⟩ = some (.int .i8 21) := fun cs => alloc_cell cs 204 (HX.out.cell 0)
      obtain ⟨s1, s2, hix⟩ := idx_any k (by omega)
      have hne : (rowK k == 21) = false := rowNot k (by omega)
      have hk8 : k < 8 := by omega
      have HB1 : Hid (∀ w' : World, Below wr.heap.size wr w' → Below w.heap.size w w') := Lib.hid (fun w' hb => below_later hb HB.out)
      have HX1 : Hid (∀ w' : World, Below wr.heap.size wr w' → Box w.heap.size (Nd.mk 21 kd n s t u l cl) w') := Lib.hid (fun w' hb => HX.out.later hb)
      generalize rowK k = rk at *
      have hb : ∀ cs, Below wr.heap.size wr (wr.alloc (.cells cs 204)) := fun cs => (Below.refl _ _).alloc (Nat.le_refl _) _
      have HB2 := Lib.hid (fun cs => HB1.out _ (hb cs))
      have HX2 := Lib.hid (fun cs => HX1.out _ (hb cs))
      clear HB HX HB1 HX1 hb
      go_wp2_with fail
      go_roundw
      case rel => exact ⟨k + 1, by omega, by go_num, HB2.out _, HX2.out _⟩
      case measure => simp [intOf]; omega
    ·
      have hd8 : decide ((k : Int) < 8) = false := decide_eq_false (by omega)
      have HC1 := Lib.hid (HC.out.later HB.out)
      have HK1 : Hid (Keep c w wr) := Lib.hid (Keep.of HB.out)
      have x0 : wr.cell? ⟨w.heap.size, 0, none⟩ = some (.int .i8 21) := HX.out.cell 0
      generalize wr = w1 at *
      clear HB HBX HB0 HTB hk hge
      have x1 : w1.cell? ⟨w.heap.size, 1, none⟩ = some (.int .i64 kd) := HX.out.cell 1
      have x2 : w1.cell? ⟨w.heap.size, 2, none⟩ = some (.int .i64 n) := HX.out.cell 2
      have x3 : w1.cell? ⟨w.heap.size, 3, none⟩ = some (.string s) := HX.out.cell 3
      have x4 : w1.cell? ⟨w.heap.size, 4, none⟩ = some (.string t) := HX.out.cell 4
      have x5 : w1.cell? ⟨w.heap.size, 5, none⟩ = some (.string u) := HX.out.cell 5
      have x6 : w1.cell? ⟨w.heap.size, 6, none⟩ = some (.int .i64 l) := HX.out.cell 6
      have x7 : w1.cell? ⟨w.heap.size, 7, none⟩ = some (.int .i64 cl) := HX.out.cell 7
      have HLC : Hid (Calls Tryz.prog 144 #[.pointer (some ⟨c, 0, none⟩), .int .i64 (p : Int), .agg #[.int .i8 21, .int .i64 kd, .int .i64 n, .string s, .string t, .string u, .int .i64 l, .int .i64 cl], .slice A0 0 C0] w1 (RuleRes c B tv yv ys a R w1)) := Lib.hid (HL.out w1 HC1.out)
      go_wp2_with fail
      refine HLC.out.mono ?_
      rintro E w2 hr
      have HR := Lib.hid (hr.after HK1.out)
      obtain ⟨s', rfl⟩ := hr.some
      clear hr
      go_wp2_with fail
      go_ret
      exact HR.out
end
end Go.Proofs.YtdfadmhomjcmeaaGreatDoor
