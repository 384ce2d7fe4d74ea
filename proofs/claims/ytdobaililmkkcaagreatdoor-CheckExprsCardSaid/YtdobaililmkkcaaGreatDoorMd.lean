
/- Walks of the document's checker: heads of kids; what each kid must be; the meet of kids. -/
import Derived.Test.YtdobaililmkkcaaGreatDoorMb
import Derived.Test.YtdobaililmkkcaaGreatDoorKk
import Derived.Test.YtdobaililmkkcaaGreatDoorKp
namespace Culp.Tr
set_option linter.unusedSimpArgs false
set_option linter.unusedVariables false
theorem eachT_snoc (same : Bool) (t : Ty) : ∀ (K : List (Nat × Ty)) (p : Nat) (s : Ty), eachT same t (K ++ [(p, s)]) = fitG same (eachT same t K) s t 23 p
  | [], p, s => by
    show (match fitT same s t 23 p with | .error b => .error b | .ok _ => .ok ()) = (fitT same s t 23 p).map fun _ => ()
    cases fitT same s t 23 p <;> rfl
  | (q, u) :: K, p, s => by
    simp only [List.cons_append, eachT]
    cases fitT same u t 23 q with
    | error b => rfl
    | ok x => exact eachT_snoc same t K p s
theorem eachT_good (same : Bool) (t : Ty) : ∀ (K : List (Nat × Ty)), Good (eachT same t K)
  | [] => good_ok _
  | (q, u) :: K => fun b hb => by
    unfold eachT at hb
    cases hf : fitT same u t 23 q with
    | error c => rw [hf] at hb; injection hb with hb; subst hb; exact fitT_good (by decide) _ hf
    | ok x => rw [hf] at hb; exact eachT_good same t K b hb
theorem meetsT_good {same : Bool} {p : Nat} : ∀ (K : List (Nat × Ty)) (m : Ty), Good (meetsT same p m K)
  | [], m => good_ok _
  | (q, s) :: K, m => fun b hb => by
    unfold meetsT at hb
    cases hf : fitT same m s 25 q with
    | error c => rw [hf] at hb; injection hb with hb; subst hb; exact fitT_good (by decide) _ hf
    | ok x =>
      rw [hf] at hb
      dsimp only at hb
      split at hb
      · exact meetsT_good K _ b hb
      · injection hb with hb; subst hb; show (21 : Int) ≠ 0; decide
end Culp.Tr
namespace Go.Proofs.YtdobaililmkkcaaGreatDoor
set_option linter.unusedSimpArgs false
set_option linter.unusedVariables false
open Go.RowKit Culp
/-- The parts of a type of a head, as the document tells them. -/
def RMatchRes (o : Option (List Ty)) (w : World) (e : Ending) (w' : World) : Prop := match o with
  | none => ∃ A n C, e = .returned (.tuple #[.slice A n C, .bool false]) ∧ Below w.heap.size w w'
  | some l => ∃ v, e = .returned (.tuple #[v, .bool true]) ∧ w'.ownsRow w.heap.size 9 1 v l.length (strs l) ∧ Below w.heap.size w w'
set_option maxHeartbeats 1600000 in
theorem rMatch_any (t : Ty) (w : World) (ht : t.fits) (h : UInt8) (hh : h = 62 ∨ h = 44 ∨ h = 108 ∨ h = 120) :
    Calls Tryz.prog 123 #[.string t.str, .int .u8 h.toNat] w (RMatchRes (Tr.matchT t h) w) := by
  have hp : 0 < t.str.size := by rw [str_size]; exact t.enc_pos
  have e1 := str_get t hp
  by_cases h2 : t = .dyn
  · subst h2
    have q := str_isdyn
    have hbd := build_dd
    have hb1 := build_d
    have HB : ∀ v : Array Value, Hid (Below w.heap.size w (w.alloc (.cells v 9))) := fun v => Lib.hid ((Below.refl _ _).alloc (Nat.le_refl _) _)
    have hO2 : Hid ((w.alloc (.cells #[.string { data := #[63] }, .string { data := #[63] }] 9)).ownsRow w.heap.size 9 1 (.slice (some ⟨w.heap.size, 0, none⟩) 2 2) 2 (strs [.dyn, .dyn])) := Lib.hid ⟨rfl, .inr ⟨w.heap.size, 2, _, rfl, Nat.le_refl _, (MapKept.heap_alloc w _).1, Nat.le_refl _, by unfold maxLen; omega, rfl, rfl⟩⟩
    have hO1 : Hid ((w.alloc (.cells #[.string { data := #[63] }] 9)).ownsRow w.heap.size 9 1 (.slice (some ⟨w.heap.size, 0, none⟩) 1 1) 1 (strs [.dyn])) := Lib.hid (own_lit w _ _)
    rcases hh with rfl | rfl | rfl | rfl
    all_goals
      go_enter Tryz.func123, Tryz.ntmps123
      go_wp2_with fail
      go_ret2
      first
        | exact ⟨_, rfl, hO2.out, (HB _).out⟩
        | exact ⟨_, rfl, hO1.out, (HB _).out⟩
  · have q := str_dyn h2
    have HP := Lib.hid (rParts_any t ht)
    have HM : Hid (Tr.matchT t h = if t.hd = h then some t.kids else none) := Lib.hid (by unfold Tr.matchT; rw [if_neg h2])
    have eh : (((t.hd.toNat : Nat) : Int) == ((h.toNat : Nat) : Int)) = decide (t.hd = h) := by
      by_cases hx : t.hd = h
      · rw [hx, decide_eq_true rfl]; exact beq_self_eq_true _
      · rw [decide_eq_false hx]; exact beq_eq_false_iff_ne.2 fun e => hx ((u8_eq_iff _ _).1 e)
    by_cases h1 : t.hd = h
    all_goals
      first
        | rw [decide_eq_true h1] at eh
        | rw [decide_eq_false h1] at eh
      first
        | rw [if_pos h1] at HM
        | rw [if_neg h1] at HM
      clear h1 h2 hh
      go_enter Tryz.func123, Tryz.ntmps123
      go_wp2_with fail
      refine wp_region_plan (S := fun _ => True) [(0, true), (2, true), (3, true), (4, true), (5, true), (1, false), (6, true), (7, true)] (by kernel_rfl) (by kernel_rfl) (by kernel_rfl) (fun _ _ _ _ _ h => h) trivial ?_
      intro HS
      repeat (first | (apply wpPlan_look; rfl; rfl; (intro wq hq; (try dsimp only at hq); go_split_ands; go_simp; (try rw [if_neg (by omega)]); (try rw [if_pos (by omega)]); try with_reducible rfl); simp only [Act.put, List.setIfInBounds_toArray, List.set_cons_zero, List.set_cons_succ]) | (apply wpPlan_skip; rfl; rfl; simp only [Act.put, List.setIfInBounds_toArray, List.set_cons_zero, List.set_cons_succ]) | (apply wpPlan_pass; rfl; rfl; assumption; simp only [Act.put, List.setIfInBounds_toArray, List.set_cons_zero, List.set_cons_succ]))
      apply wpPlan_call; rfl; rfl; rfl; rfl; kernel_rfl; exact HP.out _; rfl; rintro E w4 ⟨v1, rfl, ho1, hb1⟩
      obtain ⟨A1, c1, rfl⟩ := own_shape ho1
      have HO : Hid (w4.ownsRow w.heap.size 9 1 (.slice A1 t.kids.length c1) t.kids.length (strs t.kids)) := Lib.hid ho1
      have HB4 := Lib.hid (below_later hb1 (below_dn w 1))
      clear ho1 hb1
      refine ⟨_, rfl, as_S trivial ?_⟩
      intro _
      simp only [Act.put, List.setIfInBounds_toArray, List.set_cons_zero, List.set_cons_succ]
      repeat (first | (apply wpPlan_look; rfl; rfl; (intro wq hq; (try dsimp only at hq); go_split_ands; go_simp; (try rw [if_neg (by omega)]); (try rw [if_pos (by omega)]); try with_reducible rfl); simp only [Act.put, List.setIfInBounds_toArray, List.set_cons_zero, List.set_cons_succ]) | (apply wpPlan_skip; rfl; rfl; simp only [Act.put, List.setIfInBounds_toArray, List.set_cons_zero, List.set_cons_succ]) | (apply wpPlan_pass; rfl; rfl; assumption; simp only [Act.put, List.setIfInBounds_toArray, List.set_cons_zero, List.set_cons_succ]))
      apply wpPlan_done
      go_wp2_with fail
      go_ret2
      rw [HM.out]
      first
        | exact ⟨_, rfl, HO.out, HB4.out⟩
        | exact ⟨_, _, _, rfl, HB4.out⟩
theorem RkAt.cell {c B a : Nat} {sm : Bool} {tv : Value} {ys : List ByteArray} {e : Int} {w : World} {g n C : Nat} (h : RkAt c B sm tv (.slice (some ⟨g, 0, none⟩) n C) ys e a w) {k : Nat} {s : ByteArray} (hk : ys[k]? = some s) : w.cell? ⟨g, k, none⟩ = some (.string s) := by
  obtain ⟨g', C', e1, h2, _, _⟩ := h.read hk
  simp only [Value.slice.injEq, Option.some.injEq, Addr.mk.injEq] at e1
  obtain ⟨⟨rfl, _, _⟩, _, rfl⟩ := e1
  exact h2
section
variable (c B : Nat) (sm : Bool) (tv yv : Value) (ys : List ByteArray) (a : Nat) (w : World)
theorem rhead_skip (k p : Nat) (b : UInt8) (e : Int) (he : e ≠ 0) (h : RkAt c B sm tv yv ys e a w) :
    Calls Tryz.prog 106 #[.pointer (some ⟨c, 0, none⟩), .int .i64 (k : Int), .int .u8 b.toNat, .int .i64 (p : Int)] w (RkRes (.string Ty.dyn.str) c B sm tv yv ys e a w) := by
  have c2 := h.c2
  have q : (e != 0) = true := by rw [bne, beq_eq_false_iff_ne.2 he]; rfl
  have HR := Lib.hid h
  clear h he
  go_enter Tryz.func106, Tryz.ntmps106
  go_wp2_with fail
  go_ret
  exact ⟨rfl, HR.out, Keep.refl _ _⟩
set_option maxHeartbeats 800000 in
theorem rhead_any (k p : Nat) (t : Ty) (ht : t.fits) (b : UInt8) (hb : (b = 62 ∨ b = 44) ∧ p < 2 ∨ (b = 108 ∨ b = 120) ∧ p < 1) (hk : ys[k]? = some t.str) (h : RkAt c B sm tv yv ys 0 a w) :
    Calls Tryz.prog 106 #[.pointer (some ⟨c, 0, none⟩), .int .i64 (k : Int), .int .u8 b.toNat, .int .i64 (p : Int)] w (RkRes (.string (Tr.strQ (Tr.partT k t b p))) c B sm tv yv ys (Tr.stE (Tr.partT k t b p)) (Tr.stA a (Tr.partT k t b p)) w) := by
  have hb' : b = 62 ∨ b = 44 ∨ b = 108 ∨ b = 120 := by rcases hb with ⟨h | h, _⟩ | ⟨h | h, _⟩ <;> simp [h]
  have c2 := h.c2
  have c1 := h.c1
  obtain ⟨g, C, rfl, r0, hlt, -⟩ := h.read hk
  have HC := Lib.hid (fun w => rMatch_any t w ht b hb')
  have HR := Lib.hid h
  cases hm : Tr.matchT t b with
  | none =>
    have HX : Hid (Tr.partT k t b p = .error (24, k)) := Lib.hid (by unfold Tr.partT; rw [hm])
    rw [hm] at HC
    clear h hm hb hb'
    go_enter Tryz.func106, Tryz.ntmps106
    go_wp2_with fail
    refine (HC.out _).mono ?_
    rintro E w1 ⟨A1, n1, C1, rfl, hb1⟩
    have HR1 := Lib.hid (HR.out.later hb1)
    have HK := Lib.hid (Keep.of (g := c) hb1)
    clear hb1 c1 c2 r0
    go_wp2_with fail
    refine (rno_any c B sm tv _ ys a _ 24 k HR1.out).mono ?_
    rintro E w2 ⟨rfl, h2, k2⟩
    have HR2 := Lib.hid h2
    have HK2 := Lib.hid (HK.out.trans k2)
    clear h2 k2
    go_wp2_with fail
    go_ret
    rw [HX.out]
    exact ⟨rfl, HR2.out, HK2.out⟩
  | some l =>
    have hl : ∃ u, l[p]? = some u := by
      rcases hb with ⟨hb, hp⟩ | ⟨hb, hp⟩
      · obtain ⟨u, v, rfl⟩ := Tr.matchT_two hb hm
        match p, hp with
        | 0, _ => exact ⟨_, rfl⟩
        | 1, _ => exact ⟨_, rfl⟩
      · obtain ⟨u, rfl⟩ := Tr.matchT_one hb hm
        match p, hp with
        | 0, _ => exact ⟨_, rfl⟩
    obtain ⟨u, hu⟩ := hl
    have HX : Hid (Tr.partT k t b p = .ok u) := Lib.hid (by unfold Tr.partT; rw [hm]; show Except.ok (l.getD p .dyn) = _; rw [List.getD_eq_getElem?_getD, hu]; rfl)
    have hpl : p < l.length := (List.getElem?_eq_some_iff.1 hu).1
    rw [hm] at HC
    clear h hm hb hb'
    go_enter Tryz.func106, Tryz.ntmps106
    go_wp2_with fail
    refine (HC.out _).mono ?_
    rintro E w1 ⟨v1, rfl, ho1, hb1⟩
    have HR1 := Lib.hid (HR.out.later hb1)
    have HK := Lib.hid (Keep.of (g := c) hb1)
    obtain ⟨A1, c1', rfl⟩ := own_shape ho1
    obtain ⟨g1, _, e1, -⟩ := own_read ho1 (by omega)
    simp only [Value.slice.injEq] at e1
    obtain ⟨rfl, _, rfl⟩ := e1
    have r1 := (own_get ho1 (i := p) (v := .string u.str) (by unfold strs; rw [List.getElem?_map, hu]; rfl)).1
    clear hb1 c1 c2 r0 ho1
    go_wp2_with fail
    go_ret
    rw [HX.out]
    exact ⟨rfl, HR1.out, HK.out⟩
theorem rheadR {α : Type} (R0 : Except Tr.Bad α) (hG : Tr.Good R0) (k p : Nat) (t : Ty) (ht : t.fits) (b : UInt8) (hb : (b = 62 ∨ b = 44) ∧ p < 2 ∨ (b = 108 ∨ b = 120) ∧ p < 1) (hk : ys[k]? = some t.str) (h : RkAt c B sm tv yv ys (Tr.stE R0) (Tr.stA a R0) w) :
    Calls Tryz.prog 106 #[.pointer (some ⟨c, 0, none⟩), .int .i64 (k : Int), .int .u8 b.toNat, .int .i64 (p : Int)] w (RkRes (.string (Tr.strQ (Tr.thenPart R0 k t b p))) c B sm tv yv ys (Tr.stE (Tr.thenPart R0 k t b p)) (Tr.stA a (Tr.thenPart R0 k t b p)) w) := by
  cases R0 with
  | error e => exact rhead_skip c B sm tv yv ys e.2 w k p b e.1 (hG e rfl) h
  | ok x => exact rhead_any c B sm tv yv ys a w k p t ht b hb hk h
set_option maxHeartbeats 1600000 in
theorem reach_any (t : Ty) (ht : t.fits) (K : List (Nat × Ty)) (kv : Value) (hk : KidsV c w kv (K.map Prod.fst)) (hT : Told ys K) (hKl : K.length ≤ 1000000) (h : RkAt c B sm tv yv ys 0 a w) :
    Calls Tryz.prog 108 #[.pointer (some ⟨c, 0, none⟩), kv, .string t.str] w (RkRes (.tuple #[]) c B sm tv yv ys (Tr.stE (Tr.eachT sm t K)) (Tr.stA a (Tr.eachT sm t K)) w) := by
  have HT := Lib.hid hT
  have HH := Lib.hid h
  obtain ⟨g, o, C, rfl, hlC, hg, hkc⟩ := hk.shape
  have HKV := Lib.hid hkc
  have hlm : (K.map Prod.fst).length = K.length := List.length_map _
  rw [hlm] at hlC ⊢
  clear hk hT h hkc hlm
  go_enter Tryz.func108, Tryz.ntmps108
  go_wp2_with fail
  go_loopw [6] (fun i wr => ∃ k : Nat, k ≤ K.length ∧ i = .int .i64 k ∧ Hid (RkAt c B sm tv yv ys (Tr.stE (Tr.eachT sm t (K.take k))) (Tr.stA a (Tr.eachT sm t (K.take k))) wr) ∧ Hid (Keep c w wr)) (fun i _ => K.length - (intOf i).toNat)
  case atStart => exact ⟨0, Nat.zero_le _, by go_num, Lib.hid HH.out, Lib.hid (Keep.refl _ _)⟩
  case round =>
    obtain ⟨k, hkl, rfl, HC, HKW⟩ := hrel
    by_cases hlt : k < K.length
    · obtain ⟨⟨q, s⟩, hKk⟩ : ∃ x, K[k]? = some x := ⟨_, List.getElem?_eq_getElem hlt⟩
      have q0 := HKV.out _ HKW.out k q (by rw [List.getElem?_map, hKk]; rfl)
      have hts := HT.out (q, s) (List.mem_of_getElem? hKk)
      have HTS := Lib.hid hts
      have hstep : Tr.eachT sm t (K.take (k + 1)) = Tr.fitG sm (Tr.eachT sm t (K.take k)) s t 23 q := by
        rw [List.take_add_one, hKk]
        exact Tr.eachT_snoc sm t _ q s
      have HST := Lib.hid hstep
      have HGD := Tr.eachT_good sm t (K.take k)
      obtain ⟨gy, Cy, rfl, r0, hl0, -⟩ := HC.out.read hts.1
      have c1 := HC.out.c1
      generalize Tr.eachT sm t (K.take k) = R at *
      have HF := Lib.hid (fun w' h' => rfitsR c B sm tv (.slice (some ⟨gy, 0, none⟩) ys.length Cy) ys a w' R HGD 23 q s t hts.2 ht (by decide) h')
      rw [show ((23 : Nat) : Int) = 23 from rfl, ← HST.out] at HF
      clear hts hKk hstep HGD
      go_wp2_with fail
      refine wp_region_plan (S := fun w' => w'.cell? ⟨c, 1, none⟩ = some (.slice (some ⟨gy, 0, none⟩) ys.length Cy) ∧ w'.cell? ⟨g, o + k, none⟩ = some (.int .i64 (q : Int)) ∧ w'.cell? ⟨gy, q, none⟩ = some (.string s.str)) [(0, true), (1, true), (2, true), (3, true), (4, true), (5, true), (6, true), (7, true), (8, true), (9, true), (10, true), (11, true), (12, true), (13, true), (14, true), (15, true), (16, false)] (by kernel_rfl) (by kernel_rfl) (by kernel_rfl) (fun _ _ _ _ _ h => h) ⟨c1, q0, r0⟩ ?_
      intro HS
      repeat (first | (apply wpPlan_look; rfl; rfl; (intro wq hq; (try dsimp only at hq); go_split_ands; go_simp; (try rw [if_neg (by omega)]); (try rw [if_pos (by omega)]); try with_reducible rfl); simp only [Act.put, List.setIfInBounds_toArray, List.set_cons_zero, List.set_cons_succ]) | (apply wpPlan_skip; rfl; rfl; simp only [Act.put, List.setIfInBounds_toArray, List.set_cons_zero, List.set_cons_succ]) | (apply wpPlan_pass; rfl; rfl; assumption; simp only [Act.put, List.setIfInBounds_toArray, List.set_cons_zero, List.set_cons_succ]))
      apply wpPlan_call; rfl; rfl; rfl; rfl; kernel_rfl; exact HF.out _ (HC.out.later (below_dn _ _)); rfl; rintro E w2 ⟨rfl, h2, k2⟩
      refine ⟨_, rfl, as_S ⟨h2.c1, k2.cell HS.2.1 hg, h2.cell HTS.out.1⟩ ?_⟩
      intro _
      have HC2 := Lib.hid h2
      have HK2 := Lib.hid (HKW.out.trans ((Keep.of (below_dn _ _)).trans k2))
      clear h2 k2 HS c1 q0 r0 HF
      simp only [Act.put, List.setIfInBounds_toArray, List.set_cons_zero, List.set_cons_succ]
      apply wpPlan_done
      go_wp2_with fail
      go_roundw
      case rel => exact ⟨k + 1, by omega, by go_num, HC2, HK2⟩
      case measure => simp [intOf]; omega
    · have HE : Hid (K.take k = K) := Lib.hid (List.take_of_length_le (by omega))
      rw [HE.out] at HC
      clear HE
      go_wp2_with fail
      exact bodyPost_end (v := .tuple #[]) (by simp [results, Tryz.results108, go_sem]) rfl ⟨rfl, HC.out, HKW.out⟩
end
end Go.Proofs.YtdobaililmkkcaaGreatDoor

/- Walks of the document's checker: the meet of kids; the table's rows of pairs, lists, boxes and As. -/
namespace Culp.Tr
set_option linter.unusedSimpArgs false
set_option linter.unusedVariables false
theorem fitG_fits {same : Bool} {R : Except Bad Ty} {s t : Ty} {n : Int} {p : Nat} (h : FitsR R) : FitsR (fitG same R s t n p) := fun u hu => h u (fitG_ok hu)
end Culp.Tr
namespace Go.Proofs.YtdobaililmkkcaaGreatDoor
set_option linter.unusedSimpArgs false
set_option linter.unusedVariables false
open Go.RowKit Culp
/-- What a rule answers. -/
def RkRule (c B : Nat) (sm : Bool) (tv yv : Value) (ys : List ByteArray) (a : Nat) (r : Except Tr.Bad Ty) (w : World) (E : Ending) (w' : World) : Prop := ∃ X : ByteArray, RkRes (.string X) c B sm tv yv ys (Tr.stE r) (Tr.stA a r) w E w' ∧ Tr.Good r ∧ ∀ t, r = .ok t → X = t.str
theorem RkRule.mk {c B a : Nat} {sm : Bool} {tv yv : Value} {ys : List ByteArray} {r : Except Tr.Bad Ty} {X : ByteArray} {w w' : World} (hG : Tr.Good r) (hX : ∀ t, r = .ok t → X = t.str) (hK : Keep c w w') (h : RkAt c B sm tv yv ys (Tr.stE r) (Tr.stA a r) w') : RkRule c B sm tv yv ys a r w (.returned (.string X)) w' := ⟨X, ⟨rfl, h, hK⟩, hG, hX⟩
theorem stE_map {α β : Type} (f : α → β) (R : Except Tr.Bad α) : Tr.stE (R.map f) = Tr.stE R := by cases R <;> rfl
theorem stA_map {α β : Type} (f : α → β) (a : Nat) (R : Except Tr.Bad α) : Tr.stA a (R.map f) = Tr.stA a R := by cases R <;> rfl
theorem RkRule.mkM {α : Type} {c B a : Nat} {sm : Bool} {tv yv : Value} {ys : List ByteArray} {r : Except Tr.Bad α} {f : α → Ty} {X : ByteArray} {w w' : World} (hG : Tr.Good r) (hX : ∀ t, r = .ok t → X = (f t).str) (hK : Keep c w w') (h : RkAt c B sm tv yv ys (Tr.stE r) (Tr.stA a r) w') : RkRule c B sm tv yv ys a (r.map f) w (.returned (.string X)) w' := by
  refine RkRule.mk (Tr.map_good f hG) (fun t ht => ?_) hK (by rw [stE_map, stA_map]; exact h)
  cases r with
  | error b => cases ht
  | ok v => injection ht with ht; rw [hX v rfl, ht]
theorem RkRule.after {c B a : Nat} {sm : Bool} {tv yv : Value} {ys : List ByteArray} {r : Except Tr.Bad Ty} {w w1 w' : World} {E : Ending} (k : Keep c w w1) (h : RkRule c B sm tv yv ys a r w1 E w') : RkRule c B sm tv yv ys a r w E w' := by
  obtain ⟨X, h1, h2⟩ := h
  exact ⟨X, ⟨h1.1, h1.2.1, k.trans h1.2.2⟩, h2⟩
section
variable (c B : Nat) (sm : Bool) (tv yv : Value) (ys : List ByteArray) (a : Nat) (w : World)
set_option maxRecDepth 100000 in
set_option maxHeartbeats 1600000 in
theorem rmeets_any (p : Nat) (p0 : Nat) (t0 : Ty) (K : List (Nat × Ty)) (kv : Value) (hk : KidsV c w kv (p0 :: K.map Prod.fst)) (hT : Told ys ((p0, t0) :: K)) (hKl : K.length ≤ 1000000) (h : RkAt c B sm tv yv ys 0 a w) :
    Calls Tryz.prog 107 #[.pointer (some ⟨c, 0, none⟩), kv, .int .i64 (p : Int)] w (RkRes (.string (Tr.strQ (Tr.meetsT sm p t0 K))) c B sm tv yv ys (Tr.stE (Tr.meetsT sm p t0 K)) (Tr.stA a (Tr.meetsT sm p t0 K)) w) := by
  have HT := Lib.hid hT
  have HH := Lib.hid h
  have c1 := h.c1
  obtain ⟨g, o, C, rfl, hlC, hg, hkc⟩ := hk.shape
  have HKV := Lib.hid hkc
  have hlm : (p0 :: K.map Prod.fst).length = K.length + 1 := by simp
  rw [hlm] at hlC ⊢
  obtain ⟨gy, Cy, rfl, r0, hl0, -⟩ := h.read (hT _ List.mem_cons_self).1
  have q0 := hkc _ (Keep.refl _ _) 0 p0 rfl
  rw [Nat.add_zero] at q0
  have HT0 := Lib.hid (hT _ List.mem_cons_self).2
  have HC0 := Lib.hid (fun nq => h.later (below_dn w nq))
  have HK0 : Hid (∀ nq, Keep c w (w.drewN nq)) := Lib.hid (fun nq => Keep.of (below_dn w nq))
  clear hk hT h hkc hlm
  go_enter Tryz.func107, Tryz.ntmps107
  go_wp2_with fail
  go_quiet (fail)
  go_wp2_with fail
  have HC0' := Lib.hid (HC0.out nq)
  have HK0' := Lib.hid (HK0.out nq)
  clear r0 q0 c1 HC0 HK0 HH
  go_loopw [7, 8] (fun m i wr => ∃ (j : Nat) (mt : Ty), 1 ≤ j ∧ j ≤ K.length + 1 ∧ i = .int .i64 j ∧ m = .string mt.str ∧ Hid mt.fits ∧ Hid (Tr.meetsT sm p t0 K = Tr.meetsT sm p mt (K.drop (j - 1))) ∧ Hid (RkAt c B sm tv (.slice (some ⟨gy, 0, none⟩) ys.length Cy) ys 0 a wr) ∧ Hid (Keep c w wr)) (fun _ i _ => K.length + 1 - (intOf i).toNat)
  case atStart => exact ⟨1, t0, Nat.le_refl _, by omega, by go_num, rfl, HT0, Lib.hid rfl, HC0', HK0'⟩
  case round =>
    obtain ⟨j, mt, h1j, hj, rfl, rfl, HF, HM, HC, HKW⟩ := hrel
    by_cases hlt : j < K.length + 1
    · obtain ⟨⟨q, s⟩, hKk⟩ : ∃ x, K[j - 1]? = some x := ⟨_, List.getElem?_eq_getElem (by omega)⟩
      have q0 := HKV.out _ HKW.out j q (by
        obtain ⟨i, rfl⟩ : ∃ i, j = i + 1 := ⟨j - 1, by omega⟩
        rw [List.getElem?_cons_succ, List.getElem?_map]
        rw [Nat.add_sub_cancel] at hKk
        rw [hKk]; rfl)
      have hts := HT.out (q, s) (List.mem_cons_of_mem _ (List.mem_of_getElem? hKk))
      have HTS := Lib.hid hts
      have HD : Hid (K.drop (j - 1) = (q, s) :: K.drop (j + 1 - 1)) := Lib.hid (by
        rw [List.drop_eq_getElem_cons (show j - 1 < K.length by omega)]
        rw [List.getElem?_eq_getElem (by omega)] at hKk
        injection hKk with hKk
        rw [hKk, show j - 1 + 1 = j + 1 - 1 by omega])
      have r0 := HC.out.cell HTS.out.1
      have c1 := HC.out.c1
      have hql : q < ys.length := (List.getElem?_eq_some_iff.1 hts.1).1
      clear hKk hts
      rw [HD.out] at HM
      clear HD
      have HF2 := Lib.hid (fun w' R hR h' => rfits_ok c B sm tv (.slice (some ⟨gy, 0, none⟩) ys.length Cy) ys a w' 25 q mt s HF.out HTS.out.2 (by decide) R hR h')
      cases hfit : Tr.fitT sm mt s ((25 : Nat) : Int) q with
      | error b =>
        have HR : Hid (Tr.meetsT sm p t0 K = .error b) := Lib.hid (by
          rw [HM.out]
          unfold Tr.meetsT
          rw [show (25 : Int) = ((25 : Nat) : Int) from rfl, hfit])
        have HFF := Lib.hid (fun w' h' => HF2.out w' _ hfit h')
        have hbz : (b.1 != 0) = true := by
          have := Tr.fitT_good (by decide) b hfit
          simpa using this
        generalize Tr.meetsT sm p t0 K = R at *
        clear HM HF2 hfit
        go_wp2_with fail
        refine wp_region_plan (S := fun w' => w'.cell? ⟨c, 1, none⟩ = some (.slice (some ⟨gy, 0, none⟩) ys.length Cy) ∧ w'.cell? ⟨g, o + j, none⟩ = some (.int .i64 (q : Int)) ∧ w'.cell? ⟨gy, q, none⟩ = some (.string s.str)) [(0, true), (1, true), (2, true), (3, true), (4, true), (5, true), (6, true), (7, true), (8, true), (9, true), (10, true), (11, true), (12, true), (13, true), (14, true), (15, true), (16, false)] (by kernel_rfl) (by kernel_rfl) (by kernel_rfl) (fun _ _ _ _ _ h => h) ⟨c1, q0, r0⟩ ?_
        intro HS
        repeat (first | (apply wpPlan_look; rfl; rfl; (intro wq hq; (try dsimp only at hq); go_split_ands; go_simp; (try rw [if_neg (by omega)]); (try rw [if_pos (by omega)]); try with_reducible rfl); simp only [Act.put, List.setIfInBounds_toArray, List.set_cons_zero, List.set_cons_succ]) | (apply wpPlan_skip; rfl; rfl; simp only [Act.put, List.setIfInBounds_toArray, List.set_cons_zero, List.set_cons_succ]) | (apply wpPlan_pass; rfl; rfl; assumption; simp only [Act.put, List.setIfInBounds_toArray, List.set_cons_zero, List.set_cons_succ]))
        apply wpPlan_call; rfl; rfl; rfl; rfl; kernel_rfl; exact HFF.out _ (HC.out.later (below_dn _ _)); rfl; rintro E w2 ⟨rfl, h2, k2⟩
        refine ⟨_, rfl, as_S ⟨h2.c1, k2.cell HS.2.1 hg, h2.cell HTS.out.1⟩ ?_⟩
        intro _
        have HC2 := Lib.hid h2
        have HK2 := Lib.hid (HKW.out.trans ((Keep.of (below_dn _ _)).trans k2))
        have c2 : w2.cell? ⟨c, 2, none⟩ = some (.int .i64 b.1) := h2.c2
        clear h2 k2 HS c1 q0 r0 HFF
        simp only [Act.put, List.setIfInBounds_toArray, List.set_cons_zero, List.set_cons_succ]
        apply wpPlan_done
        go_wp2_with fail
        go_ret
        rw [HR.out]
        exact ⟨rfl, HC2.out, HK2.out⟩
      | ok u =>
        have hcs : cons mt s = true := by
          unfold Tr.fitT at hfit
          split at hfit
          · rename_i h; rw [Bool.and_eq_true] at h; exact h.2
          · cases hfit
        have HM2 : Hid (Tr.meetsT sm p t0 K = if (meet mt s).enc.length ≤ 64 then Tr.meetsT sm p (meet mt s) (K.drop (j + 1 - 1)) else .error (21, p)) := Lib.hid (by
          rw [HM.out]
          show (match Tr.fitT sm mt s 25 q with | Except.error b => Except.error b | Except.ok _ => if (meet mt s).enc.length ≤ 64 then Tr.meetsT sm p (meet mt s) (K.drop (j + 1 - 1)) else Except.error (21, p)) = _
          rw [show (25 : Int) = ((25 : Nat) : Int) from rfl, hfit])
        have HFF := Lib.hid (fun w' h' => HF2.out w' _ hfit h')
        have HMT := Lib.hid (fun w' => rMeet_any mt s w' HF.out HTS.out.2 hcs)
        have hml := meet_len mt s
        have hmz : (meet mt s).str.size ≤ 200 := by
          have h1 : mt.fits := HF.out
          have h2 : s.fits := HTS.out.2
          unfold Ty.fits at h1 h2
          rw [str_size]; omega
        clear HM HF2 hfit hcs hml
        go_wp2_with fail
        refine wp_region_plan (S := fun w' => w'.cell? ⟨c, 1, none⟩ = some (.slice (some ⟨gy, 0, none⟩) ys.length Cy) ∧ w'.cell? ⟨g, o + j, none⟩ = some (.int .i64 (q : Int)) ∧ w'.cell? ⟨gy, q, none⟩ = some (.string s.str)) [(0, true), (1, true), (2, true), (3, true), (4, true), (5, true), (6, true), (7, true), (8, true), (9, true), (10, true), (11, true), (12, true), (13, true), (14, true), (15, true), (16, false)] (by kernel_rfl) (by kernel_rfl) (by kernel_rfl) (fun _ _ _ _ _ h => h) ⟨c1, q0, r0⟩ ?_
        intro HS
        repeat (first | (apply wpPlan_look; rfl; rfl; (intro wq hq; (try dsimp only at hq); go_split_ands; go_simp; (try rw [if_neg (by omega)]); (try rw [if_pos (by omega)]); try with_reducible rfl); simp only [Act.put, List.setIfInBounds_toArray, List.set_cons_zero, List.set_cons_succ]) | (apply wpPlan_skip; rfl; rfl; simp only [Act.put, List.setIfInBounds_toArray, List.set_cons_zero, List.set_cons_succ]) | (apply wpPlan_pass; rfl; rfl; assumption; simp only [Act.put, List.setIfInBounds_toArray, List.set_cons_zero, List.set_cons_succ]))
        apply wpPlan_call; rfl; rfl; rfl; rfl; kernel_rfl; exact HFF.out _ (HC.out.later (below_dn _ _)); rfl; rintro E w2 ⟨rfl, h2, k2⟩
        refine ⟨_, rfl, as_S ⟨h2.c1, k2.cell HS.2.1 hg, h2.cell HTS.out.1⟩ ?_⟩
        intro HS2
        have HC2 := Lib.hid h2
        have HK2 := Lib.hid (HKW.out.trans ((Keep.of (below_dn _ _)).trans k2))
        have c2 : w2.cell? ⟨c, 2, none⟩ = some (.int .i64 0) := h2.c2
        clear h2 k2 HS c1 q0 r0 HFF
        simp only [Act.put, List.setIfInBounds_toArray, List.set_cons_zero, List.set_cons_succ]
        apply wpPlan_done
        go_wp2_with fail
        refine wp_region_plan (S := fun w' => w'.cell? ⟨c, 1, none⟩ = some (.slice (some ⟨gy, 0, none⟩) ys.length Cy) ∧ w'.cell? ⟨g, o + j, none⟩ = some (.int .i64 (q : Int)) ∧ w'.cell? ⟨gy, q, none⟩ = some (.string s.str)) [(0, true), (1, true), (2, true), (3, true), (4, true), (5, true), (6, true), (7, true), (8, true), (9, true), (10, true), (11, false), (12, true)] (by kernel_rfl) (by kernel_rfl) (by kernel_rfl) (fun _ _ _ _ _ h => h) HS2 ?_
        intro HS
        repeat (first | (apply wpPlan_look; rfl; rfl; (intro wq hq; (try dsimp only at hq); go_split_ands; go_simp; (try rw [if_neg (by omega)]); (try rw [if_pos (by omega)]); try with_reducible rfl); simp only [Act.put, List.setIfInBounds_toArray, List.set_cons_zero, List.set_cons_succ]) | (apply wpPlan_skip; rfl; rfl; simp only [Act.put, List.setIfInBounds_toArray, List.set_cons_zero, List.set_cons_succ]) | (apply wpPlan_pass; rfl; rfl; assumption; simp only [Act.put, List.setIfInBounds_toArray, List.set_cons_zero, List.set_cons_succ]))
        apply wpPlan_call; rfl; rfl; rfl; rfl; kernel_rfl; exact HMT.out _; rfl; rintro E w3 ⟨rfl, hb3⟩
        refine ⟨_, rfl, as_S ⟨cell_later hb3 HS.1, cell_later hb3 HS.2.1, cell_later hb3 HS.2.2⟩ ?_⟩
        intro _
        have HC3 := Lib.hid (HC2.out.later (below_later hb3 (below_dn w2 1)))
        have HK3 := Lib.hid (HK2.out.trans (Keep.of (below_later hb3 (below_dn w2 1))))
        clear hb3 HS HS2 c2 HMT
        simp only [Act.put, List.setIfInBounds_toArray, List.set_cons_zero, List.set_cons_succ]
        repeat (first | (apply wpPlan_look; rfl; rfl; (intro wq hq; (try dsimp only at hq); go_split_ands; go_simp; (try rw [if_neg (by omega)]); (try rw [if_pos (by omega)]); try with_reducible rfl); simp only [Act.put, List.setIfInBounds_toArray, List.set_cons_zero, List.set_cons_succ]) | (apply wpPlan_skip; rfl; rfl; simp only [Act.put, List.setIfInBounds_toArray, List.set_cons_zero, List.set_cons_succ]) | (apply wpPlan_pass; rfl; rfl; assumption; simp only [Act.put, List.setIfInBounds_toArray, List.set_cons_zero, List.set_cons_succ]))
        apply wpPlan_done
        by_cases h64 : (meet mt s).enc.length ≤ 64
        · have hz : ¬ (64 < (meet mt s).str.size) := by rw [str_size]; omega
          have HO : Hid (Tr.meetsT sm p t0 K = Tr.meetsT sm p (meet mt s) (K.drop (j + 1 - 1))) := Lib.hid (by rw [HM2.out, if_pos h64])
          have HFM : Hid (meet mt s).fits := Lib.hid h64
          clear h64 HM2
          go_wp2_with fail
          go_roundw
          case rel => exact ⟨j + 1, meet mt s, by omega, by omega, by go_num, rfl, HFM, HO, HC3, HK3⟩
          case measure => simp [intOf]; omega
        · have hz : 64 < (meet mt s).str.size := by rw [str_size]; omega
          have HR : Hid (Tr.meetsT sm p t0 K = .error (21, p)) := Lib.hid (by rw [HM2.out, if_neg h64])
          clear h64 HM2
          go_wp2_with fail
          refine (rno_any c B sm tv _ ys a _ 21 p HC3.out).mono ?_
          rintro E w4 ⟨rfl, h4, k4⟩
          have HC4 := Lib.hid h4
          have HK4 := Lib.hid (HK3.out.trans k4)
          clear h4 k4
          go_wp2_with fail
          go_ret
          rw [HR.out]
          exact ⟨rfl, HC4.out, HK4.out⟩
    · have HR : Hid (Tr.meetsT sm p t0 K = .ok mt) := Lib.hid (by rw [HM.out, List.drop_eq_nil_of_le (by omega)]; rfl)
      generalize Tr.meetsT sm p t0 K = R at *
      clear HM
      go_wp2_with fail
      go_ret
      rw [HR.out]
      exact ⟨rfl, HC.out, HKW.out⟩
end
section
variable (c B : Nat) (sm : Bool) (tv yv : Value) (ys : List ByteArray) (a : Nat) (w : World)
variable (p : Nat) (x : Nd) (p0 p1 p2 : Nat) (t0 t1 t2 : Ty) (K : List (Nat × Ty)) (kv : Value)
set_option maxRecDepth 100000 in
set_option maxHeartbeats 1600000 in
theorem rdata_19 (hk : x.kind = 19) (hK : KidsV c w kv (((p0, t0) :: K).map Prod.fst)) (hT : Told ys ((p0, t0) :: K)) (h : RkAt c B sm tv yv ys 0 a w) :
    Calls Tryz.prog 109 #[.pointer (some ⟨c, 0, none⟩), .int .i64 (p : Int), x.val, kv] w (RkRule c B sm tv yv ys a (Tr.partT p0 t0 44 0) w) := by
  have HM := Lib.hid (fun w' h' => rhead_any c B sm tv yv ys a w' p0 0 t0 (hT _ List.mem_cons_self).2 44 (.inl ⟨.inr rfl, by decide⟩) (hT _ List.mem_cons_self).1 h')
  have HG := Lib.hid (Tr.partT_good p0 t0 44 0)
  generalize Tr.partT p0 t0 44 0 = R at *
  obtain ⟨k, kd, n, s, t, u, l, cl⟩ := x
  obtain rfl : k = 19 := hk
  obtain ⟨g, o, C, rfl, hlC, hg, hkc⟩ := hK.shape
  have HKV := Lib.hid hkc
  have hb0 : Below w.heap.size w (w.alloc (.cells #[.int .i8 19, .int .i64 kd, .int .i64 n, .string s, .string t, .string u, .int .i64 l, .int .i64 cl] 64)) := (Below.refl _ _).alloc (Nat.le_refl _) _
  have HX : Hid (Box w.heap.size (Nd.mk 19 kd n s t u l cl) (w.alloc (.cells #[.int .i8 19, .int .i64 kd, .int .i64 n, .string s, .string t, .string u, .int .i64 l, .int .i64 cl] 64))) := Lib.hid (MapKept.heap_alloc w _).1
  have HC1 := Lib.hid (h.later hb0)
  have HK1 : Hid (Keep c w (w.alloc (.cells #[.int .i8 19, .int .i64 kd, .int .i64 n, .string s, .string t, .string u, .int .i64 l, .int .i64 cl] 64))) := Lib.hid (Keep.of hb0)
  have HCW : Hid (w.heap.size ≠ c) := Lib.hid (by have := h.lt; omega)
  have x0 : ((w.alloc (.cells #[.int .i8 19, .int .i64 kd, .int .i64 n, .string s, .string t, .string u, .int .i64 l, .int .i64 cl] 64))).cell? ⟨w.heap.size, 0, none⟩ = some (.int .i8 19) := HX.out.cell 0
  have x4 : ((w.alloc (.cells #[.int .i8 19, .int .i64 kd, .int .i64 n, .string s, .string t, .string u, .int .i64 l, .int .i64 cl] 64))).cell? ⟨w.heap.size, 4, none⟩ = some (.string t) := HX.out.cell 4
  have x5 : ((w.alloc (.cells #[.int .i8 19, .int .i64 kd, .int .i64 n, .string s, .string t, .string u, .int .i64 l, .int .i64 cl] 64))).cell? ⟨w.heap.size, 5, none⟩ = some (.string u) := HX.out.cell 5
  show Calls Tryz.prog _ #[_, _, .agg #[.int .i8 19, .int .i64 kd, .int .i64 n, .string s, .string t, .string u, .int .i64 l, .int .i64 cl], _] w _
  have hlm : (((p0, t0) :: K : List (Nat × Ty)).map Prod.fst).length = ((p0, t0) :: K : List (Nat × Ty)).length := List.length_map _
  rw [hlm] at hlC ⊢
  clear h hkc hlm hK hb0
  have q0 := HKV.out _ HK1.out 0 p0 rfl
  rw [Nat.add_zero] at q0
  go_enter Tryz.func109, Tryz.ntmps109
  go_wp2_with fail
  refine (HM.out _ HC1.out).mono ?_
  rintro E w2 ⟨rfl, h2, k2⟩
  have HC2 := Lib.hid h2
  have HK2 := Lib.hid (HK1.out.trans k2)
  clear h2 k2 q0 x0 x4 x5
  go_wp2_with fail
  go_ret
  exact RkRule.mk HG.out (fun t ht => by rw [ht]; rfl) HK2.out HC2.out
set_option maxRecDepth 100000 in
set_option maxHeartbeats 1600000 in
theorem rdata_20 (hk : x.kind = 20) (hK : KidsV c w kv (((p0, t0) :: K).map Prod.fst)) (hT : Told ys ((p0, t0) :: K)) (h : RkAt c B sm tv yv ys 0 a w) :
    Calls Tryz.prog 109 #[.pointer (some ⟨c, 0, none⟩), .int .i64 (p : Int), x.val, kv] w (RkRule c B sm tv yv ys a (Tr.partT p0 t0 44 1) w) := by
  have HM := Lib.hid (fun w' h' => rhead_any c B sm tv yv ys a w' p0 1 t0 (hT _ List.mem_cons_self).2 44 (.inl ⟨.inr rfl, by decide⟩) (hT _ List.mem_cons_self).1 h')
  have HG := Lib.hid (Tr.partT_good p0 t0 44 1)
  generalize Tr.partT p0 t0 44 1 = R at *
  obtain ⟨k, kd, n, s, t, u, l, cl⟩ := x
  obtain rfl : k = 20 := hk
  obtain ⟨g, o, C, rfl, hlC, hg, hkc⟩ := hK.shape
  have HKV := Lib.hid hkc
  have hb0 : Below w.heap.size w (w.alloc (.cells #[.int .i8 20, .int .i64 kd, .int .i64 n, .string s, .string t, .string u, .int .i64 l, .int .i64 cl] 64)) := (Below.refl _ _).alloc (Nat.le_refl _) _
  have HX : Hid (Box w.heap.size (Nd.mk 20 kd n s t u l cl) (w.alloc (.cells #[.int .i8 20, .int .i64 kd, .int .i64 n, .string s, .string t, .string u, .int .i64 l, .int .i64 cl] 64))) := Lib.hid (MapKept.heap_alloc w _).1
  have HC1 := Lib.hid (h.later hb0)
  have HK1 : Hid (Keep c w (w.alloc (.cells #[.int .i8 20, .int .i64 kd, .int .i64 n, .string s, .string t, .string u, .int .i64 l, .int .i64 cl] 64))) := Lib.hid (Keep.of hb0)
  have HCW : Hid (w.heap.size ≠ c) := Lib.hid (by have := h.lt; omega)
  have x0 : ((w.alloc (.cells #[.int .i8 20, .int .i64 kd, .int .i64 n, .string s, .string t, .string u, .int .i64 l, .int .i64 cl] 64))).cell? ⟨w.heap.size, 0, none⟩ = some (.int .i8 20) := HX.out.cell 0
  have x4 : ((w.alloc (.cells #[.int .i8 20, .int .i64 kd, .int .i64 n, .string s, .string t, .string u, .int .i64 l, .int .i64 cl] 64))).cell? ⟨w.heap.size, 4, none⟩ = some (.string t) := HX.out.cell 4
  have x5 : ((w.alloc (.cells #[.int .i8 20, .int .i64 kd, .int .i64 n, .string s, .string t, .string u, .int .i64 l, .int .i64 cl] 64))).cell? ⟨w.heap.size, 5, none⟩ = some (.string u) := HX.out.cell 5
  show Calls Tryz.prog _ #[_, _, .agg #[.int .i8 20, .int .i64 kd, .int .i64 n, .string s, .string t, .string u, .int .i64 l, .int .i64 cl], _] w _
  have hlm : (((p0, t0) :: K : List (Nat × Ty)).map Prod.fst).length = ((p0, t0) :: K : List (Nat × Ty)).length := List.length_map _
  rw [hlm] at hlC ⊢
  clear h hkc hlm hK hb0
  have q0 := HKV.out _ HK1.out 0 p0 rfl
  rw [Nat.add_zero] at q0
  go_enter Tryz.func109, Tryz.ntmps109
  go_wp2_with fail
  refine (HM.out _ HC1.out).mono ?_
  rintro E w2 ⟨rfl, h2, k2⟩
  have HC2 := Lib.hid h2
  have HK2 := Lib.hid (HK1.out.trans k2)
  clear h2 k2 q0 x0 x4 x5
  go_wp2_with fail
  go_ret
  exact RkRule.mk HG.out (fun t ht => by rw [ht]; rfl) HK2.out HC2.out
set_option maxRecDepth 100000 in
set_option maxHeartbeats 1600000 in
theorem rdata_22 (hk : x.kind = 22) (hK : KidsV c w kv (((p0, t0) :: K).map Prod.fst)) (hT : Told ys ((p0, t0) :: K)) (h : RkAt c B sm tv yv ys 0 a w) :
    Calls Tryz.prog 109 #[.pointer (some ⟨c, 0, none⟩), .int .i64 (p : Int), x.val, kv] w (RkRule c B sm tv yv ys a (Tr.partT p0 t0 108 0) w) := by
  have HM := Lib.hid (fun w' h' => rhead_any c B sm tv yv ys a w' p0 0 t0 (hT _ List.mem_cons_self).2 108 (.inr ⟨.inl rfl, by decide⟩) (hT _ List.mem_cons_self).1 h')
  have HG := Lib.hid (Tr.partT_good p0 t0 108 0)
  generalize Tr.partT p0 t0 108 0 = R at *
  obtain ⟨k, kd, n, s, t, u, l, cl⟩ := x
  obtain rfl : k = 22 := hk
  obtain ⟨g, o, C, rfl, hlC, hg, hkc⟩ := hK.shape
  have HKV := Lib.hid hkc
  have hb0 : Below w.heap.size w (w.alloc (.cells #[.int .i8 22, .int .i64 kd, .int .i64 n, .string s, .string t, .string u, .int .i64 l, .int .i64 cl] 64)) := (Below.refl _ _).alloc (Nat.le_refl _) _
  have HX : Hid (Box w.heap.size (Nd.mk 22 kd n s t u l cl) (w.alloc (.cells #[.int .i8 22, .int .i64 kd, .int .i64 n, .string s, .string t, .string u, .int .i64 l, .int .i64 cl] 64))) := Lib.hid (MapKept.heap_alloc w _).1
  have HC1 := Lib.hid (h.later hb0)
  have HK1 : Hid (Keep c w (w.alloc (.cells #[.int .i8 22, .int .i64 kd, .int .i64 n, .string s, .string t, .string u, .int .i64 l, .int .i64 cl] 64))) := Lib.hid (Keep.of hb0)
  have HCW : Hid (w.heap.size ≠ c) := Lib.hid (by have := h.lt; omega)
  have x0 : ((w.alloc (.cells #[.int .i8 22, .int .i64 kd, .int .i64 n, .string s, .string t, .string u, .int .i64 l, .int .i64 cl] 64))).cell? ⟨w.heap.size, 0, none⟩ = some (.int .i8 22) := HX.out.cell 0
  have x4 : ((w.alloc (.cells #[.int .i8 22, .int .i64 kd, .int .i64 n, .string s, .string t, .string u, .int .i64 l, .int .i64 cl] 64))).cell? ⟨w.heap.size, 4, none⟩ = some (.string t) := HX.out.cell 4
  have x5 : ((w.alloc (.cells #[.int .i8 22, .int .i64 kd, .int .i64 n, .string s, .string t, .string u, .int .i64 l, .int .i64 cl] 64))).cell? ⟨w.heap.size, 5, none⟩ = some (.string u) := HX.out.cell 5
  show Calls Tryz.prog _ #[_, _, .agg #[.int .i8 22, .int .i64 kd, .int .i64 n, .string s, .string t, .string u, .int .i64 l, .int .i64 cl], _] w _
  have hlm : (((p0, t0) :: K : List (Nat × Ty)).map Prod.fst).length = ((p0, t0) :: K : List (Nat × Ty)).length := List.length_map _
  rw [hlm] at hlC ⊢
  clear h hkc hlm hK hb0
  have q0 := HKV.out _ HK1.out 0 p0 rfl
  rw [Nat.add_zero] at q0
  go_enter Tryz.func109, Tryz.ntmps109
  go_wp2_with fail
  refine (HM.out _ HC1.out).mono ?_
  rintro E w2 ⟨rfl, h2, k2⟩
  have HC2 := Lib.hid h2
  have HK2 := Lib.hid (HK1.out.trans k2)
  clear h2 k2 q0 x0 x4 x5
  go_wp2_with fail
  go_ret
  exact RkRule.mk HG.out (fun t ht => by rw [ht]; rfl) HK2.out HC2.out
set_option maxRecDepth 100000 in
set_option maxHeartbeats 1600000 in
theorem rdata_27 (hk : x.kind = 27) (hK : KidsV c w kv (((p0, t0) :: K).map Prod.fst)) (hT : Told ys ((p0, t0) :: K)) (h : RkAt c B sm tv yv ys 0 a w) :
    Calls Tryz.prog 109 #[.pointer (some ⟨c, 0, none⟩), .int .i64 (p : Int), x.val, kv] w (RkRule c B sm tv yv ys a (Tr.partT p0 t0 120 0) w) := by
  have HM := Lib.hid (fun w' h' => rhead_any c B sm tv yv ys a w' p0 0 t0 (hT _ List.mem_cons_self).2 120 (.inr ⟨.inr rfl, by decide⟩) (hT _ List.mem_cons_self).1 h')
  have HG := Lib.hid (Tr.partT_good p0 t0 120 0)
  generalize Tr.partT p0 t0 120 0 = R at *
  obtain ⟨k, kd, n, s, t, u, l, cl⟩ := x
  obtain rfl : k = 27 := hk
  obtain ⟨g, o, C, rfl, hlC, hg, hkc⟩ := hK.shape
  have HKV := Lib.hid hkc
  have hb0 : Below w.heap.size w (w.alloc (.cells #[.int .i8 27, .int .i64 kd, .int .i64 n, .string s, .string t, .string u, .int .i64 l, .int .i64 cl] 64)) := (Below.refl _ _).alloc (Nat.le_refl _) _
  have HX : Hid (Box w.heap.size (Nd.mk 27 kd n s t u l cl) (w.alloc (.cells #[.int .i8 27, .int .i64 kd, .int .i64 n, .string s, .string t, .string u, .int .i64 l, .int .i64 cl] 64))) := Lib.hid (MapKept.heap_alloc w _).1
  have HC1 := Lib.hid (h.later hb0)
  have HK1 : Hid (Keep c w (w.alloc (.cells #[.int .i8 27, .int .i64 kd, .int .i64 n, .string s, .string t, .string u, .int .i64 l, .int .i64 cl] 64))) := Lib.hid (Keep.of hb0)
  have HCW : Hid (w.heap.size ≠ c) := Lib.hid (by have := h.lt; omega)
  have x0 : ((w.alloc (.cells #[.int .i8 27, .int .i64 kd, .int .i64 n, .string s, .string t, .string u, .int .i64 l, .int .i64 cl] 64))).cell? ⟨w.heap.size, 0, none⟩ = some (.int .i8 27) := HX.out.cell 0
  have x4 : ((w.alloc (.cells #[.int .i8 27, .int .i64 kd, .int .i64 n, .string s, .string t, .string u, .int .i64 l, .int .i64 cl] 64))).cell? ⟨w.heap.size, 4, none⟩ = some (.string t) := HX.out.cell 4
  have x5 : ((w.alloc (.cells #[.int .i8 27, .int .i64 kd, .int .i64 n, .string s, .string t, .string u, .int .i64 l, .int .i64 cl] 64))).cell? ⟨w.heap.size, 5, none⟩ = some (.string u) := HX.out.cell 5
  show Calls Tryz.prog _ #[_, _, .agg #[.int .i8 27, .int .i64 kd, .int .i64 n, .string s, .string t, .string u, .int .i64 l, .int .i64 cl], _] w _
  have hlm : (((p0, t0) :: K : List (Nat × Ty)).map Prod.fst).length = ((p0, t0) :: K : List (Nat × Ty)).length := List.length_map _
  rw [hlm] at hlC ⊢
  clear h hkc hlm hK hb0
  have q0 := HKV.out _ HK1.out 0 p0 rfl
  rw [Nat.add_zero] at q0
  go_enter Tryz.func109, Tryz.ntmps109
  go_wp2_with fail
  refine (HM.out _ HC1.out).mono ?_
  rintro E w2 ⟨rfl, h2, k2⟩
  have HC2 := Lib.hid h2
  have HK2 := Lib.hid (HK1.out.trans k2)
  clear h2 k2 q0 x0 x4 x5
  go_wp2_with fail
  go_ret
  exact RkRule.mk HG.out (fun t ht => by rw [ht]; rfl) HK2.out HC2.out
set_option maxRecDepth 100000 in
set_option maxHeartbeats 1600000 in
theorem rdata_23 (hk : x.kind = 23) (hK : KidsV c w kv (((p0, t0) :: K).map Prod.fst)) (hT : Told ys ((p0, t0) :: K)) (h : RkAt c B sm tv yv ys 0 a w) :
    Calls Tryz.prog 109 #[.pointer (some ⟨c, 0, none⟩), .int .i64 (p : Int), x.val, kv] w (RkRule c B sm tv yv ys a ((Tr.partT p0 t0 108 0).map .list) w) := by
  have HM := Lib.hid (fun w' h' => rhead_any c B sm tv yv ys a w' p0 0 t0 (hT _ List.mem_cons_self).2 108 (.inr ⟨.inl rfl, by decide⟩) (hT _ List.mem_cons_self).1 h')
  have HG := Lib.hid (Tr.partT_good p0 t0 108 0)
  have hz := Tr.strQ_size (Tr.partT_fits (p := p0) (h := 108) (k := 0) (hT _ List.mem_cons_self).2)
  generalize Tr.partT p0 t0 108 0 = R at *
  obtain ⟨k, kd, n, s, t, u, l, cl⟩ := x
  obtain rfl : k = 23 := hk
  obtain ⟨g, o, C, rfl, hlC, hg, hkc⟩ := hK.shape
  have HKV := Lib.hid hkc
  have hb0 : Below w.heap.size w (w.alloc (.cells #[.int .i8 23, .int .i64 kd, .int .i64 n, .string s, .string t, .string u, .int .i64 l, .int .i64 cl] 64)) := (Below.refl _ _).alloc (Nat.le_refl _) _
  have HX : Hid (Box w.heap.size (Nd.mk 23 kd n s t u l cl) (w.alloc (.cells #[.int .i8 23, .int .i64 kd, .int .i64 n, .string s, .string t, .string u, .int .i64 l, .int .i64 cl] 64))) := Lib.hid (MapKept.heap_alloc w _).1
  have HC1 := Lib.hid (h.later hb0)
  have HK1 : Hid (Keep c w (w.alloc (.cells #[.int .i8 23, .int .i64 kd, .int .i64 n, .string s, .string t, .string u, .int .i64 l, .int .i64 cl] 64))) := Lib.hid (Keep.of hb0)
  have HCW : Hid (w.heap.size ≠ c) := Lib.hid (by have := h.lt; omega)
  have x0 : ((w.alloc (.cells #[.int .i8 23, .int .i64 kd, .int .i64 n, .string s, .string t, .string u, .int .i64 l, .int .i64 cl] 64))).cell? ⟨w.heap.size, 0, none⟩ = some (.int .i8 23) := HX.out.cell 0
  have x4 : ((w.alloc (.cells #[.int .i8 23, .int .i64 kd, .int .i64 n, .string s, .string t, .string u, .int .i64 l, .int .i64 cl] 64))).cell? ⟨w.heap.size, 4, none⟩ = some (.string t) := HX.out.cell 4
  have x5 : ((w.alloc (.cells #[.int .i8 23, .int .i64 kd, .int .i64 n, .string s, .string t, .string u, .int .i64 l, .int .i64 cl] 64))).cell? ⟨w.heap.size, 5, none⟩ = some (.string u) := HX.out.cell 5
  show Calls Tryz.prog _ #[_, _, .agg #[.int .i8 23, .int .i64 kd, .int .i64 n, .string s, .string t, .string u, .int .i64 l, .int .i64 cl], _] w _
  have hlm : (((p0, t0) :: K : List (Nat × Ty)).map Prod.fst).length = ((p0, t0) :: K : List (Nat × Ty)).length := List.length_map _
  rw [hlm] at hlC ⊢
  clear h hkc hlm hK hb0
  have q0 := HKV.out _ HK1.out 0 p0 rfl
  rw [Nat.add_zero] at q0
  go_enter Tryz.func109, Tryz.ntmps109
  go_wp2_with fail
  refine (HM.out _ HC1.out).mono ?_
  rintro E w2 ⟨rfl, h2, k2⟩
  have HC2 := Lib.hid h2
  have HK2 := Lib.hid (HK1.out.trans k2)
  clear h2 k2 q0 x0 x4 x5
  go_wp2_with fail
  go_ret
  exact RkRule.mkM HG.out (fun t ht => by rw [ht]; exact list_str _) HK2.out HC2.out
set_option maxRecDepth 100000 in
set_option maxHeartbeats 1600000 in
theorem rdata_24 (hk : x.kind = 24) (hK : KidsV c w kv (((p0, t0) :: K).map Prod.fst)) (hT : Told ys ((p0, t0) :: K)) (h : RkAt c B sm tv yv ys 0 a w) :
    Calls Tryz.prog 109 #[.pointer (some ⟨c, 0, none⟩), .int .i64 (p : Int), x.val, kv] w (RkRule c B sm tv yv ys a ((Tr.partT p0 t0 108 0).map fun _ => .bool) w) := by
  have HM := Lib.hid (fun w' h' => rhead_any c B sm tv yv ys a w' p0 0 t0 (hT _ List.mem_cons_self).2 108 (.inr ⟨.inl rfl, by decide⟩) (hT _ List.mem_cons_self).1 h')
  have HG := Lib.hid (Tr.partT_good p0 t0 108 0)
  generalize Tr.partT p0 t0 108 0 = R at *
  obtain ⟨k, kd, n, s, t, u, l, cl⟩ := x
  obtain rfl : k = 24 := hk
  obtain ⟨g, o, C, rfl, hlC, hg, hkc⟩ := hK.shape
  have HKV := Lib.hid hkc
  have hb0 : Below w.heap.size w (w.alloc (.cells #[.int .i8 24, .int .i64 kd, .int .i64 n, .string s, .string t, .string u, .int .i64 l, .int .i64 cl] 64)) := (Below.refl _ _).alloc (Nat.le_refl _) _
  have HX : Hid (Box w.heap.size (Nd.mk 24 kd n s t u l cl) (w.alloc (.cells #[.int .i8 24, .int .i64 kd, .int .i64 n, .string s, .string t, .string u, .int .i64 l, .int .i64 cl] 64))) := Lib.hid (MapKept.heap_alloc w _).1
  have HC1 := Lib.hid (h.later hb0)
  have HK1 : Hid (Keep c w (w.alloc (.cells #[.int .i8 24, .int .i64 kd, .int .i64 n, .string s, .string t, .string u, .int .i64 l, .int .i64 cl] 64))) := Lib.hid (Keep.of hb0)
  have HCW : Hid (w.heap.size ≠ c) := Lib.hid (by have := h.lt; omega)
  have x0 : ((w.alloc (.cells #[.int .i8 24, .int .i64 kd, .int .i64 n, .string s, .string t, .string u, .int .i64 l, .int .i64 cl] 64))).cell? ⟨w.heap.size, 0, none⟩ = some (.int .i8 24) := HX.out.cell 0
  have x4 : ((w.alloc (.cells #[.int .i8 24, .int .i64 kd, .int .i64 n, .string s, .string t, .string u, .int .i64 l, .int .i64 cl] 64))).cell? ⟨w.heap.size, 4, none⟩ = some (.string t) := HX.out.cell 4
  have x5 : ((w.alloc (.cells #[.int .i8 24, .int .i64 kd, .int .i64 n, .string s, .string t, .string u, .int .i64 l, .int .i64 cl] 64))).cell? ⟨w.heap.size, 5, none⟩ = some (.string u) := HX.out.cell 5
  show Calls Tryz.prog _ #[_, _, .agg #[.int .i8 24, .int .i64 kd, .int .i64 n, .string s, .string t, .string u, .int .i64 l, .int .i64 cl], _] w _
  have hlm : (((p0, t0) :: K : List (Nat × Ty)).map Prod.fst).length = ((p0, t0) :: K : List (Nat × Ty)).length := List.length_map _
  rw [hlm] at hlC ⊢
  clear h hkc hlm hK hb0
  have q0 := HKV.out _ HK1.out 0 p0 rfl
  rw [Nat.add_zero] at q0
  go_enter Tryz.func109, Tryz.ntmps109
  go_wp2_with fail
  refine (HM.out _ HC1.out).mono ?_
  rintro E w2 ⟨rfl, h2, k2⟩
  have HC2 := Lib.hid h2
  have HK2 := Lib.hid (HK1.out.trans k2)
  clear h2 k2 q0 x0 x4 x5
  go_wp2_with fail
  go_ret
  exact RkRule.mkM HG.out (fun t ht => rfl) HK2.out HC2.out
set_option maxRecDepth 100000 in
set_option maxHeartbeats 1600000 in
theorem rdata_26 (hk : x.kind = 26) (hK : KidsV c w kv (((p0, t0) :: K).map Prod.fst)) (hT : Told ys ((p0, t0) :: K)) (h : RkAt c B sm tv yv ys 0 a w) :
    Calls Tryz.prog 109 #[.pointer (some ⟨c, 0, none⟩), .int .i64 (p : Int), x.val, kv] w (RkRule c B sm tv yv ys a (.ok (.box t0)) w) := by
  have HT0 := Lib.hid (hT _ List.mem_cons_self)
  obtain ⟨k, kd, n, s, t, u, l, cl⟩ := x
  obtain rfl : k = 26 := hk
  obtain ⟨g, o, C, rfl, hlC, hg, hkc⟩ := hK.shape
  have HKV := Lib.hid hkc
  have hb0 : Below w.heap.size w (w.alloc (.cells #[.int .i8 26, .int .i64 kd, .int .i64 n, .string s, .string t, .string u, .int .i64 l, .int .i64 cl] 64)) := (Below.refl _ _).alloc (Nat.le_refl _) _
  have HX : Hid (Box w.heap.size (Nd.mk 26 kd n s t u l cl) (w.alloc (.cells #[.int .i8 26, .int .i64 kd, .int .i64 n, .string s, .string t, .string u, .int .i64 l, .int .i64 cl] 64))) := Lib.hid (MapKept.heap_alloc w _).1
  have HC1 := Lib.hid (h.later hb0)
  have HK1 : Hid (Keep c w (w.alloc (.cells #[.int .i8 26, .int .i64 kd, .int .i64 n, .string s, .string t, .string u, .int .i64 l, .int .i64 cl] 64))) := Lib.hid (Keep.of hb0)
  have HCW : Hid (w.heap.size ≠ c) := Lib.hid (by have := h.lt; omega)
  have x0 : ((w.alloc (.cells #[.int .i8 26, .int .i64 kd, .int .i64 n, .string s, .string t, .string u, .int .i64 l, .int .i64 cl] 64))).cell? ⟨w.heap.size, 0, none⟩ = some (.int .i8 26) := HX.out.cell 0
  have x4 : ((w.alloc (.cells #[.int .i8 26, .int .i64 kd, .int .i64 n, .string s, .string t, .string u, .int .i64 l, .int .i64 cl] 64))).cell? ⟨w.heap.size, 4, none⟩ = some (.string t) := HX.out.cell 4
  have x5 : ((w.alloc (.cells #[.int .i8 26, .int .i64 kd, .int .i64 n, .string s, .string t, .string u, .int .i64 l, .int .i64 cl] 64))).cell? ⟨w.heap.size, 5, none⟩ = some (.string u) := HX.out.cell 5
  show Calls Tryz.prog _ #[_, _, .agg #[.int .i8 26, .int .i64 kd, .int .i64 n, .string s, .string t, .string u, .int .i64 l, .int .i64 cl], _] w _
  have hlm : (((p0, t0) :: K : List (Nat × Ty)).map Prod.fst).length = ((p0, t0) :: K : List (Nat × Ty)).length := List.length_map _
  rw [hlm] at hlC ⊢
  clear h hkc hlm hK hb0
  have q0 := HKV.out _ HK1.out 0 p0 rfl
  rw [Nat.add_zero] at q0
  obtain ⟨gy, Cy, rfl, r0, hl0, -⟩ := HC1.out.read HT0.out.1
  have c1 := HC1.out.c1
  have z0 : t0.str.size ≤ 64 := by rw [str_size]; exact HT0.out.2
  have HC2 := Lib.hid (fun nq => HC1.out.later (below_dn _ nq))
  have HK2 := Lib.hid (fun nq => HK1.out.trans (Keep.of (below_dn _ nq)))
  go_enter Tryz.func109, Tryz.ntmps109
  go_wp2_with fail
  go_quiet (fail)
  go_wp2_with fail
  go_ret
  exact RkRule.mk (r := .ok _) (Tr.good_ok _) (fun t ht => by injection ht with ht; subst ht; exact box_str _) (HK2.out _) (HC2.out _)
set_option maxRecDepth 100000 in
set_option maxHeartbeats 1600000 in
theorem rdata_18 (hk : x.kind = 18) (hK : KidsV c w kv (([(p0, t0), (p1, t1)]).map Prod.fst)) (hT : Told ys ([(p0, t0), (p1, t1)])) (h : RkAt c B sm tv yv ys 0 a w) :
    Calls Tryz.prog 109 #[.pointer (some ⟨c, 0, none⟩), .int .i64 (p : Int), x.val, kv] w (RkRule c B sm tv yv ys a (.ok (.pair t0 t1)) w) := by
  have HT0 := Lib.hid (hT _ List.mem_cons_self)
  have HT1 := Lib.hid (hT (p1, t1) (by simp))
  obtain ⟨k, kd, n, s, t, u, l, cl⟩ := x
  obtain rfl : k = 18 := hk
  obtain ⟨g, o, C, rfl, hlC, hg, hkc⟩ := hK.shape
  have HKV := Lib.hid hkc
  have hb0 : Below w.heap.size w (w.alloc (.cells #[.int .i8 18, .int .i64 kd, .int .i64 n, .string s, .string t, .string u, .int .i64 l, .int .i64 cl] 64)) := (Below.refl _ _).alloc (Nat.le_refl _) _
  have HX : Hid (Box w.heap.size (Nd.mk 18 kd n s t u l cl) (w.alloc (.cells #[.int .i8 18, .int .i64 kd, .int .i64 n, .string s, .string t, .string u, .int .i64 l, .int .i64 cl] 64))) := Lib.hid (MapKept.heap_alloc w _).1
  have HC1 := Lib.hid (h.later hb0)
  have HK1 : Hid (Keep c w (w.alloc (.cells #[.int .i8 18, .int .i64 kd, .int .i64 n, .string s, .string t, .string u, .int .i64 l, .int .i64 cl] 64))) := Lib.hid (Keep.of hb0)
  have HCW : Hid (w.heap.size ≠ c) := Lib.hid (by have := h.lt; omega)
  have x0 : ((w.alloc (.cells #[.int .i8 18, .int .i64 kd, .int .i64 n, .string s, .string t, .string u, .int .i64 l, .int .i64 cl] 64))).cell? ⟨w.heap.size, 0, none⟩ = some (.int .i8 18) := HX.out.cell 0
  have x4 : ((w.alloc (.cells #[.int .i8 18, .int .i64 kd, .int .i64 n, .string s, .string t, .string u, .int .i64 l, .int .i64 cl] 64))).cell? ⟨w.heap.size, 4, none⟩ = some (.string t) := HX.out.cell 4
  have x5 : ((w.alloc (.cells #[.int .i8 18, .int .i64 kd, .int .i64 n, .string s, .string t, .string u, .int .i64 l, .int .i64 cl] 64))).cell? ⟨w.heap.size, 5, none⟩ = some (.string u) := HX.out.cell 5
  show Calls Tryz.prog _ #[_, _, .agg #[.int .i8 18, .int .i64 kd, .int .i64 n, .string s, .string t, .string u, .int .i64 l, .int .i64 cl], _] w _
  have hlm : (([(p0, t0), (p1, t1)] : List (Nat × Ty)).map Prod.fst).length = ([(p0, t0), (p1, t1)] : List (Nat × Ty)).length := List.length_map _
  rw [hlm] at hlC ⊢
  clear h hkc hlm hK hb0
  have q0 := HKV.out _ HK1.out 0 p0 rfl
  rw [Nat.add_zero] at q0
  have q1 := HKV.out _ HK1.out 1 p1 rfl
  obtain ⟨gy, Cy, rfl, r0, hl0, -⟩ := HC1.out.read HT0.out.1
  have r1 := HC1.out.cell HT1.out.1
  have hl1 : p1 < ys.length := (List.getElem?_eq_some_iff.1 HT1.out.1).1
  have c1 := HC1.out.c1
  have z0 : t0.str.size ≤ 64 := by rw [str_size]; exact HT0.out.2
  have z1 : t1.str.size ≤ 64 := by rw [str_size]; exact HT1.out.2
  have HC2 := Lib.hid (fun nq => HC1.out.later (below_dn _ nq))
  have HK2 := Lib.hid (fun nq => HK1.out.trans (Keep.of (below_dn _ nq)))
  go_enter Tryz.func109, Tryz.ntmps109
  go_wp2_with fail
  go_quiet (fail)
  go_wp2_with fail
  go_ret
  exact RkRule.mk (r := .ok _) (Tr.good_ok _) (fun t ht => by injection ht with ht; subst ht; exact pair_str _ _) (HK2.out _) (HC2.out _)
set_option maxRecDepth 100000 in
set_option maxHeartbeats 1600000 in
theorem rdata_21 (hk : x.kind = 21) (hK : KidsV c w kv (((p0, t0) :: K).map Prod.fst)) (hT : Told ys ((p0, t0) :: K)) (h : RkAt c B sm tv yv ys 0 a w) (hKl : K.length ≤ 1000000):
    Calls Tryz.prog 109 #[.pointer (some ⟨c, 0, none⟩), .int .i64 (p : Int), x.val, kv] w (RkRule c B sm tv yv ys a ((Tr.meetsT sm p t0 K).map .list) w) := by
  have HM := Lib.hid (fun v w' h' hk' => rmeets_any c B sm tv yv ys a w' p p0 t0 K v hk' hT hKl h')
  have HG := Lib.hid (Tr.meetsT_good (same := sm) (p := p) K t0)
  have hz := Tr.strQ_size (Tr.meetsT_fits (same := sm) (p := p) K (hT _ List.mem_cons_self).2)
  have HKV4 : Hid (∀ w', Keep c w w' → KidsV c w' kv (p0 :: K.map Prod.fst)) := Lib.hid (fun w' k => hK.keep k)
  generalize Tr.meetsT sm p t0 K = R at *
  obtain ⟨k, kd, n, s, t, u, l, cl⟩ := x
  obtain rfl : k = 21 := hk
  obtain ⟨g, o, C, rfl, hlC, hg, hkc⟩ := hK.shape
  have HKV := Lib.hid hkc
  have hb0 : Below w.heap.size w (w.alloc (.cells #[.int .i8 21, .int .i64 kd, .int .i64 n, .string s, .string t, .string u, .int .i64 l, .int .i64 cl] 64)) := (Below.refl _ _).alloc (Nat.le_refl _) _
  have HX : Hid (Box w.heap.size (Nd.mk 21 kd n s t u l cl) (w.alloc (.cells #[.int .i8 21, .int .i64 kd, .int .i64 n, .string s, .string t, .string u, .int .i64 l, .int .i64 cl] 64))) := Lib.hid (MapKept.heap_alloc w _).1
  have HC1 := Lib.hid (h.later hb0)
  have HK1 : Hid (Keep c w (w.alloc (.cells #[.int .i8 21, .int .i64 kd, .int .i64 n, .string s, .string t, .string u, .int .i64 l, .int .i64 cl] 64))) := Lib.hid (Keep.of hb0)
  have HCW : Hid (w.heap.size ≠ c) := Lib.hid (by have := h.lt; omega)
  have x0 : ((w.alloc (.cells #[.int .i8 21, .int .i64 kd, .int .i64 n, .string s, .string t, .string u, .int .i64 l, .int .i64 cl] 64))).cell? ⟨w.heap.size, 0, none⟩ = some (.int .i8 21) := HX.out.cell 0
  have x4 : ((w.alloc (.cells #[.int .i8 21, .int .i64 kd, .int .i64 n, .string s, .string t, .string u, .int .i64 l, .int .i64 cl] 64))).cell? ⟨w.heap.size, 4, none⟩ = some (.string t) := HX.out.cell 4
  have x5 : ((w.alloc (.cells #[.int .i8 21, .int .i64 kd, .int .i64 n, .string s, .string t, .string u, .int .i64 l, .int .i64 cl] 64))).cell? ⟨w.heap.size, 5, none⟩ = some (.string u) := HX.out.cell 5
  show Calls Tryz.prog _ #[_, _, .agg #[.int .i8 21, .int .i64 kd, .int .i64 n, .string s, .string t, .string u, .int .i64 l, .int .i64 cl], _] w _
  have hlm : (((p0, t0) :: K : List (Nat × Ty)).map Prod.fst).length = ((p0, t0) :: K : List (Nat × Ty)).length := List.length_map _
  rw [hlm] at hlC ⊢
  clear h hkc hlm hK hb0
  simp only [List.map_cons, List.length_cons, List.length_map] at HKV4
  have hl0 : (((K.length + 1 : Nat) : Int) == 0) = false := beq_eq_false_iff_ne.2 (by omega)
  have HMM := Lib.hid (HM.out _ _ HC1.out (HKV4.out _ HK1.out))
  go_enter Tryz.func109, Tryz.ntmps109
  go_wp2_with fail
  refine HMM.out.mono ?_
  rintro E w2 ⟨rfl, h2, k2⟩
  have HC2 := Lib.hid h2
  have HK2 := Lib.hid (HK1.out.trans k2)
  clear h2 k2 x0 x4 x5
  go_wp2_with fail
  go_ret
  exact RkRule.mkM HG.out (fun t ht => by rw [ht]; exact list_str _) HK2.out HC2.out
set_option maxRecDepth 100000 in
set_option maxHeartbeats 1600000 in
theorem rdata_21e (A0 : Option Addr) (C0 : Nat) (hk : x.kind = 21) (hK : kv = .slice A0 0 C0) (h : RkAt c B sm tv yv ys 0 a w) :
    Calls Tryz.prog 109 #[.pointer (some ⟨c, 0, none⟩), .int .i64 (p : Int), x.val, kv] w (RkRule c B sm tv yv ys a (.ok (.list .dyn)) w) := by
  obtain ⟨k, kd, n, s, t, u, l, cl⟩ := x
  obtain rfl : k = 21 := hk
  subst hK
  have hb0 : Below w.heap.size w (w.alloc (.cells #[.int .i8 21, .int .i64 kd, .int .i64 n, .string s, .string t, .string u, .int .i64 l, .int .i64 cl] 64)) := (Below.refl _ _).alloc (Nat.le_refl _) _
  have HX : Hid (Box w.heap.size (Nd.mk 21 kd n s t u l cl) (w.alloc (.cells #[.int .i8 21, .int .i64 kd, .int .i64 n, .string s, .string t, .string u, .int .i64 l, .int .i64 cl] 64))) := Lib.hid (MapKept.heap_alloc w _).1
  have HC1 := Lib.hid (h.later hb0)
  have HK1 : Hid (Keep c w (w.alloc (.cells #[.int .i8 21, .int .i64 kd, .int .i64 n, .string s, .string t, .string u, .int .i64 l, .int .i64 cl] 64))) := Lib.hid (Keep.of hb0)
  have x0 : ((w.alloc (.cells #[.int .i8 21, .int .i64 kd, .int .i64 n, .string s, .string t, .string u, .int .i64 l, .int .i64 cl] 64))).cell? ⟨w.heap.size, 0, none⟩ = some (.int .i8 21) := HX.out.cell 0
  show Calls Tryz.prog _ #[_, _, .agg #[.int .i8 21, .int .i64 kd, .int .i64 n, .string s, .string t, .string u, .int .i64 l, .int .i64 cl], _] w _
  clear h hb0
  go_enter Tryz.func109, Tryz.ntmps109
  go_wp2_with fail
  go_ret
  exact RkRule.mk (r := .ok _) (Tr.good_ok _) (fun t ht => by injection ht with ht; subst ht; rfl) HK1.out HC1.out
end
end Go.Proofs.YtdobaililmkkcaaGreatDoor
