/- Walks of package core: the rules, kind by kind: choice, operations, lists. -/
import Derived.Test.YtnmhiddahfnkoaaCoreQ
namespace Go.Proofs.Ytnmhiddahfnkoaa
set_option linter.unusedSimpArgs false
set_option linter.unusedVariables false
open Go.RowKit Culp

theorem bool_str : (Ty.bool.str.toList == [98]) = true := by rw [toL]; rfl
theorem str_bool {q : Ty} (h : q ≠ .bool) : (q.str.toList == [98]) = false := by
  rw [toL, str_list, beq_eq_false_iff_ne]
  intro e
  exact h (enc_inj e)

set_option maxHeartbeats 1600000 in
theorem choice_any (cp : Value) (k kd n : Int) (s t u : ByteArray) (l c : Int) (q x y : Ty) (g cap p : Nat) (w : World) (hk0 : w.cell? ⟨g, 0, none⟩ = some (.string q.str)) (hk1 : w.cell? ⟨g, 1, none⟩ = some (.string x.str)) (hk2 : w.cell? ⟨g, 2, none⟩ = some (.string y.str)) :
    Calls Try.prog 35 #[cp, (Nd.mk k kd n s t u l c).val, .slice (some ⟨g, 0, none⟩) 3 cap, .int .i64 p] w (RuleRes (needM (q == .bool && x == y) 23 x) p w) := by
  unfold Nd.val Nd.cells
  have hB0 : ∀ o, Below w.heap.size w (w.alloc o) := fun o => (Below.refl _ _).alloc (Nat.le_refl _) o
  have he := str_eqv x y
  by_cases hq : q = .bool <;> by_cases h : x = y
  all_goals
    first
      | (have hb := str_bool hq)
      | (have hb := bool_str; rw [← hq] at hb)
    first
      | rw [decide_eq_true h] at he
      | rw [decide_eq_false h] at he
    have H := Lib.hid h
    have HQ := Lib.hid hq
    clear h hq
    go_enter Try.func35, Try.ntmps35
    go_wp2_with fail
    refine wp_region_plan (S := fun w' => w'.cell? ⟨g, 0, none⟩ = some (.string q.str) ∧ w'.cell? ⟨g, 1, none⟩ = some (.string x.str) ∧ w'.cell? ⟨g, 2, none⟩ = some (.string y.str) ∧ Below w.heap.size w w')
      [(0, true), (1, true), (2, true), (3, true), (4, true), (5, true), (6, true), (7, true), (8, true), (9, true), (10, true), (11, true), (12, true), (13, true), (14, false)] (by kernel_rfl) (by kernel_rfl) (by kernel_rfl) (fun _ _ _ _ _ h => h) ⟨cell_later (hB0 _).drew hk0, cell_later (hB0 _).drew hk1, cell_later (hB0 _).drew hk2, (hB0 _).drew⟩ ?_
    intro HS
    have hB := HS.2.2.2
    have hr1 := HS.2.1
    clear hk0 hk1 hk2
    repeat (first | (apply wpPlan_look; rfl; rfl; (intro wq hq; (try dsimp only at hq); go_split_ands; go_simp; (try rw [if_neg (by omega)]); try with_reducible rfl); simp only [Act.put, List.setIfInBounds_toArray, List.set_cons_zero, List.set_cons_succ]) | (apply wpPlan_skip; rfl; rfl; simp only [Act.put, List.setIfInBounds_toArray, List.set_cons_zero, List.set_cons_succ]) | (apply wpPlan_pass; rfl; rfl; assumption; simp only [Act.put, List.setIfInBounds_toArray, List.set_cons_zero, List.set_cons_succ]))
    first
      | (apply wpPlan_call2; rfl; rfl; rfl; rfl; kernel_rfl; exact need_yes 23 p _; rfl; rintro e w' ⟨rfl, rfl⟩
         refine .inl ⟨_, rfl, HS, ?_⟩
         simp only [Act.put, List.setIfInBounds_toArray, List.set_cons_zero, List.set_cons_succ]
         apply wpPlan_done
         go_wp2
         go_ret
         exact RuleRes.ok_ (by simp [needM, H.out, HQ.out]) rfl hB)
      | (apply wpPlan_call2; rfl; rfl; rfl; rfl; kernel_rfl; exact need_no 23 p _; rfl; rintro e w' ⟨rfl, rfl⟩
         refine .inr ⟨_, rfl, ?_⟩
         exact ⟨rfl, RuleRes.bad (by simp [needM, H.out, HQ.out]) hB⟩)

theorem all_split (kid : Ty) : ∀ (ks : List Ty) (j : Nat), ((ks.drop j).all (· == kid)) = (match ks[j]? with | none => true | some q => (q == kid) && ((ks.drop (j + 1)).all (· == kid)))
  | [], j => by simp
  | k :: ks, 0 => by simp
  | k :: ks, j + 1 => by simpa using all_split kid ks j

/- 'all': every kid is of one type; the two types lie in variables of their own. -/
set_option maxHeartbeats 1600000 in
theorem all1_any (cp : Value) (k kd n : Int) (s t u : ByteArray) (l c : Int) (kid to : Ty) (ks : List Ty) (kv : Value) (a b p : Nat) (w : World) (hks : Tys w kv ks) (hlen : ks.length ≤ 100000)
    (ha : w.cell? ⟨a, 0, none⟩ = some (.string kid.str)) (hb : w.cell? ⟨b, 0, none⟩ = some (.string to.str)) :
    Calls Try.prog 51 #[cp, (Nd.mk k kd n s t u l c).val, kv, .int .i64 p, .pointer (some ⟨a, 0, none⟩), .pointer (some ⟨b, 0, none⟩)] w (RuleRes (needM (ks.all (· == kid)) 23 to) p w) := by
  unfold Nd.val Nd.cells
  have hB0 : ∀ o, Below w.heap.size w (w.alloc o) := fun o => (Below.refl _ _).alloc (Nat.le_refl _) o
  have hform : ∃ A cap, kv = .slice A ks.length cap ∧ (0 < ks.length → ∃ g, A = some ⟨g, 0, none⟩ ∧ ∀ i (h : i < ks.length), w.cell? ⟨g, i, none⟩ = some (.string (ks[i]).str)) := by
    rcases hks with ⟨rfl, rfl⟩ | ⟨g, cap, rfl, hc⟩
    · exact ⟨none, 0, rfl, fun h => by simp at h⟩
    · exact ⟨_, cap, rfl, fun _ => ⟨g, rfl, hc⟩⟩
  obtain ⟨A, cap, rfl, hc⟩ := hform
  have HC := Lib.hid hc
  have ha2 : ∀ o, (w.alloc o).cell? ⟨a, 0, none⟩ = some (.string kid.str) := fun o => cell_later (hB0 o) ha
  have hb2 : ∀ o, (w.alloc o).cell? ⟨b, 0, none⟩ = some (.string to.str) := fun o => cell_later (hB0 o) hb
  clear hc hks
  go_enter Try.func51, Try.ntmps51
  go_wp2_with fail
  go_loopw [15] (fun i wr => ∃ j : Nat, j ≤ ks.length ∧ i = .int .i64 j ∧ Hid (ks.all (· == kid) = (ks.drop j).all (· == kid)) ∧ wr = w.alloc (.cells #[.int .i8 k, .int .i64 kd, .int .i64 n, .string s, .string t, .string u, .int .i64 l, .int .i64 c] 44)) (fun i _ => ks.length - (intOf i).toNat)
  case atStart => exact ⟨0, by omega, rfl, rfl, rfl⟩
  case round =>
    obtain ⟨j, hj, rfl, H, rfl⟩ := hrel
    by_cases hlt : j < ks.length
    · obtain ⟨g, rfl, hg⟩ := HC.out (by omega)
      have hq := hg j hlt
      have hq2 : ∀ o, (w.alloc o).cell? ⟨g, j, none⟩ = some (.string (ks[j]).str) := fun o => cell_later (hB0 o) hq
      have hs := all_split kid ks j
      rw [List.getElem?_eq_getElem hlt] at hs
      simp only at hs
      generalize ks[j] = q at hq hq2 hs
      have he := str_eqv q kid
      by_cases h : q = kid
      · rw [decide_eq_true h] at he
        have X : Hid (ks.all (· == kid) = (ks.drop (j + 1)).all (· == kid)) := by rw [Hid, H.out, hs, h]; simp
        clear hs h H hg hq
        go_wp2_with (first | (go_at_call 27; (with_reducible refine (need_yes _ _ _).mono ?_); rintro e w' ⟨rfl, rfl⟩) | (go_at_call 27; (with_reducible refine (need_no _ _ _).mono ?_); rintro e w' ⟨rfl, rfl⟩))
        go_roundw
        case rel => exact ⟨j + 1, by omega, by go_num, X, trivial⟩
        case measure => simp [intOf]; omega
      · rw [decide_eq_false h] at he
        have X : Hid (ks.all (· == kid) = false) := by rw [Hid, H.out, hs, beq_eq_false_iff_ne.2 h]; rfl
        clear hs h H hg hq
        go_wp2_with (first | (go_at_call 27; (with_reducible refine (need_yes _ _ _).mono ?_); rintro e w' ⟨rfl, rfl⟩) | (go_at_call 27; (with_reducible refine (need_no _ _ _).mono ?_); rintro e w' ⟨rfl, rfl⟩))
        exact ⟨rfl, RuleRes.bad (by rw [X.out]; rfl) (hB0 _)⟩
    · have X : Hid (ks.all (· == kid) = true) := by rw [Hid, H.out, List.drop_eq_nil_of_le (by omega)]; rfl
      clear H
      go_wp2_with fail
      go_ret
      exact RuleRes.ok_ (by rw [X.out]; rfl) rfl (hB0 _)

set_option maxHeartbeats 400000 in
theorem all_any (x y : Ty) (w : World) : Calls Try.prog 31 #[.string x.str, .string y.str] w fun e w' =>
    e = .returned (.func (.func 51) #[] #[.pointer (some ⟨w.heap.size, 0, none⟩), .pointer (some ⟨w.heap.size + 1, 0, none⟩)]) ∧
      w'.cell? ⟨w.heap.size, 0, none⟩ = some (.string x.str) ∧ w'.cell? ⟨w.heap.size + 1, 0, none⟩ = some (.string y.str) ∧ Below w.heap.size w w' := by
  have hmf : ∀ (fn : Fn) (first cap : Array Value) (w : World), (Instr.makeFunc fn first cap).run Try.prog w = .ok (.func fn first cap) w := fun _ _ _ _ => rfl
  go_enter Try.func31, Try.ntmps31
  go_wp2
  go_ret
  exact ⟨rfl, by go_simp, by go_simp, ((Below.refl _ _).alloc (Nat.le_refl _) _).alloc (by simp) _⟩

set_option maxHeartbeats 1600000 in
theorem list_any (cp : Value) (k kd n : Int) (s u : ByteArray) (l c : Int) (a : Ty) (haf : a.fits) (ks : List Ty) (kv : Value) (p : Nat) (w : World) (hks : Tys w kv ks) (hlen : ks.length ≤ 100000) :
    Calls Try.prog 38 #[cp, (Nd.mk k kd n s a.str u l c).val, kv, .int .i64 p] w (RuleRes (if ks.all (· == a) then madeM (.list a) else .error 23) p w) := by
  have HA := Lib.hid (fun (kv : Value) (w : World) (x y : Nat) => all1_any cp k kd n s a.str u l c a a ks kv x y p w)
  unfold Nd.val Nd.cells at *
  have hB0 : ∀ o, Below w.heap.size w (w.alloc o) := fun o => (Below.refl _ _).alloc (Nat.le_refl _) o
  have hs := str_size_le haf
  have hl := str_list1 a
  go_enter Try.func38, Try.ntmps38
  go_wp2_with fail
  generalize hw0 : w.alloc _ = w0
  have hB : Below w.heap.size w w0 := by rw [← hw0]; exact hB0 _
  have ht : Tys w0 kv ks := hks.later hB
  have h4 : w0.cell? ⟨w.heap.size, 4, none⟩ = some (.string a.str) := by rw [← hw0, World.cell?_alloc_at _ _ _ _ rfl]; rfl
  have h0 : w0.cell? ⟨w.heap.size, 0, none⟩ = some (.int .i8 k) := by rw [← hw0, World.cell?_alloc_at _ _ _ _ rfl]; rfl
  have h1 : w0.cell? ⟨w.heap.size, 1, none⟩ = some (.int .i64 kd) := by rw [← hw0, World.cell?_alloc_at _ _ _ _ rfl]; rfl
  have h2 : w0.cell? ⟨w.heap.size, 2, none⟩ = some (.int .i64 n) := by rw [← hw0, World.cell?_alloc_at _ _ _ _ rfl]; rfl
  have h3 : w0.cell? ⟨w.heap.size, 3, none⟩ = some (.string s) := by rw [← hw0, World.cell?_alloc_at _ _ _ _ rfl]; rfl
  have h5 : w0.cell? ⟨w.heap.size, 5, none⟩ = some (.string u) := by rw [← hw0, World.cell?_alloc_at _ _ _ _ rfl]; rfl
  have h6 : w0.cell? ⟨w.heap.size, 6, none⟩ = some (.int .i64 l) := by rw [← hw0, World.cell?_alloc_at _ _ _ _ rfl]; rfl
  have h7 : w0.cell? ⟨w.heap.size, 7, none⟩ = some (.int .i64 c) := by rw [← hw0, World.cell?_alloc_at _ _ _ _ rfl]; rfl
  clear hw0 hks hB0
  have HT := Lib.hid ht
  clear ht
  refine wp_region_plan (S := fun w' => (w'.cell? ⟨w.heap.size, 0, none⟩ = some (.int .i8 k) ∧ w'.cell? ⟨w.heap.size, 1, none⟩ = some (.int .i64 kd) ∧ w'.cell? ⟨w.heap.size, 2, none⟩ = some (.int .i64 n) ∧ w'.cell? ⟨w.heap.size, 3, none⟩ = some (.string s) ∧ w'.cell? ⟨w.heap.size, 4, none⟩ = some (.string a.str) ∧ w'.cell? ⟨w.heap.size, 5, none⟩ = some (.string u) ∧ w'.cell? ⟨w.heap.size, 6, none⟩ = some (.int .i64 l) ∧ w'.cell? ⟨w.heap.size, 7, none⟩ = some (.int .i64 c)) ∧ Below w0.heap.size w0 w')
    [(0, true), (1, true), (2, true), (3, true), (4, true), (6, true), (7, true), (8, true), (9, true), (12, true), (5, false), (10, false), (11, true), (13, false), (14, true)] (by kernel_rfl) (by kernel_rfl) (by kernel_rfl) (fun _ _ _ _ _ h => h) ⟨⟨h0, h1, h2, h3, h4, h5, h6, h7⟩, (Below.refl _ _).drew⟩ ?_
  intro HS
  repeat (first | (apply wpPlan_look; rfl; rfl; (intro wq hq; (try dsimp only at hq); go_split_ands; go_simp; (try rw [if_neg (by omega)]); try with_reducible rfl); simp only [Act.put, List.setIfInBounds_toArray, List.set_cons_zero, List.set_cons_succ]) | (apply wpPlan_skip; rfl; rfl; simp only [Act.put, List.setIfInBounds_toArray, List.set_cons_zero, List.set_cons_succ]) | (apply wpPlan_pass; rfl; rfl; assumption; simp only [Act.put, List.setIfInBounds_toArray, List.set_cons_zero, List.set_cons_succ]))
  apply wpPlan_call; rfl; rfl; rfl; rfl; kernel_rfl; exact all_any a a _; rfl; rintro e w3 ⟨rfl, ka, kb, hb3⟩
  obtain ⟨⟨q0, q1, q2, q3, q4, q5, q6, q7⟩, qb⟩ := HS
  have hB3 := below_later hb3 qb
  refine ⟨_, rfl, as_S ⟨⟨cell_later hb3 q0, cell_later hb3 q1, cell_later hb3 q2, cell_later hb3 q3, cell_later hb3 q4, cell_later hb3 q5, cell_later hb3 q6, cell_later hb3 q7⟩, hB3⟩ ?_⟩
  clear q0 q1 q2 q3 q4 q5 q6 q7 qb hb3
  intro HS
  simp only [Act.put, List.setIfInBounds_toArray, List.set_cons_zero, List.set_cons_succ]
  repeat (first | (apply wpPlan_look; rfl; rfl; (intro wq hq; (try dsimp only at hq); go_split_ands; go_simp; (try rw [if_neg (by omega)]); try with_reducible rfl); simp only [Act.put, List.setIfInBounds_toArray, List.set_cons_zero, List.set_cons_succ]) | (apply wpPlan_skip; rfl; rfl; simp only [Act.put, List.setIfInBounds_toArray, List.set_cons_zero, List.set_cons_succ]) | (apply wpPlan_pass; rfl; rfl; assumption; simp only [Act.put, List.setIfInBounds_toArray, List.set_cons_zero, List.set_cons_succ]))
  apply wpPlan_call2; rfl; rfl; rfl; rfl; kernel_rfl; exact HA.out kv w3 _ _ (HT.out.later hB3) hlen ka kb; rfl
  cases hal : ks.all (· == a) with
  | false =>
    rintro e w4 ⟨hb4, he4⟩
    simp only [needM] at he4
    refine .inr ⟨_, he4, ?_⟩
    exact ⟨rfl, RuleRes.bad (by simp [hal]) (below_later hb4 (below_later hB3 hB))⟩
  | true =>
    rintro e w4 ⟨hb4, he4⟩
    simp only [needM, if_true] at he4
    obtain ⟨⟨q0, q1, q2, q3, q4, q5, q6, q7⟩, qb⟩ := HS
    have hB4 := below_later hb4 qb
    refine .inl ⟨_, he4, as_S ⟨⟨cell_later hb4 q0, cell_later hb4 q1, cell_later hb4 q2, cell_later hb4 q3, cell_later hb4 q4, cell_later hb4 q5, cell_later hb4 q6, cell_later hb4 q7⟩, hB4⟩ ?_⟩
    clear q0 q1 q2 q3 q4 q5 q6 q7 qb hb4 he4
    intro HS
    simp only [Act.put, List.setIfInBounds_toArray, List.set_cons_zero, List.set_cons_succ]
    repeat (first | (apply wpPlan_look; rfl; rfl; (intro wq hq; (try dsimp only at hq); go_split_ands; go_simp; (try rw [if_neg (by omega)]); try with_reducible rfl); simp only [Act.put, List.setIfInBounds_toArray, List.set_cons_zero, List.set_cons_succ]) | (apply wpPlan_skip; rfl; rfl; simp only [Act.put, List.setIfInBounds_toArray, List.set_cons_zero, List.set_cons_succ]) | (apply wpPlan_pass; rfl; rfl; assumption; simp only [Act.put, List.setIfInBounds_toArray, List.set_cons_zero, List.set_cons_succ]))
    apply wpPlan_call2; rfl; rfl; rfl; rfl; kernel_rfl; exact made_any cp (.list a) p _; rfl
    cases hm : madeM (.list a) with
    | ok t0 =>
      rintro e w5 ⟨hb5, rfl⟩
      obtain ⟨⟨q0, q1, q2, q3, q4, q5, q6, q7⟩, qb⟩ := HS
      have hB5 := below_later hb5 qb
      refine .inl ⟨_, rfl, as_S ⟨⟨cell_later hb5 q0, cell_later hb5 q1, cell_later hb5 q2, cell_later hb5 q3, cell_later hb5 q4, cell_later hb5 q5, cell_later hb5 q6, cell_later hb5 q7⟩, hB5⟩ ?_⟩
      clear q0 q1 q2 q3 q4 q5 q6 q7 qb hb5
      intro HS
      simp only [Act.put, List.setIfInBounds_toArray, List.set_cons_zero, List.set_cons_succ]
      repeat (first | (apply wpPlan_look; rfl; rfl; (intro wq hq; (try dsimp only at hq); go_split_ands; go_simp; (try rw [if_neg (by omega)]); try with_reducible rfl); simp only [Act.put, List.setIfInBounds_toArray, List.set_cons_zero, List.set_cons_succ]) | (apply wpPlan_skip; rfl; rfl; simp only [Act.put, List.setIfInBounds_toArray, List.set_cons_zero, List.set_cons_succ]) | (apply wpPlan_pass; rfl; rfl; assumption; simp only [Act.put, List.setIfInBounds_toArray, List.set_cons_zero, List.set_cons_succ]))
      apply wpPlan_done
      go_wp2
      go_ret
      exact RuleRes.ok_ (by simp [hal, hm]) rfl (below_later hB5 hB)
    | error e0 =>
      rintro e w5 ⟨hb5, rfl⟩
      refine .inr ⟨_, rfl, ?_⟩
      exact ⟨rfl, RuleRes.bad (by simp [hal, hm]) (below_later hb5 (below_later hB4 hB))⟩
end Go.Proofs.Ytnmhiddahfnkoaa
