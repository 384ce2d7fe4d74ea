/- Package core: the rule that the table holds for a kind, called. -/
import Derived.Test.YtnmhiddahfnkoaaCoreO
import Derived.Test.YtnmhiddahfnkoaaCoreV
import Derived.Test.YtnmhiddahfnkoaaPlan
namespace Go.Proofs.Ytnmhiddahfnkoaa
set_option linter.unusedSimpArgs false
set_option linter.unusedVariables false
open Go.RowKit Culp

/-- A rule out of the table, called on a node and its kids' types. -/
def RuleFn (fv cp : Value) (x : Nd) (kv : Value) (p : Nat) (w : World) (R : Ending → World → Prop) : Prop :=
  ∃ (f : FuncId) (caps : List Value), fv = .func (.func f) #[] caps.toArray ∧ bodied Try.prog f = true ∧ Calls Try.prog f ([cp, x.val, kv, .int .i64 p] ++ caps).toArray w R

theorem tys_one {w : World} {kv : Value} {a : Ty} (h : Tys w kv [a]) : ∃ g cap, kv = .slice (some ⟨g, 0, none⟩) 1 cap ∧ w.cell? ⟨g, 0, none⟩ = some (.string a.str) := by
  rcases h with ⟨h, _⟩ | ⟨g, c, rfl, hc⟩
  · cases h
  · exact ⟨g, c, rfl, hc 0 (by simp)⟩
theorem tys_two {w : World} {kv : Value} {a b : Ty} (h : Tys w kv [a, b]) : ∃ g cap, kv = .slice (some ⟨g, 0, none⟩) 2 cap ∧ w.cell? ⟨g, 0, none⟩ = some (.string a.str) ∧ w.cell? ⟨g, 1, none⟩ = some (.string b.str) := by
  rcases h with ⟨h, _⟩ | ⟨g, c, rfl, hc⟩
  · cases h
  · exact ⟨g, c, rfl, hc 0 (by simp), hc 1 (by simp)⟩
theorem tys_three {w : World} {kv : Value} {a b d : Ty} (h : Tys w kv [a, b, d]) : ∃ g cap, kv = .slice (some ⟨g, 0, none⟩) 3 cap ∧ w.cell? ⟨g, 0, none⟩ = some (.string a.str) ∧ w.cell? ⟨g, 1, none⟩ = some (.string b.str) ∧ w.cell? ⟨g, 2, none⟩ = some (.string d.str) := by
  rcases h with ⟨h, _⟩ | ⟨g, c, rfl, hc⟩
  · cases h
  · exact ⟨g, c, rfl, hc 0 (by simp), hc 1 (by simp), hc 2 (by simp)⟩
theorem tyOf_good {s : ByteArray} {a : Ty} (h : tyOf s = some a) : s = a.str ∧ a.fits := by
  cases hi : isTy s.data.toList with
  | false => rw [tyOf_none hi] at h; cases h
  | true =>
    obtain ⟨t, rfl, ht⟩ := ty_of s hi
    rw [tyOf_str t ht] at h
    cases h
    exact ⟨rfl, ht⟩

section
variable (cp : Value) (kd n : Int) (s t u : ByteArray) (l c : Int) (ks : List Ty) (kv : Value) (p : Nat) (w : World)

theorem rule_leaf (k : Int) (ty : Ty) (hty : leafTable.lookup k = some (.string ty.str)) (hr : ruleM ⟨k, kd, n, s, t, u, l, c⟩ ks = .ok ty) : RuleFn (.func (.func 32) #[] #[]) cp ⟨k, kd, n, s, t, u, l, c⟩ kv p w (RuleRes (ruleM ⟨k, kd, n, s, t, u, l, c⟩ ks) p w) := by
  rw [hr]
  exact ⟨_, [], rfl, by kernel_rfl, leaf_any cp k kd n s t u l c kv p ty hty w⟩
theorem rule_cast (a b q : Ty) (hks : Tys w kv [q]) (ha : a.fits) (hb : b.fits) : RuleFn (.func (.func 33) #[] #[]) cp ⟨30, kd, n, s, a.str, b.str, l, c⟩ kv p w (RuleRes (ruleM ⟨30, kd, n, s, a.str, b.str, l, c⟩ [q]) p w) := by
  obtain ⟨g, cap, rfl, hk⟩ := tys_one hks
  have hr : ruleM ⟨30, kd, n, s, a.str, b.str, l, c⟩ [q] = needM (q == a) 23 b := by simp [ruleM, tyOf_str a ha, tyOf_str b hb]
  rw [hr]
  exact ⟨_, [], rfl, by kernel_rfl, cast_any cp 30 kd n s a b q l c g cap p w hk⟩
theorem rule_call (q y : Ty) (hks : Tys w kv [q, y]) (hq : q.fits) : RuleFn (.func (.func 34) #[] #[]) cp ⟨7, kd, n, s, t, u, l, c⟩ kv p w (RuleRes (ruleM ⟨7, kd, n, s, t, u, l, c⟩ [q, y]) p w) := by
  obtain ⟨g, cap, rfl, hk, hk1⟩ := tys_two hks
  refine ⟨_, [], rfl, by kernel_rfl, ?_⟩
  cases q
  case fn a b =>
    rw [show ruleM ⟨7, kd, n, s, t, u, l, c⟩ [Ty.fn a b, y] = needM (a == y) 23 b by simp [ruleM]]
    exact call_yes cp 7 kd n s t u l c a b y hq g cap p w hk hk1
  all_goals
    rw [show ruleM ⟨7, kd, n, s, t, u, l, c⟩ [_, y] = .error 23 by simp [ruleM]]
    exact call_no cp 7 kd n s t u l c _ hq rfl g 2 cap p (by omega) w hk
theorem rule_choice (q x y : Ty) (hks : Tys w kv [q, x, y]) : RuleFn (.func (.func 35) #[] #[]) cp ⟨9, kd, n, s, t, u, l, c⟩ kv p w (RuleRes (ruleM ⟨9, kd, n, s, t, u, l, c⟩ [q, x, y]) p w) := by
  obtain ⟨g, cap, rfl, hk, hk1, hk2⟩ := tys_three hks
  rw [show ruleM ⟨9, kd, n, s, t, u, l, c⟩ [q, x, y] = needM (q == .bool && x == y) 23 x by simp [ruleM]]
  exact ⟨_, [], rfl, by kernel_rfl, choice_any cp 9 kd n s t u l c q x y g cap p w hk hk1 hk2⟩
theorem rule_ops (k : Int) (kid to : Ty) (v : Value) (ho : OpsFn kid to v w) (hks : Tys w kv ks) (hlen : ks.length ≤ 100000) (hr : ruleM ⟨k, kd, n, s, t, u, l, c⟩ ks = needM (ks.all (· == kid)) 23 to) :
    RuleFn v cp ⟨k, kd, n, s, t, u, l, c⟩ kv p w (RuleRes (ruleM ⟨k, kd, n, s, t, u, l, c⟩ ks) p w) := by
  rw [hr]
  obtain ⟨a, b, rfl, ha, hb⟩ := ho
  exact ⟨_, [_, _], rfl, by kernel_rfl, all1_any cp k kd n s t u l c kid to ks kv a b p w hks hlen ha hb⟩
theorem rule_pair (x y : Ty) (hx : x.fits) (hy : y.fits) (hks : Tys w kv [x, y]) : RuleFn (.func (.func 36) #[] #[]) cp ⟨18, kd, n, s, t, u, l, c⟩ kv p w (RuleRes (ruleM ⟨18, kd, n, s, t, u, l, c⟩ [x, y]) p w) := by
  obtain ⟨g, cap, rfl, hk, hk1⟩ := tys_two hks
  rw [show ruleM ⟨18, kd, n, s, t, u, l, c⟩ [x, y] = madeM (.pair x y) by simp [ruleM]]
  exact ⟨_, [], rfl, by kernel_rfl, pair_any cp 18 kd n s t u l c x y hx hy g cap p w hk hk1⟩
theorem rule_half_first (q : Ty) (hq : q.fits) (hks : Tys w kv [q]) : RuleFn (.func (.func 37) #[] #[]) cp ⟨19, kd, n, s, t, u, l, c⟩ kv p w (RuleRes (ruleM ⟨19, kd, n, s, t, u, l, c⟩ [q]) p w) := by
  obtain ⟨g, cap, rfl, hk⟩ := tys_one hks
  refine ⟨_, [], rfl, by kernel_rfl, ?_⟩
  cases q
  case pair a b =>
    rw [show ruleM ⟨19, kd, n, s, t, u, l, c⟩ [Ty.pair a b] = .ok a by simp [ruleM]]
    exact half_first cp kd n s t u l c a b hq g cap p w hk
  all_goals
    rw [show ruleM ⟨19, kd, n, s, t, u, l, c⟩ [_] = .error 23 by simp [ruleM]]
    exact half_no cp 19 kd n s t u l c _ hq rfl g cap p w hk
theorem rule_half_second (q : Ty) (hq : q.fits) (hks : Tys w kv [q]) : RuleFn (.func (.func 37) #[] #[]) cp ⟨20, kd, n, s, t, u, l, c⟩ kv p w (RuleRes (ruleM ⟨20, kd, n, s, t, u, l, c⟩ [q]) p w) := by
  obtain ⟨g, cap, rfl, hk⟩ := tys_one hks
  refine ⟨_, [], rfl, by kernel_rfl, ?_⟩
  cases q
  case pair a b =>
    rw [show ruleM ⟨20, kd, n, s, t, u, l, c⟩ [Ty.pair a b] = .ok b by simp [ruleM]]
    exact half_second cp kd n s t u l c a b hq g cap p w hk
  all_goals
    rw [show ruleM ⟨20, kd, n, s, t, u, l, c⟩ [_] = .error 23 by simp [ruleM]]
    exact half_no cp 20 kd n s t u l c _ hq rfl g cap p w hk
theorem rule_list (a : Ty) (ha : a.fits) (hks : Tys w kv ks) (hlen : ks.length ≤ 100000) : RuleFn (.func (.func 38) #[] #[]) cp ⟨21, kd, n, s, a.str, u, l, c⟩ kv p w (RuleRes (ruleM ⟨21, kd, n, s, a.str, u, l, c⟩ ks) p w) := by
  rw [show ruleM ⟨21, kd, n, s, a.str, u, l, c⟩ ks = (if ks.all (· == a) then madeM (.list a) else .error 23) by simp [ruleM, tyOf_str a ha]]
  exact ⟨_, [], rfl, by kernel_rfl, list_any cp 21 kd n s u l c a ha ks kv p w hks hlen⟩
theorem rule_of_head (q : Ty) (hq : q.fits) (hks : Tys w kv [q]) : RuleFn (.func (.func 39) #[] #[]) cp ⟨22, kd, n, s, t, u, l, c⟩ kv p w (RuleRes (ruleM ⟨22, kd, n, s, t, u, l, c⟩ [q]) p w) := by
  obtain ⟨g, cap, rfl, hk⟩ := tys_one hks
  refine ⟨_, [], rfl, by kernel_rfl, ?_⟩
  cases q
  case list a =>
    rw [show ruleM ⟨22, kd, n, s, t, u, l, c⟩ [Ty.list a] = .ok a by simp [ruleM]]
    exact of_head cp kd n s t u l c a hq g cap p w hk
  all_goals
    rw [show ruleM ⟨22, kd, n, s, t, u, l, c⟩ [_] = .error 23 by simp [ruleM]]
    exact of_no cp 22 kd n s t u l c _ hq rfl g cap p w hk
theorem rule_of_tail (q : Ty) (hq : q.fits) (hks : Tys w kv [q]) : RuleFn (.func (.func 39) #[] #[]) cp ⟨23, kd, n, s, t, u, l, c⟩ kv p w (RuleRes (ruleM ⟨23, kd, n, s, t, u, l, c⟩ [q]) p w) := by
  obtain ⟨g, cap, rfl, hk⟩ := tys_one hks
  refine ⟨_, [], rfl, by kernel_rfl, ?_⟩
  cases q
  case list a =>
    rw [show ruleM ⟨23, kd, n, s, t, u, l, c⟩ [Ty.list a] = .ok (.list a) by simp [ruleM]]
    exact of_tail cp kd n s t u l c a hq g cap p w hk
  all_goals
    rw [show ruleM ⟨23, kd, n, s, t, u, l, c⟩ [_] = .error 23 by simp [ruleM]]
    exact of_no cp 23 kd n s t u l c _ hq rfl g cap p w hk
theorem rule_of_empty (q : Ty) (hq : q.fits) (hks : Tys w kv [q]) : RuleFn (.func (.func 39) #[] #[]) cp ⟨24, kd, n, s, t, u, l, c⟩ kv p w (RuleRes (ruleM ⟨24, kd, n, s, t, u, l, c⟩ [q]) p w) := by
  obtain ⟨g, cap, rfl, hk⟩ := tys_one hks
  refine ⟨_, [], rfl, by kernel_rfl, ?_⟩
  cases q
  case list a =>
    rw [show ruleM ⟨24, kd, n, s, t, u, l, c⟩ [Ty.list a] = .ok .bool by simp [ruleM]]
    exact of_empty cp kd n s t u l c a hq g cap p w hk
  all_goals
    rw [show ruleM ⟨24, kd, n, s, t, u, l, c⟩ [_] = .error 23 by simp [ruleM]]
    exact of_no cp 24 kd n s t u l c _ hq rfl g cap p w hk
theorem rule_cons (y x : Ty) (hy : y.fits) (hks : Tys w kv [y, x]) : RuleFn (.func (.func 40) #[] #[]) cp ⟨25, kd, n, s, t, u, l, c⟩ kv p w (RuleRes (ruleM ⟨25, kd, n, s, t, u, l, c⟩ [y, x]) p w) := by
  obtain ⟨g, cap, rfl, hk, hk1⟩ := tys_two hks
  rw [show ruleM ⟨25, kd, n, s, t, u, l, c⟩ [y, x] = needM (x == .list y) 23 x by simp [ruleM]]
  exact ⟨_, [], rfl, by kernel_rfl, cons_any cp 25 kd n s t u l c x y hy g cap p w hk1 hk⟩
theorem rule_box (q : Ty) (hq : q.fits) (hks : Tys w kv [q]) : RuleFn (.func (.func 41) #[] #[]) cp ⟨26, kd, n, s, t, u, l, c⟩ kv p w (RuleRes (ruleM ⟨26, kd, n, s, t, u, l, c⟩ [q]) p w) := by
  obtain ⟨g, cap, rfl, hk⟩ := tys_one hks
  rw [show ruleM ⟨26, kd, n, s, t, u, l, c⟩ [q] = madeM (.box q) by simp [ruleM]]
  exact ⟨_, [], rfl, by kernel_rfl, box_any cp 26 kd n s t u l c q hq g cap p w hk⟩
theorem rule_get (q : Ty) (hq : q.fits) (hks : Tys w kv [q]) : RuleFn (.func (.func 42) #[] #[]) cp ⟨27, kd, n, s, t, u, l, c⟩ kv p w (RuleRes (ruleM ⟨27, kd, n, s, t, u, l, c⟩ [q]) p w) := by
  obtain ⟨g, cap, rfl, hk⟩ := tys_one hks
  refine ⟨_, [], rfl, by kernel_rfl, ?_⟩
  cases q
  case box a =>
    rw [show ruleM ⟨27, kd, n, s, t, u, l, c⟩ [Ty.box a] = .ok a by simp [ruleM]]
    exact get_yes cp 27 kd n s t u l c a hq g cap p w hk
  all_goals
    rw [show ruleM ⟨27, kd, n, s, t, u, l, c⟩ [_] = .error 23 by simp [ruleM]]
    exact get_no cp 27 kd n s t u l c _ hq rfl g cap p w hk
theorem rule_set (x y : Ty) (hy : y.fits) (hks : Tys w kv [x, y]) : RuleFn (.func (.func 43) #[] #[]) cp ⟨28, kd, n, s, t, u, l, c⟩ kv p w (RuleRes (ruleM ⟨28, kd, n, s, t, u, l, c⟩ [x, y]) p w) := by
  obtain ⟨g, cap, rfl, hk, hk1⟩ := tys_two hks
  rw [show ruleM ⟨28, kd, n, s, t, u, l, c⟩ [x, y] = needM (x == .box y) 23 y by simp [ruleM]]
  exact ⟨_, [], rfl, by kernel_rfl, set_any cp 28 kd n s t u l c x y hy g cap p w hk hk1⟩
end

theorem len1 {ks : List Ty} (h : (ks.length : Int) = 1) : ∃ a, ks = [a] := by
  match ks, h with
  | [a], _ => exact ⟨a, rfl⟩
  | [], h => simp at h
  | _ :: _ :: _, h => simp at h; omega
theorem len2 {ks : List Ty} (h : (ks.length : Int) = 2) : ∃ a b, ks = [a, b] := by
  match ks, h with
  | [a, b], _ => exact ⟨a, b, rfl⟩
  | [], h => simp at h
  | [_], h => simp at h
  | _ :: _ :: _ :: _, h => simp at h; omega
theorem len3 {ks : List Ty} (h : (ks.length : Int) = 3) : ∃ a b d, ks = [a, b, d] := by
  match ks, h with
  | [a, b, d], _ => exact ⟨a, b, d, rfl⟩
  | [], h => simp at h
  | [_], h => simp at h
  | [_, _], h => simp at h
  | _ :: _ :: _ :: _ :: _, h => simp at h; omega

/-- Every kind but a variable, a binder. -/
theorem rule_any (cp : Value) (x : Nd) (ks : List Ty) (kv : Value) (p m : Nat) (w : World) (v1 v2 v3 v4 : Value) (o1 : OpsFn .int .int v1 w) (o2 : OpsFn .int .bool v2 w) (o3 : OpsFn .text .text v3 w) (o4 : OpsFn .text .int v4 w)
    (hks : Tys w kv ks) (hfit : ∀ t ∈ ks, t.fits) (hw : wordsM x m = none) (hk : kidsOk x = true) (hl : (ks.length : Int) = x.kids) (h4 : x.kind ≠ 4) (h5 : x.kind ≠ 5) (h6 : x.kind ≠ 6) (h8 : x.kind ≠ 8) (hlen : ks.length ≤ 100000) :
    ∃ fv, (ruleTable v1 v2 v3 v4).lookup x.kind = some fv ∧ RuleFn fv cp x kv p w (RuleRes (ruleM x ks) p w) := by
  obtain ⟨k, kd, n, s, t, u, l, c⟩ := x
  obtain ⟨a, ha, h0, h1⟩ := kids_facts hk
  simp only at ha h0 h1 hl h4 h5 h6 h8
  have hkd : a = -1 ∨ kd = a := by
    rcases h1 with h | ⟨_, h⟩
    · left; simpa using h
    · right; simpa using (beq_iff_eq.1 h).symm
  clear h1 hk h0
  unfold arM at ha
  split at ha
  · rename_i hc
    cases ha
    rcases hc with rfl | rfl | rfl | rfl
    · exact ⟨_, rfl, rule_leaf cp kd n s t u l c ks kv p w 1 .int rfl (by simp [ruleM])⟩
    · exact ⟨_, rfl, rule_leaf cp kd n s t u l c ks kv p w 2 .text rfl (by simp [ruleM])⟩
    · exact ⟨_, rfl, rule_leaf cp kd n s t u l c ks kv p w 3 .bool rfl (by simp [ruleM])⟩
    · exact absurd rfl h4
  · split at ha
    · rename_i hc
      cases ha
      have hk1 : kd = 1 := hkd.resolve_left (by omega)
      subst hk1
      obtain ⟨q, rfl⟩ := len1 hl
      have hq : q.fits := hfit q (by simp)
      rcases hc with rfl | rfl | rfl | rfl | rfl | rfl | rfl | rfl | rfl | rfl | rfl | rfl
      · exact absurd rfl h5
      · exact absurd rfl h6
      · exact ⟨_, rfl, rule_ops cp _ n s t u l c _ kv p w 16 .int .int v1 o1 hks hlen (by simp [ruleM])⟩
      · exact ⟨_, rfl, rule_ops cp _ n s t u l c _ kv p w 17 .text .int v4 o4 hks hlen (by simp [ruleM])⟩
      · exact ⟨_, rfl, rule_half_first cp _ n s t u l c kv p w q hq hks⟩
      · exact ⟨_, rfl, rule_half_second cp _ n s t u l c kv p w q hq hks⟩
      · exact ⟨_, rfl, rule_of_head cp _ n s t u l c kv p w q hq hks⟩
      · exact ⟨_, rfl, rule_of_tail cp _ n s t u l c kv p w q hq hks⟩
      · exact ⟨_, rfl, rule_of_empty cp _ n s t u l c kv p w q hq hks⟩
      · exact ⟨_, rfl, rule_box cp _ n s t u l c kv p w q hq hks⟩
      · exact ⟨_, rfl, rule_get cp _ n s t u l c kv p w q hq hks⟩
      · cases ht : tyOf t with
        | none => simp [wordsM, ht] at hw
        | some a =>
          cases hu : tyOf u with
          | none => simp [wordsM, ht, hu] at hw
          | some b =>
            obtain ⟨rfl, hae⟩ := tyOf_good ht
            obtain ⟨rfl, hbe⟩ := tyOf_good hu
            exact ⟨_, rfl, rule_cast cp _ n s l c kv p w a b q hks hae hbe⟩
    · split at ha
      · rename_i hc
        cases ha
        have hk1 : kd = 2 := hkd.resolve_left (by omega)
        subst hk1
        obtain ⟨q, y, rfl⟩ := len2 hl
        have hq : q.fits := hfit q (by simp)
        have hy : y.fits := hfit y (by simp)
        rcases hc with rfl | rfl | rfl | rfl | rfl | rfl | rfl | rfl | rfl | rfl | rfl
        · exact ⟨_, rfl, rule_call cp _ n s t u l c kv p w q y hks hq⟩
        · exact absurd rfl h8
        · exact ⟨_, rfl, rule_ops cp _ n s t u l c _ kv p w 10 .int .int v1 o1 hks hlen (by simp [ruleM])⟩
        · exact ⟨_, rfl, rule_ops cp _ n s t u l c _ kv p w 11 .int .int v1 o1 hks hlen (by simp [ruleM])⟩
        · exact ⟨_, rfl, rule_ops cp _ n s t u l c _ kv p w 12 .int .int v1 o1 hks hlen (by simp [ruleM])⟩
        · exact ⟨_, rfl, rule_ops cp _ n s t u l c _ kv p w 13 .text .text v3 o3 hks hlen (by simp [ruleM])⟩
        · exact ⟨_, rfl, rule_ops cp _ n s t u l c _ kv p w 14 .int .bool v2 o2 hks hlen (by simp [ruleM])⟩
        · exact ⟨_, rfl, rule_ops cp _ n s t u l c _ kv p w 15 .int .bool v2 o2 hks hlen (by simp [ruleM])⟩
        · exact ⟨_, rfl, rule_pair cp _ n s t u l c kv p w q y hq hy hks⟩
        · exact ⟨_, rfl, rule_cons cp _ n s t u l c kv p w q y hq hks⟩
        · exact ⟨_, rfl, rule_set cp _ n s t u l c kv p w q y hy hks⟩
      · split at ha
        · rename_i hc
          cases ha
          have hk1 : kd = 3 := hkd.resolve_left (by omega)
          subst hk1
          obtain ⟨q, y, z, rfl⟩ := len3 hl
          subst hc
          exact ⟨_, rfl, rule_choice cp _ n s t u l c kv p w q y z hks⟩
        · split at ha
          · rename_i hc
            subst hc
            cases ht : tyOf t with
            | none => simp [wordsM, ht] at hw
            | some a =>
              obtain ⟨rfl, hae⟩ := tyOf_good ht
              exact ⟨_, rfl, rule_list cp _ n s u l c ks kv p w a hae hks hlen⟩
          · cases ha
end Go.Proofs.Ytnmhiddahfnkoaa
