/- Walks of package core: the rules, kind by kind. -/
import Derived.Test.YtnmhiddahfnkoaaCoreW
namespace Go.Proofs.Ytnmhiddahfnkoaa
set_option linter.unusedSimpArgs false
set_option linter.unusedVariables false
open Go.RowKit Culp

/-- What a rule ends with. -/
def RuleRes (r : Except Int Ty) (p : Nat) (w : World) (en : Ending) (w' : World) : Prop := Below w.heap.size w w' ∧ match r with
  | .ok t => en = .returned (.string t.str)
  | .error e => en = .panicked (flawV e p)
theorem RuleRes.ok_ {r : Except Int Ty} {t : Ty} {p : Nat} {w w' : World} {u : Value} (h : r = .ok t) (hu : u = .string t.str) (hb : Below w.heap.size w w') : RuleRes r p w (.returned u) w' := by subst h; exact ⟨hb, by rw [hu]⟩
theorem RuleRes.bad {r : Except Int Ty} {e : Int} {p : Nat} {w w' : World} (h : r = .error e) (hb : Below w.heap.size w w') : RuleRes r p w (.panicked (flawV e p)) w' := by subst h; exact ⟨hb, rfl⟩

theorem str_eqv (a b : Ty) : (a.str.toList == b.str.toList) = decide (a = b) := by
  rw [toL, toL, str_list, str_list, Bool.eq_iff_iff]
  simp only [beq_iff_eq, decide_eq_true_eq]
  exact ⟨enc_inj, fun h => by rw [h]⟩

set_option maxHeartbeats 1600000 in
theorem cast_any (cp : Value) (k kd n : Int) (s : ByteArray) (a b q : Ty) (l c : Int) (g cap p : Nat) (w : World) (hk : w.cell? ⟨g, 0, none⟩ = some (.string q.str)) :
    Calls Try.prog 33 #[cp, (Nd.mk k kd n s a.str b.str l c).val, .slice (some ⟨g, 0, none⟩) 1 cap, .int .i64 p] w (RuleRes (needM (q == a) 23 b) p w) := by
  unfold Nd.val Nd.cells
  have he := str_eqv q a
  have hgl := World.block_lt_of_cell? w _ hk
  have hB0 : ∀ o, Below w.heap.size w (w.alloc o) := fun o => (Below.refl _ _).alloc (Nat.le_refl _) o
  by_cases h : q = a
  all_goals
    first
      | rw [decide_eq_true h] at he
      | rw [decide_eq_false h] at he
    have H := Lib.hid h
    clear h
    go_enter Try.func33, Try.ntmps33
    go_wp2_with fail
    refine wp_region_plan (S := fun w' => w'.cell? ⟨g, 0, none⟩ = some (.string q.str) ∧ w'.cell? ⟨w.heap.size, 4, none⟩ = some (.string a.str) ∧ w'.cell? ⟨w.heap.size, 5, none⟩ = some (.string b.str) ∧ Below w.heap.size w w')
      [(0, true), (1, true), (2, true), (3, true), (4, true), (5, true), (6, true), (7, false)] (by kernel_rfl) (by kernel_rfl) (by kernel_rfl) (fun _ _ _ _ _ h => h) ⟨cell_later (hB0 _).drew hk, by go_simp, by go_simp, (hB0 _).drew⟩ ?_
    intro HS
    repeat (first | (apply wpPlan_look; rfl; rfl; (intro wq hq; (try dsimp only at hq); go_split_ands; go_simp; (try rw [if_neg (by omega)]); try with_reducible rfl); simp only [Act.put, List.setIfInBounds_toArray, List.set_cons_zero, List.set_cons_succ]) | (apply wpPlan_skip; rfl; rfl; simp only [Act.put, List.setIfInBounds_toArray, List.set_cons_zero, List.set_cons_succ]) | (apply wpPlan_pass; rfl; rfl; assumption; simp only [Act.put, List.setIfInBounds_toArray, List.set_cons_zero, List.set_cons_succ]))
    first
      | (apply wpPlan_call2; rfl; rfl; rfl; rfl; kernel_rfl; exact need_yes 23 p _; rfl; rintro e w' ⟨rfl, rfl⟩
         refine .inl ⟨_, rfl, HS, ?_⟩
         simp only [Act.put, List.setIfInBounds_toArray, List.set_cons_zero, List.set_cons_succ]
         apply wpPlan_done
         go_wp2
         go_ret
         exact RuleRes.ok_ (by rw [H.out]; simp [needM]) rfl (hB0 _).drew)
      | (apply wpPlan_call2; rfl; rfl; rfl; rfl; kernel_rfl; exact need_no 23 p _; rfl; rintro e w' ⟨rfl, rfl⟩
         refine .inr ⟨_, rfl, ?_⟩
         exact ⟨rfl, RuleRes.bad (by simp [needM, H.out]) (hB0 _).drew⟩)

theorem str_size_le {t : Ty} (h : t.fits) : t.str.size ≤ 64 := by rw [str_size]; exact h
theorem str_pair (a b : Ty) : ({ data := #[44] } ++ a.str) ++ b.str = (Ty.pair a b).str := by apply ByteArray.ext; apply Array.ext'; simp [Ty.str, Ty.enc]
theorem str_fn (a b : Ty) : ({ data := #[62] } ++ a.str) ++ b.str = (Ty.fn a b).str := by apply ByteArray.ext; apply Array.ext'; simp [Ty.str, Ty.enc]
theorem str_list1 (a : Ty) : { data := #[108] } ++ a.str = (Ty.list a).str := by apply ByteArray.ext; apply Array.ext'; simp [Ty.str, Ty.enc]
theorem str_box1 (a : Ty) : { data := #[120] } ++ a.str = (Ty.box a).str := by apply ByteArray.ext; apply Array.ext'; simp [Ty.str, Ty.enc]

set_option maxHeartbeats 400000 in
theorem made_any (cp : Value) (t : Ty) (p : Nat) (w : World) : Calls Try.prog 46 #[cp, .string t.str, .int .i64 p] w (RuleRes (madeM t) p w) := by
  by_cases h : t.enc.length ≤ 64
  · have X : Hid (madeM t = .ok t) := by simp [Hid, madeM, h]
    have i1 : decide ((t.str.size : Int) ≤ 64) = true := decide_eq_true (by rw [str_size]; omega)
    clear h
    go_enter Try.func46, Try.ntmps46
    go_wp2_with (first | (go_at_call 27; (with_reducible refine (need_yes _ _ _).mono ?_); rintro e w' ⟨rfl, rfl⟩) | (go_at_call 27; (with_reducible refine (need_no _ _ _).mono ?_); rintro e w' ⟨rfl, rfl⟩))
    go_ret
    exact RuleRes.ok_ X.out rfl (Below.refl _ _)
  · have X : Hid (madeM t = .error 21) := by simp [Hid, madeM]; omega
    have i1 : decide ((t.str.size : Int) ≤ 64) = false := decide_eq_false (by rw [str_size]; omega)
    clear h
    go_enter Try.func46, Try.ntmps46
    go_wp2_with (first | (go_at_call 27; (with_reducible refine (need_yes _ _ _).mono ?_); rintro e w' ⟨rfl, rfl⟩) | (go_at_call 27; (with_reducible refine (need_no _ _ _).mono ?_); rintro e w' ⟨rfl, rfl⟩))
    exact ⟨rfl, RuleRes.bad X.out (Below.refl _ _)⟩

set_option maxHeartbeats 800000 in
theorem box_any (cp : Value) (k kd n : Int) (s t u : ByteArray) (l c : Int) (q : Ty) (hq : q.fits) (g cap p : Nat) (w : World) (hk : w.cell? ⟨g, 0, none⟩ = some (.string q.str)) :
    Calls Try.prog 41 #[cp, (Nd.mk k kd n s t u l c).val, .slice (some ⟨g, 0, none⟩) 1 cap, .int .i64 p] w (RuleRes (madeM (.box q)) p w) := by
  unfold Nd.val Nd.cells
  have hs := str_size_le hq
  have he := str_box1 q
  have hgl := World.block_lt_of_cell? w _ hk
  have hk2 : ∀ o, (w.alloc o).cell? ⟨g, 0, none⟩ = some (.string q.str) := fun o => cell_later ((Below.refl _ _).alloc (Nat.le_refl _) o) hk
  have hB0 : ∀ o, Below w.heap.size w (w.alloc o) := fun o => (Below.refl _ _).alloc (Nat.le_refl _) o
  go_enter Try.func41, Try.ntmps41
  go_wp2_with fail
  refine (made_any _ _ _ _).mono ?_
  cases hm : madeM (.box q) with
  | ok t0 =>
    rintro e w' ⟨hb, rfl⟩
    have hB := below_later hb (hB0 _)
    have H := Lib.hid hm
    clear hb hm
    go_wp2_with fail
    go_ret
    exact RuleRes.ok_ H.out rfl hB
  | error e0 =>
    rintro e w' ⟨hb, rfl⟩
    exact ⟨rfl, RuleRes.bad rfl (below_later hb (hB0 _))⟩

set_option maxHeartbeats 800000 in
theorem get_no (cp : Value) (k kd n : Int) (s t u : ByteArray) (l c : Int) (q : Ty) (hq : q.fits) (hh : ((q.hd.toNat : Int) == 120) = false) (g cap p : Nat) (w : World) (hk : w.cell? ⟨g, 0, none⟩ = some (.string q.str)) :
    Calls Try.prog 42 #[cp, (Nd.mk k kd n s t u l c).val, .slice (some ⟨g, 0, none⟩) 1 cap, .int .i64 p] w (RuleRes (.error 23) p w) := by
  unfold Nd.val Nd.cells
  have hk2 : ∀ o, (w.alloc o).cell? ⟨g, 0, none⟩ = some (.string q.str) := fun o => cell_later ((Below.refl _ _).alloc (Nat.le_refl _) o) hk
  have hB0 : ∀ o, Below w.heap.size w (w.alloc o) := fun o => (Below.refl _ _).alloc (Nat.le_refl _) o
  go_enter Try.func42, Try.ntmps42
  go_wp2_with (first | (go_at_call 52; refine (Head_any q hq _).mono ?_; rintro e w' ⟨rfl, rfl⟩) | (go_at_call 27; (with_reducible refine (need_yes _ _ _).mono ?_); rintro e w' ⟨rfl, rfl⟩) | (go_at_call 27; (with_reducible refine (need_no _ _ _).mono ?_); rintro e w' ⟨rfl, rfl⟩))
  exact ⟨rfl, RuleRes.bad rfl (hB0 _)⟩
set_option maxHeartbeats 800000 in
theorem of_no (cp : Value) (k kd n : Int) (s t u : ByteArray) (l c : Int) (q : Ty) (hq : q.fits) (hh : ((q.hd.toNat : Int) == 108) = false) (g cap p : Nat) (w : World) (hk : w.cell? ⟨g, 0, none⟩ = some (.string q.str)) :
    Calls Try.prog 39 #[cp, (Nd.mk k kd n s t u l c).val, .slice (some ⟨g, 0, none⟩) 1 cap, .int .i64 p] w (RuleRes (.error 23) p w) := by
  unfold Nd.val Nd.cells
  have hk2 : ∀ o, (w.alloc o).cell? ⟨g, 0, none⟩ = some (.string q.str) := fun o => cell_later ((Below.refl _ _).alloc (Nat.le_refl _) o) hk
  have hB0 : ∀ o, Below w.heap.size w (w.alloc o) := fun o => (Below.refl _ _).alloc (Nat.le_refl _) o
  go_enter Try.func39, Try.ntmps39
  go_wp2_with (first | (go_at_call 52; refine (Head_any q hq _).mono ?_; rintro e w' ⟨rfl, rfl⟩) | (go_at_call 27; (with_reducible refine (need_yes _ _ _).mono ?_); rintro e w' ⟨rfl, rfl⟩) | (go_at_call 27; (with_reducible refine (need_no _ _ _).mono ?_); rintro e w' ⟨rfl, rfl⟩))
  exact ⟨rfl, RuleRes.bad rfl (hB0 _)⟩

set_option maxHeartbeats 800000 in
theorem get_yes (cp : Value) (k kd n : Int) (s t u : ByteArray) (l c : Int) (a : Ty) (hq : (Ty.box a).fits) (g cap p : Nat) (w : World) (hk : w.cell? ⟨g, 0, none⟩ = some (.string (Ty.box a).str)) :
    Calls Try.prog 42 #[cp, (Nd.mk k kd n s t u l c).val, .slice (some ⟨g, 0, none⟩) 1 cap, .int .i64 p] w (RuleRes (.ok a) p w) := by
  unfold Nd.val Nd.cells
  have hk2 : ∀ o, (w.alloc o).cell? ⟨g, 0, none⟩ = some (.string (Ty.box a).str) := fun o => cell_later ((Below.refl _ _).alloc (Nat.le_refl _) o) hk
  have hB0 : ∀ o, Below w.heap.size w (w.alloc o) := fun o => (Below.refl _ _).alloc (Nat.le_refl _) o
  go_enter Try.func42, Try.ntmps42
  go_wp2_with fail
  refine (show Calls Try.prog 52 #[.string (Ty.box a).str] _ (Gives (.int .u8 120) _) from Head_any _ hq _).mono ?_
  rintro e w' ⟨rfl, rfl⟩
  go_wp2_with (first | (go_at_call 27; (with_reducible refine (need_yes _ _ _).mono ?_); rintro e w' ⟨rfl, rfl⟩) | (go_at_call 27; (with_reducible refine (need_no _ _ _).mono ?_); rintro e w' ⟨rfl, rfl⟩))
  refine (Parts_any _ hq _).mono ?_
  rintro e w1 ⟨v1, rfl, ho1, hb1⟩
  obtain ⟨g1, c1, rfl, k1⟩ := own_single ho1 rfl
  have hB := below_later hb1 (hB0 _)
  clear ho1 hb1
  go_wp2_with fail
  go_ret
  exact RuleRes.ok_ rfl rfl hB
end Go.Proofs.Ytnmhiddahfnkoaa
