/- The document's answer for layer 10: the rule of any node that has one. -/
import Derived.Test.YtnmhiddahfnkoaaRefQ
namespace Go.Proofs.Ytnmhiddahfnkoaa
set_option linter.unusedSimpArgs false
set_option linter.unusedVariables false
open Go.RowKit Culp

/-- The fault of an answer. -/
def errS (r : Except Int Ty) (p : Nat) : Option Flt := match r with | .ok _ => none | .error e => some (e, p)
def RRes (r : Except Int Ty) (g : Nat) (tv : Value) (q : Int) (p : Nat) (av : Value) (w : World) (en : Ending) (w' : World) : Prop := ∃ u : ByteArray, AskRes g tv q (errS r p) av (.string u) w en w' ∧ ∀ t, r = .ok t → u = t.str
theorem errS_need (b : Bool) (t : Ty) (p : Nat) : errS (needM b 23 t) p = askS b p := by cases b <;> rfl
theorem RRes.need {b : Bool} {t : Ty} {g : Nat} {tv av : Value} {q : Int} {p : Nat} {w w' : World} {en : Ending} {u : ByteArray} (h : AskRes g tv q (askS b p) av (.string u) w en w') (hu : b = true → u = t.str) : RRes (needM b 23 t) g tv q p av w en w' := by
  refine ⟨u, by rw [errS_need]; exact h, fun t' ht => ?_⟩
  cases b with
  | false => cases ht
  | true => simp only [needM, if_true] at ht; cases ht; exact hu rfl
theorem RRes.made {t : Ty} {g : Nat} {tv av : Value} {q : Int} {p : Nat} {w w' : World} {en : Ending} (h : AskRes g tv q (madeS t none p) av (.string t.str) w en w') : RRes (madeM t) g tv q p av w en w' := by
  refine ⟨t.str, ?_, fun t' ht => by rw [(fits_made ht).1]⟩
  unfold madeM
  unfold madeS at h
  split
  · rename_i hf; rw [if_pos hf] at h; exact h
  · rename_i hf; rw [if_neg hf] at h; exact h
theorem RRes.fail {c : Int} {g : Nat} {tv av : Value} {q : Int} {p : Nat} {w w' : World} {en : Ending} {u : ByteArray} (h : AskRes g tv q (askS false p) av (.string u) w en w') : RRes (.error 23) g tv q p av w en w' := ⟨u, h, fun t ht => by cases ht⟩
theorem RRes.good {t : Ty} {g : Nat} {tv av : Value} {q : Int} {p : Nat} {w w' : World} {en : Ending} (h : AskRes g tv q (askS true p) av (.string t.str) w en w') : RRes (.ok t) g tv q p av w en w' := ⟨_, h, fun t' ht => by cases ht; rfl⟩
theorem str_is (a : Ty) (t : Ty) (c : UInt8) (h : t.enc = [c]) : (a.str.toList == [c]) = (a == t) := by
  rw [toL, str_list, ← h, Bool.eq_iff_iff]
  simp only [beq_iff_eq]
  exact ⟨enc_inj, fun e => by rw [e]⟩
theorem str_same (a b : Ty) : (a.str.toList == b.str.toList) = (a == b) := by
  rw [str_eqv, Bool.eq_iff_iff]; simp

section
variable (g : Nat) (tv av : Value) (q : Int) (p : Nat) (w : World) (hw : WkS g tv q none av w) (ht : ∀ s, tv ≠ .string s) (ha : ∀ s, av ≠ .string s) (kd n : Int) (s t u : ByteArray) (l c : Int) (kv : Value)
/-- What a rule's call ends with. -/
def RuleC (g : Nat) (tv av : Value) (q : Int) (p : Nat) (w : World) (x : Nd) (kv : Value) (ks : List Ty) : Prop :=
  Calls Try.prog 70 #[.pointer (some ⟨g, 0, none⟩), x.val, kv, .int .i64 p] w (RRes (ruleM x ks) g tv q p av w)
include hw ht ha
theorem rd_neg (a : Ty) (hks : Tys w kv [a]) : RuleC g tv av q p w ⟨16, kd, n, s, t, u, l, c⟩ kv [a] := by
  obtain ⟨gk, cap, rfl, hk⟩ := tys_one hks
  unfold RuleC
  rw [show ruleM ⟨16, kd, n, s, t, u, l, c⟩ [a] = needM (a == .int) 23 .int by simp [ruleM]]
  exact (rr_neg kd n s t u l c a _ (str_is a .int 105 rfl) g tv av q p w hw ht ha gk cap hk).mono fun e w' h => RRes.need h fun _ => rfl
theorem rd_size (a : Ty) (hks : Tys w kv [a]) : RuleC g tv av q p w ⟨17, kd, n, s, t, u, l, c⟩ kv [a] := by
  obtain ⟨gk, cap, rfl, hk⟩ := tys_one hks
  unfold RuleC
  rw [show ruleM ⟨17, kd, n, s, t, u, l, c⟩ [a] = needM (a == .text) 23 .int by simp [ruleM]]
  exact (rr_size kd n s t u l c a _ (str_is a .text 116 rfl) g tv av q p w hw ht ha gk cap hk).mono fun e w' h => RRes.need h fun _ => rfl
theorem rd_add (a d : Ty) (hks : Tys w kv [a, d]) : RuleC g tv av q p w ⟨10, kd, n, s, t, u, l, c⟩ kv [a, d] := by
  obtain ⟨gk, cap, rfl, hk, hk1⟩ := tys_two hks
  unfold RuleC
  rw [show ruleM ⟨10, kd, n, s, t, u, l, c⟩ [a, d] = needM ((a == .int) && (d == .int)) 23 .int by simp [ruleM]]
  exact (rr_add kd n s t u l c a d _ _ (str_is a .int 105 rfl) (str_is d .int 105 rfl) g tv av q p w hw ht ha gk cap hk hk1).mono fun e w' h => RRes.need h fun _ => rfl
theorem rd_sub (a d : Ty) (hks : Tys w kv [a, d]) : RuleC g tv av q p w ⟨11, kd, n, s, t, u, l, c⟩ kv [a, d] := by
  obtain ⟨gk, cap, rfl, hk, hk1⟩ := tys_two hks
  unfold RuleC
  rw [show ruleM ⟨11, kd, n, s, t, u, l, c⟩ [a, d] = needM ((a == .int) && (d == .int)) 23 .int by simp [ruleM]]
  exact (rr_sub kd n s t u l c a d _ _ (str_is a .int 105 rfl) (str_is d .int 105 rfl) g tv av q p w hw ht ha gk cap hk hk1).mono fun e w' h => RRes.need h fun _ => rfl
theorem rd_mul (a d : Ty) (hks : Tys w kv [a, d]) : RuleC g tv av q p w ⟨12, kd, n, s, t, u, l, c⟩ kv [a, d] := by
  obtain ⟨gk, cap, rfl, hk, hk1⟩ := tys_two hks
  unfold RuleC
  rw [show ruleM ⟨12, kd, n, s, t, u, l, c⟩ [a, d] = needM ((a == .int) && (d == .int)) 23 .int by simp [ruleM]]
  exact (rr_mul kd n s t u l c a d _ _ (str_is a .int 105 rfl) (str_is d .int 105 rfl) g tv av q p w hw ht ha gk cap hk hk1).mono fun e w' h => RRes.need h fun _ => rfl
theorem rd_join (a d : Ty) (hks : Tys w kv [a, d]) : RuleC g tv av q p w ⟨13, kd, n, s, t, u, l, c⟩ kv [a, d] := by
  obtain ⟨gk, cap, rfl, hk, hk1⟩ := tys_two hks
  unfold RuleC
  rw [show ruleM ⟨13, kd, n, s, t, u, l, c⟩ [a, d] = needM ((a == .text) && (d == .text)) 23 .text by simp [ruleM]]
  exact (rr_join kd n s t u l c a d _ _ (str_is a .text 116 rfl) (str_is d .text 116 rfl) g tv av q p w hw ht ha gk cap hk hk1).mono fun e w' h => RRes.need h fun _ => rfl
theorem rd_eq (a d : Ty) (hks : Tys w kv [a, d]) : RuleC g tv av q p w ⟨14, kd, n, s, t, u, l, c⟩ kv [a, d] := by
  obtain ⟨gk, cap, rfl, hk, hk1⟩ := tys_two hks
  unfold RuleC
  rw [show ruleM ⟨14, kd, n, s, t, u, l, c⟩ [a, d] = needM ((a == .int) && (d == .int)) 23 .bool by simp [ruleM]]
  exact (rr_eq kd n s t u l c a d _ _ (str_is a .int 105 rfl) (str_is d .int 105 rfl) g tv av q p w hw ht ha gk cap hk hk1).mono fun e w' h => RRes.need h fun _ => rfl
theorem rd_less (a d : Ty) (hks : Tys w kv [a, d]) : RuleC g tv av q p w ⟨15, kd, n, s, t, u, l, c⟩ kv [a, d] := by
  obtain ⟨gk, cap, rfl, hk, hk1⟩ := tys_two hks
  unfold RuleC
  rw [show ruleM ⟨15, kd, n, s, t, u, l, c⟩ [a, d] = needM ((a == .int) && (d == .int)) 23 .bool by simp [ruleM]]
  exact (rr_less kd n s t u l c a d _ _ (str_is a .int 105 rfl) (str_is d .int 105 rfl) g tv av q p w hw ht ha gk cap hk hk1).mono fun e w' h => RRes.need h fun _ => rfl
theorem rd_first (x : Ty) (hx : x.fits) (hks : Tys w kv [x]) : RuleC g tv av q p w ⟨19, kd, n, s, t, u, l, c⟩ kv [x] := by
  obtain ⟨gk, cap, rfl, hk⟩ := tys_one hks
  unfold RuleC
  by_cases hh : x.hd = 44
  · have hb : (((x.hd.toNat : Nat) : Int) == 44) = true := by rw [hh]; rfl
    cases x <;> simp [Ty.hd] at hh
    rename_i a b
    rw [show ruleM ⟨19, kd, n, s, t, u, l, c⟩ [.pair a b] = .ok a by simp [ruleM]]
    exact (rr_first kd n s t u l c (.pair a b) true _ hb (fun w => part_yes (.pair a b) a hx 0 rfl w) g tv av q p w hw ht ha gk cap hk).mono fun e w' h => RRes.good h
  · have hb : (((x.hd.toNat : Nat) : Int) == 44) = false := by rw [show ((44 : Int)) = (((44 : UInt8).toNat : Nat) : Int) from rfl, hd_beq]; exact decide_eq_false hh
    rw [show ruleM ⟨19, kd, n, s, t, u, l, c⟩ [x] = .error 23 by cases x <;> simp [Ty.hd] at hh <;> simp [ruleM]]
    exact (rr_first kd n s t u l c x false _ hb (fun w => part_no x 44 hh 0 w) g tv av q p w hw ht ha gk cap hk).mono fun e w' h => RRes.fail (c := 0) h
theorem rd_second (x : Ty) (hx : x.fits) (hks : Tys w kv [x]) : RuleC g tv av q p w ⟨20, kd, n, s, t, u, l, c⟩ kv [x] := by
  obtain ⟨gk, cap, rfl, hk⟩ := tys_one hks
  unfold RuleC
  by_cases hh : x.hd = 44
  · have hb : (((x.hd.toNat : Nat) : Int) == 44) = true := by rw [hh]; rfl
    cases x <;> simp [Ty.hd] at hh
    rename_i a b
    rw [show ruleM ⟨20, kd, n, s, t, u, l, c⟩ [.pair a b] = .ok b by simp [ruleM]]
    exact (rr_second kd n s t u l c (.pair a b) true _ hb (fun w => part_yes (.pair a b) b hx 1 rfl w) g tv av q p w hw ht ha gk cap hk).mono fun e w' h => RRes.good h
  · have hb : (((x.hd.toNat : Nat) : Int) == 44) = false := by rw [show ((44 : Int)) = (((44 : UInt8).toNat : Nat) : Int) from rfl, hd_beq]; exact decide_eq_false hh
    rw [show ruleM ⟨20, kd, n, s, t, u, l, c⟩ [x] = .error 23 by cases x <;> simp [Ty.hd] at hh <;> simp [ruleM]]
    exact (rr_second kd n s t u l c x false _ hb (fun w => part_no x 44 hh 1 w) g tv av q p w hw ht ha gk cap hk).mono fun e w' h => RRes.fail (c := 0) h
theorem rd_head (x : Ty) (hx : x.fits) (hks : Tys w kv [x]) : RuleC g tv av q p w ⟨22, kd, n, s, t, u, l, c⟩ kv [x] := by
  obtain ⟨gk, cap, rfl, hk⟩ := tys_one hks
  unfold RuleC
  by_cases hh : x.hd = 108
  · have hb : (((x.hd.toNat : Nat) : Int) == 108) = true := by rw [hh]; rfl
    cases x <;> simp [Ty.hd] at hh
    rename_i a
    rw [show ruleM ⟨22, kd, n, s, t, u, l, c⟩ [.list a] = .ok a by simp [ruleM]]
    exact (rr_head kd n s t u l c (.list a) true _ hb (fun w => part_yes (.list a) a hx 0 rfl w) g tv av q p w hw ht ha gk cap hk).mono fun e w' h => RRes.good h
  · have hb : (((x.hd.toNat : Nat) : Int) == 108) = false := by rw [show ((108 : Int)) = (((108 : UInt8).toNat : Nat) : Int) from rfl, hd_beq]; exact decide_eq_false hh
    rw [show ruleM ⟨22, kd, n, s, t, u, l, c⟩ [x] = .error 23 by cases x <;> simp [Ty.hd] at hh <;> simp [ruleM]]
    exact (rr_head kd n s t u l c x false _ hb (fun w => part_no x 108 hh 0 w) g tv av q p w hw ht ha gk cap hk).mono fun e w' h => RRes.fail (c := 0) h
theorem rd_get (x : Ty) (hx : x.fits) (hks : Tys w kv [x]) : RuleC g tv av q p w ⟨27, kd, n, s, t, u, l, c⟩ kv [x] := by
  obtain ⟨gk, cap, rfl, hk⟩ := tys_one hks
  unfold RuleC
  by_cases hh : x.hd = 120
  · have hb : (((x.hd.toNat : Nat) : Int) == 120) = true := by rw [hh]; rfl
    cases x <;> simp [Ty.hd] at hh
    rename_i a
    rw [show ruleM ⟨27, kd, n, s, t, u, l, c⟩ [.box a] = .ok a by simp [ruleM]]
    exact (rr_get kd n s t u l c (.box a) true _ hb (fun w => part_yes (.box a) a hx 0 rfl w) g tv av q p w hw ht ha gk cap hk).mono fun e w' h => RRes.good h
  · have hb : (((x.hd.toNat : Nat) : Int) == 120) = false := by rw [show ((120 : Int)) = (((120 : UInt8).toNat : Nat) : Int) from rfl, hd_beq]; exact decide_eq_false hh
    rw [show ruleM ⟨27, kd, n, s, t, u, l, c⟩ [x] = .error 23 by cases x <;> simp [Ty.hd] at hh <;> simp [ruleM]]
    exact (rr_get kd n s t u l c x false _ hb (fun w => part_no x 120 hh 0 w) g tv av q p w hw ht ha gk cap hk).mono fun e w' h => RRes.fail (c := 0) h
theorem rd_tail (x : Ty) (hx : x.fits) (hks : Tys w kv [x]) : RuleC g tv av q p w ⟨23, kd, n, s, t, u, l, c⟩ kv [x] := by
  obtain ⟨gk, cap, rfl, hk⟩ := tys_one hks
  unfold RuleC
  by_cases hh : x.hd = 108
  · have hb : (((x.hd.toNat : Nat) : Int) == 108) = true := by rw [hh]; rfl
    cases x <;> simp [Ty.hd] at hh
    rename_i a
    rw [show ruleM ⟨23, kd, n, s, t, u, l, c⟩ [.list a] = .ok (.list a) by simp [ruleM]]
    exact (rr_tail kd n s t u l c (.list a) true hb g tv av q p w hw ht ha gk cap hk).mono fun e w' h => RRes.good h
  · have hb : (((x.hd.toNat : Nat) : Int) == 108) = false := by rw [show ((108 : Int)) = (((108 : UInt8).toNat : Nat) : Int) from rfl, hd_beq]; exact decide_eq_false hh
    rw [show ruleM ⟨23, kd, n, s, t, u, l, c⟩ [x] = .error 23 by cases x <;> simp [Ty.hd] at hh <;> simp [ruleM]]
    exact (rr_tail kd n s t u l c x false hb g tv av q p w hw ht ha gk cap hk).mono fun e w' h => RRes.fail (c := 0) h
theorem rd_empty (x : Ty) (hx : x.fits) (hks : Tys w kv [x]) : RuleC g tv av q p w ⟨24, kd, n, s, t, u, l, c⟩ kv [x] := by
  obtain ⟨gk, cap, rfl, hk⟩ := tys_one hks
  unfold RuleC
  by_cases hh : x.hd = 108
  · have hb : (((x.hd.toNat : Nat) : Int) == 108) = true := by rw [hh]; rfl
    cases x <;> simp [Ty.hd] at hh
    rename_i a
    rw [show ruleM ⟨24, kd, n, s, t, u, l, c⟩ [.list a] = .ok .bool by simp [ruleM]]
    exact (rr_empty kd n s t u l c (.list a) true hb g tv av q p w hw ht ha gk cap hk).mono fun e w' h => RRes.good h
  · have hb : (((x.hd.toNat : Nat) : Int) == 108) = false := by rw [show ((108 : Int)) = (((108 : UInt8).toNat : Nat) : Int) from rfl, hd_beq]; exact decide_eq_false hh
    rw [show ruleM ⟨24, kd, n, s, t, u, l, c⟩ [x] = .error 23 by cases x <;> simp [Ty.hd] at hh <;> simp [ruleM]]
    exact (rr_empty kd n s t u l c x false hb g tv av q p w hw ht ha gk cap hk).mono fun e w' h => RRes.fail (c := 0) h
theorem rd_call (x y : Ty) (hx : x.fits) (hks : Tys w kv [x, y]) : RuleC g tv av q p w ⟨7, kd, n, s, t, u, l, c⟩ kv [x, y] := by
  obtain ⟨gk, cap, rfl, hk, hk1⟩ := tys_two hks
  unfold RuleC
  by_cases hh : x.hd = 62
  · cases x <;> simp [Ty.hd] at hh
    rename_i a b
    rw [show ruleM ⟨7, kd, n, s, t, u, l, c⟩ [.fn a b, y] = needM (a == y) 23 b by simp [ruleM]]
    exact (rr_call kd n s t u l c (.fn a b) y _ _ _ (str_same a y) (fun w => part_yes (.fn a b) a hx 0 rfl w) (fun w => part_yes (.fn a b) b hx 1 rfl w) g tv av q p w hw ht ha gk cap hk hk1).mono fun e w' h => RRes.need h fun _ => rfl
  · rw [show ruleM ⟨7, kd, n, s, t, u, l, c⟩ [x, y] = .error 23 by cases x <;> simp [Ty.hd] at hh <;> simp [ruleM]]
    exact (rr_call kd n s t u l c x y _ _ _ (none_beq y) (fun w => part_no x 62 hh 0 w) (fun w => part_no x 62 hh 1 w) g tv av q p w hw ht ha gk cap hk hk1).mono fun e w' h => RRes.fail (c := 0) h
theorem rd_cons (x y : Ty) (hy : y.fits) (hks : Tys w kv [x, y]) : RuleC g tv av q p w ⟨25, kd, n, s, t, u, l, c⟩ kv [x, y] := by
  obtain ⟨gk, cap, rfl, hk, hk1⟩ := tys_two hks
  unfold RuleC
  rw [show ruleM ⟨25, kd, n, s, t, u, l, c⟩ [x, y] = needM (y == .list x) 23 y by simp [ruleM]]
  by_cases hh : y.hd = 108
  · cases y <;> simp [Ty.hd] at hh
    rename_i a
    rw [show ((Ty.list a == Ty.list x) : Bool) = (a == x) by rw [Bool.eq_iff_iff]; simp]
    exact (rr_cons kd n s t u l c x (.list a) _ _ (str_same a x) (fun w => part_yes (.list a) a hy 0 rfl w) g tv av q p w hw ht ha gk cap hk hk1).mono fun e w' h => RRes.need h fun _ => rfl
  · rw [show ((y == Ty.list x) : Bool) = false by cases y <;> simp [Ty.hd] at hh <;> rfl]
    exact (rr_cons kd n s t u l c x y _ _ (none_beq x) (fun w => part_no y 108 hh 0 w) g tv av q p w hw ht ha gk cap hk hk1).mono fun e w' h => RRes.need h fun h => by cases h
theorem rd_set (x y : Ty) (hx : x.fits) (hks : Tys w kv [x, y]) : RuleC g tv av q p w ⟨28, kd, n, s, t, u, l, c⟩ kv [x, y] := by
  obtain ⟨gk, cap, rfl, hk, hk1⟩ := tys_two hks
  unfold RuleC
  rw [show ruleM ⟨28, kd, n, s, t, u, l, c⟩ [x, y] = needM (x == .box y) 23 y by simp [ruleM]]
  by_cases hh : x.hd = 120
  · cases x <;> simp [Ty.hd] at hh
    rename_i a
    rw [show ((Ty.box a == Ty.box y) : Bool) = (a == y) by rw [Bool.eq_iff_iff]; simp]
    exact (rr_set kd n s t u l c (.box a) y _ _ (str_same a y) (fun w => part_yes (.box a) a hx 0 rfl w) g tv av q p w hw ht ha gk cap hk hk1).mono fun e w' h => RRes.need h fun _ => rfl
  · rw [show ((x == Ty.box y) : Bool) = false by cases x <;> simp [Ty.hd] at hh <;> rfl]
    exact (rr_set kd n s t u l c x y _ _ (none_beq y) (fun w => part_no x 120 hh 0 w) g tv av q p w hw ht ha gk cap hk hk1).mono fun e w' h => RRes.need h fun h => by cases h
theorem rd_choice (a x y : Ty) (hks : Tys w kv [a, x, y]) : RuleC g tv av q p w ⟨9, kd, n, s, t, u, l, c⟩ kv [a, x, y] := by
  obtain ⟨gk, cap, rfl, hk, hk1, hk2⟩ := tys_three hks
  unfold RuleC
  rw [show ruleM ⟨9, kd, n, s, t, u, l, c⟩ [a, x, y] = needM (a == .bool && x == y) 23 x by simp [ruleM]]
  have hb := str_is a .bool 98 rfl
  cases hab : (a == Ty.bool) with
  | false => exact (rr_choice_no kd n s t u l c a x y _ (hb.trans hab) (str_same x y) g tv av q p w hw ht ha gk cap hk hk1 hk2).mono fun e w' h => RRes.need h fun h => by cases h
  | true => exact (rr_choice_yes kd n s t u l c a x y _ (hb.trans hab) (str_same x y) g tv av q p w hw ht ha gk cap hk hk1 hk2).mono fun e w' h => RRes.need (b := true && (x == y)) h fun _ => rfl
theorem rd_box (a : Ty) (hf : a.fits) (hks : Tys w kv [a]) : RuleC g tv av q p w ⟨26, kd, n, s, t, u, l, c⟩ kv [a] := by
  obtain ⟨gk, cap, rfl, hk⟩ := tys_one hks
  unfold RuleC
  rw [show ruleM ⟨26, kd, n, s, t, u, l, c⟩ [a] = madeM (.box a) by simp [ruleM]]
  exact (rr_box kd n s t u l c a hf g tv av q p w hw ht ha gk cap hk).mono fun e w' h => RRes.made h
theorem rd_pair (a d : Ty) (hf : a.fits) (hd : d.fits) (hks : Tys w kv [a, d]) : RuleC g tv av q p w ⟨18, kd, n, s, t, u, l, c⟩ kv [a, d] := by
  obtain ⟨gk, cap, rfl, hk, hk1⟩ := tys_two hks
  unfold RuleC
  rw [show ruleM ⟨18, kd, n, s, t, u, l, c⟩ [a, d] = madeM (.pair a d) by simp [ruleM]]
  exact (rr_pair kd n s t u l c a d hf hd g tv av q p w hw ht ha gk cap hk hk1).mono fun e w' h => RRes.made h
theorem rd_list (a : Ty) (hf : a.fits) (ks : List Ty) (hlen : ks.length ≤ 100000) (hks : Tys w kv ks) : RuleC g tv av q p w ⟨21, kd, n, s, a.str, u, l, c⟩ kv ks := by
  unfold RuleC
  rw [show ruleM ⟨21, kd, n, s, a.str, u, l, c⟩ ks = (if ks.all (· == a) then madeM (.list a) else .error 23) by simp [ruleM, tyOf_str a hf]]
  refine (rr_list kd n s u l c a hf ks hlen g tv av kv q p w hw ht ha hks).mono fun e w' h => ?_
  cases hb : ks.all (· == a) with
  | true => rw [hb] at h; exact RRes.made h
  | false =>
    rw [hb] at h
    refine ⟨(Ty.list a).str, ?_, fun t ht => by cases ht⟩
    have e : madeS (.list a) (askS false p) p = some (23, p) := by unfold madeS; split <;> rfl
    rw [e] at h
    exact h
end

/-- Every kind that is not a leaf, a cast, a binder. -/
theorem rd_any (g : Nat) (tv av : Value) (q : Int) (p m : Nat) (w : World) (hw : WkS g tv q none av w) (ht : ∀ s, tv ≠ .string s) (ha : ∀ s, av ≠ .string s) (x : Nd) (ks : List Ty) (kv : Value)
    (hks : Tys w kv ks) (hfit : ∀ t ∈ ks, t.fits) (hwd : wordsM x m = none) (hk : kidsOk x = true) (hl : (ks.length : Int) = x.kids) (h1 : x.kind ≠ 1) (h2 : x.kind ≠ 2) (h3 : x.kind ≠ 3) (h4 : x.kind ≠ 4) (h5 : x.kind ≠ 5) (h6 : x.kind ≠ 6) (h8 : x.kind ≠ 8) (h30 : x.kind ≠ 30) (hlen : ks.length ≤ 100000) :
    RuleC g tv av q p w x kv ks := by
  obtain ⟨k, kd, n, s, t, u, l, c⟩ := x
  obtain ⟨a, haa, h0, hcc⟩ := kids_facts hk
  simp only at haa h0 hcc hl h1 h2 h3 h4 h5 h6 h8 h30
  have hkd : a = -1 ∨ kd = a := by
    rcases hcc with h | ⟨_, h⟩
    · left; simpa using h
    · right; simpa using (beq_iff_eq.1 h).symm
  clear hcc hk h0
  unfold arM at haa
  split at haa
  · rename_i hc
    rcases hc with rfl | rfl | rfl | rfl <;> contradiction
  · split at haa
    · rename_i hc
      cases haa
      have hk1 : kd = 1 := hkd.resolve_left (by omega)
      subst hk1
      obtain ⟨x, rfl⟩ := len1 hl
      have hx : x.fits := hfit x (by simp)
      rcases hc with rfl | rfl | rfl | rfl | rfl | rfl | rfl | rfl | rfl | rfl | rfl | rfl
      · contradiction
      · contradiction
      · exact rd_neg g tv av q p w hw ht ha _ n s t u l c kv x hks
      · exact rd_size g tv av q p w hw ht ha _ n s t u l c kv x hks
      · exact rd_first g tv av q p w hw ht ha _ n s t u l c kv x hx hks
      · exact rd_second g tv av q p w hw ht ha _ n s t u l c kv x hx hks
      · exact rd_head g tv av q p w hw ht ha _ n s t u l c kv x hx hks
      · exact rd_tail g tv av q p w hw ht ha _ n s t u l c kv x hx hks
      · exact rd_empty g tv av q p w hw ht ha _ n s t u l c kv x hx hks
      · exact rd_box g tv av q p w hw ht ha _ n s t u l c kv x hx hks
      · exact rd_get g tv av q p w hw ht ha _ n s t u l c kv x hx hks
      · contradiction
    · split at haa
      · rename_i hc
        cases haa
        have hk1 : kd = 2 := hkd.resolve_left (by omega)
        subst hk1
        obtain ⟨x, y, rfl⟩ := len2 hl
        have hx : x.fits := hfit x (by simp)
        have hy : y.fits := hfit y (by simp)
        rcases hc with rfl | rfl | rfl | rfl | rfl | rfl | rfl | rfl | rfl | rfl | rfl
        · exact rd_call g tv av q p w hw ht ha _ n s t u l c kv x y hx hks
        · contradiction
        · exact rd_add g tv av q p w hw ht ha _ n s t u l c kv x y hks
        · exact rd_sub g tv av q p w hw ht ha _ n s t u l c kv x y hks
        · exact rd_mul g tv av q p w hw ht ha _ n s t u l c kv x y hks
        · exact rd_join g tv av q p w hw ht ha _ n s t u l c kv x y hks
        · exact rd_eq g tv av q p w hw ht ha _ n s t u l c kv x y hks
        · exact rd_less g tv av q p w hw ht ha _ n s t u l c kv x y hks
        · exact rd_pair g tv av q p w hw ht ha _ n s t u l c kv x y hx hy hks
        · exact rd_cons g tv av q p w hw ht ha _ n s t u l c kv x y hy hks
        · exact rd_set g tv av q p w hw ht ha _ n s t u l c kv x y hx hks
      · split at haa
        · rename_i hc
          cases haa
          have hk1 : kd = 3 := hkd.resolve_left (by omega)
          subst hk1
          obtain ⟨x, y, z, rfl⟩ := len3 hl
          subst hc
          exact rd_choice g tv av q p w hw ht ha _ n s t u l c kv x y z hks
        · split at haa
          · rename_i hc
            subst hc
            cases hty : tyOf t with
            | none => simp [wordsM, hty] at hwd
            | some a =>
              obtain ⟨rfl, hae⟩ := tyOf_good hty
              exact rd_list g tv av q p w hw ht ha _ n s u l c kv a hae ks hlen hks
          · cases haa
end Go.Proofs.Ytnmhiddahfnkoaa
