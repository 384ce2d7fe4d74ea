
/- Walks of the document's checker: environments; the table, whole. -/
import Derived.Test.YtdobaililmkkcaaGreatDoorMe
import Derived.Test.YtdobaililmkkcaaGreatDoorKr
import Derived.Test.YtdobaililmkkcaaGreatDoorKs
import Derived.Laws.CopyRow
import Derived.OwnWalk
namespace Culp.Tr
set_option linter.unusedSimpArgs false
set_option linter.unusedVariables false
section
variable {same : Bool} {x : Nd} {env : Env} {p p0 p1 p2 : Nat} {t0 t1 t2 : Ty} {K : List (Nat × Ty)}
theorem nodeG_19 (h : x.kind = 19) : nodeT same x env p ((p0, t0) :: K) = partT p0 t0 44 0 := by simp [nodeT, h]
theorem nodeG_20 (h : x.kind = 20) : nodeT same x env p ((p0, t0) :: K) = partT p0 t0 44 1 := by simp [nodeT, h]
theorem nodeG_26 (h : x.kind = 26) : nodeT same x env p ((p0, t0) :: K) = .ok (.box t0) := by simp [nodeT, h]
theorem nodeG_27 (h : x.kind = 27) : nodeT same x env p ((p0, t0) :: K) = partT p0 t0 120 0 := by simp [nodeT, h]
theorem nodeG_22 (h : x.kind = 22) : nodeT same x env p ((p0, t0) :: K) = partT p0 t0 108 0 := by simp [nodeT, h]
theorem nodeG_23 (h : x.kind = 23) : nodeT same x env p ((p0, t0) :: K) = (partT p0 t0 108 0).map .list := by simp [nodeT, h]
theorem nodeG_24 (h : x.kind = 24) : nodeT same x env p ((p0, t0) :: K) = (partT p0 t0 108 0).map fun _ => .bool := by simp [nodeT, h]
theorem nodeG_21 (h : x.kind = 21) : nodeT same x env p ((p0, t0) :: K) = (meetsT same p t0 K).map .list := by simp [nodeT, h]
theorem nodeG_18 (h : x.kind = 18) : nodeT same x env p ([(p0, t0), (p1, t1)]) = .ok (.pair t0 t1) := by simp [nodeT, h]
theorem nodeG_21e (h : x.kind = 21) : nodeT same x env p [] = .ok (.list .dyn) := by simp [nodeT, h]
theorem nodeG_29 (h : x.kind = 29) : nodeT same x env p ((p0, t0) :: K) = fitG same (.ok (noteT x.t)) t0 (noteT x.t) 23 p := by simp [nodeT, h, fitG]
theorem nodeG_5 (h : x.kind = 5) : nodeT same x env p ((p0, t0) :: K) = fitG same (.ok (.fn (noteT x.t) (noteT x.u))) t0 (noteT x.u) 23 p0 := by simp [nodeT, h, fitG]
theorem nodeG_6 (h : x.kind = 6) : nodeT same x env p ((p0, t0) :: K) = fitG same (.ok (.fn (noteT x.t) (noteT x.u))) t0 (noteT x.u) 23 p0 := by simp [nodeT, h, fitG]
theorem nodeG_8 (h : x.kind = 8) : nodeT same x env p [(p0, t0), (p1, t1)] = fitG same (.ok t1) t0 (noteT x.t) 23 p0 := by simp [nodeT, h, fitG]
theorem nodeG_28 (h : x.kind = 28) : nodeT same x env p [(p0, t0), (p1, t1)] = fitG same (partT p0 t0 120 0) t1 (tyQ (partT p0 t0 120 0)) 23 p1 := by
  simp only [nodeT, h]
  simp
  unfold fitG partT
  cases matchT t0 120 <;> simp [tyQ]
theorem nodeG_7 (h : x.kind = 7) : nodeT same x env p [(p0, t0), (p1, t1)] = callG same p0 t0 p1 t1 := by
  simp only [nodeT, h]
  simp
  unfold callG fitG thenPart partT
  cases matchT t0 62 <;> simp [tyQ]
theorem nodeG_25 (h : x.kind = 25) : nodeT same x env p [(p0, t0), (p1, t1)] = (fitG same (partT p1 t1 108 0) t0 (tyQ (partT p1 t1 108 0)) 23 p0).map .list := by
  simp only [nodeT, h]
  simp
  unfold fitG partT
  cases matchT t1 108 with
  | none => simp [tyQ]; rfl
  | some l =>
    simp only [List.getD_eq_getElem?_getD, tyQ]
    generalize fitT same t0 (l[0]?.getD .dyn) 23 p0 = r
    cases r <;> rfl
theorem nodeG_9 (h : x.kind = 9) : nodeT same x env p [(p0, t0), (p1, t1), (p2, t2)] = ifG same p p0 t0 t1 [(p2, t2)] := by
  simp only [nodeT, h]
  simp
  unfold ifG
  rfl
theorem nodeG_1 (h : x.kind = 1) : nodeT same x env p K = .ok .int := by simp [nodeT, h]
theorem nodeG_2 (h : x.kind = 2) : nodeT same x env p K = .ok .text := by simp [nodeT, h]
theorem nodeG_3 (h : x.kind = 3) : nodeT same x env p K = .ok .bool := by simp [nodeT, h]
theorem nodeG_4 (h : x.kind = 4) : nodeT same x env p K = Go.Proofs.YtdobaililmkkcaaGreatDoor.lookR env x.s p := by
  simp only [nodeT, h, Go.Proofs.YtdobaililmkkcaaGreatDoor.lookR]
  simp
  cases lookT env x.s <;> rfl
end
end Culp.Tr
namespace Go.Proofs.YtdobaililmkkcaaGreatDoor
set_option linter.unusedSimpArgs false
set_option linter.unusedVariables false
open Go.RowKit Culp
def bcells (b : ByteArray × Ty) : List Value := [.string b.1, .string b.2.str]
theorem flat_bind : ∀ (L : List (ByteArray × Ty)) (k : Nat) (b : ByteArray × Ty), L[k]? = some b → (L.flatMap bcells)[k * 2]? = some (.string b.1) ∧ (L.flatMap bcells)[k * 2 + 1]? = some (.string b.2.str)
  | [], k, b, h => by simp at h
  | c :: L, 0, b, h => by
    simp only [List.getElem?_cons_zero, Option.some.injEq] at h
    subst h
    exact ⟨rfl, rfl⟩
  | c :: L, k + 1, b, h => by
    rw [List.getElem?_cons_succ] at h
    have := flat_bind L k b h
    rw [List.flatMap_cons, show (k + 1) * 2 = (k * 2) + 2 by omega, show k * 2 + 2 + 1 = (k * 2 + 1) + 2 by omega]
    exact this
theorem flat_bind_len (L : List (ByteArray × Ty)) : (L.flatMap bcells).length = L.length * 2 := by
  induction L with
  | nil => rfl
  | cons c L ih => rw [List.flatMap_cons, List.length_append, ih]; simp [bcells]; omega
/-- An environment in memory: a row of its own, the innermost name last. -/
def RkEnv (B : Nat) (w : World) (v : Value) (l : Tr.Env) : Prop := w.ownsRow B 88 2 v l.length (l.reverse.flatMap bcells)
theorem RkEnv.read {B : Nat} {w : World} {A : Option Addr} {n C : Nat} {l : Tr.Env} (h : RkEnv B w (.slice A n C) l) {k m : Nat} {b : ByteArray × Ty} (hkm : k + m + 1 = l.length) (hb : l[m]? = some b) : ∃ g, A = some ⟨g, 0, none⟩ ∧ w.cell? ⟨g, k * 2, none⟩ = some (.string b.1) ∧ w.cell? ⟨g, k * 2 + 1, none⟩ = some (.string b.2.str) := by
  have hr : l.reverse[k]? = some b := by
    rw [List.getElem?_reverse (by omega)]
    rw [show l.length - 1 - k = m by omega]
    exact hb
  obtain ⟨f1, f2⟩ := flat_bind _ _ _ hr
  rcases h.2 with ⟨_, h0⟩ | ⟨g, cap, cur, e, hB, hh, hc, hm, hsz, htk⟩
  · omega
  · simp only [Value.slice.injEq] at e
    obtain ⟨rfl, rfl, rfl⟩ := e
    rw [← htk] at f1 f2
    rw [List.getElem?_take] at f1 f2
    refine ⟨g, rfl, ?_, ?_⟩
    · split at f1
      · simp only [World.cell?, hh]; simpa using f1
      · cases f1
    · split at f2
      · simp only [World.cell?, hh]; simpa using f2
      · cases f2
theorem RkEnv.len {B : Nat} {w : World} {v : Value} {l : Tr.Env} (h : RkEnv B w v l) : (l.length : Int) ≤ 9223372036854775807 := by
  rcases h.2 with ⟨_, h0⟩ | ⟨g, cap, cur, e, hB, hh, hc, hm, hsz, htk⟩
  · omega
  · unfold maxLen at hm; omega
section
variable (c B : Nat) (sm : Bool) (tv yv : Value) (ys : List ByteArray) (a : Nat) (w : World)
variable (p : Nat) (x : Nd) (kv : Value) (iv : Value) (Be : Nat) (env : Tr.Env)
set_option maxRecDepth 100000 in
set_option maxHeartbeats 3200000 in
theorem rrule_4 (hk : x.kind = 4) (hE : RkEnv Be w iv env) (h : RkAt c B sm tv yv ys 0 a w) :
    Calls Tryz.prog 87 #[.pointer (some ⟨c, 0, none⟩), .int .i64 (p : Int), x.val, kv, iv] w (RkRule c B sm tv yv ys a (lookR env x.s p) w) := by
  obtain ⟨k, kd, n, s, t, u, l, cl⟩ := x
  obtain rfl : k = 4 := hk
  obtain ⟨A, C, rfl⟩ := own_shape hE
  have hlen := hE.len
  have hb0 : Below w.heap.size w (w.alloc (.cells #[.int .i8 4, .int .i64 kd, .int .i64 n, .string s, .string t, .string u, .int .i64 l, .int .i64 cl] 64)) := (Below.refl _ _).alloc (Nat.le_refl _) _
  have HX : Hid (Box w.heap.size (Nd.mk 4 kd n s t u l cl) (w.alloc (.cells #[.int .i8 4, .int .i64 kd, .int .i64 n, .string s, .string t, .string u, .int .i64 l, .int .i64 cl] 64))) := Lib.hid (MapKept.heap_alloc w _).1
  have HC1 := Lib.hid (h.later hb0)
  have HK1 : Hid (Keep c w (w.alloc (.cells #[.int .i8 4, .int .i64 kd, .int .i64 n, .string s, .string t, .string u, .int .i64 l, .int .i64 cl] 64))) := Lib.hid (Keep.of hb0)
  have HE1 : Hid (RkEnv Be (w.alloc (.cells #[.int .i8 4, .int .i64 kd, .int .i64 n, .string s, .string t, .string u, .int .i64 l, .int .i64 cl] 64)) (.slice A env.length C) env) := Lib.hid (own_later hE hb0)
  have x0 : ((w.alloc (.cells #[.int .i8 4, .int .i64 kd, .int .i64 n, .string s, .string t, .string u, .int .i64 l, .int .i64 cl] 64))).cell? ⟨w.heap.size, 0, none⟩ = some (.int .i8 4) := HX.out.cell 0
  show Calls Tryz.prog _ #[_, _, .agg #[.int .i8 4, .int .i64 kd, .int .i64 n, .string s, .string t, .string u, .int .i64 l, .int .i64 cl], _, _] w (RkRule c B sm tv yv ys a (lookR env s p) w)
  clear h hb0 hE
  go_enter Tryz.func87, Tryz.ntmps87
  go_wp2_with fail
  go_loopw [11] (fun i wr => ∃ (k m : Nat) (z : Int), k + m = env.length ∧ z = (k : Int) - 1 ∧ i = .int .i64 z ∧ Hid (lookR env s p = lookR (env.drop m) s p) ∧ Hid (RkAt c B sm tv yv ys 0 a wr) ∧ Hid (Keep c w wr) ∧ Hid (Box w.heap.size (Nd.mk 4 kd n s t u l cl) wr) ∧ Hid (RkEnv Be wr (.slice A env.length C) env)) (fun i _ => (intOf i + 1).toNat)
  case atStart => exact ⟨env.length, 0, (env.length : Int) - 1, by omega, rfl, by first | rfl | go_num, Lib.hid rfl, HC1, HK1, HX, HE1⟩
  case round =>
    obtain ⟨k, m, z, hkm, hz, rfl, HL, HC, HKW, HXW, HEW⟩ := hrel
    cases k with
    | zero =>
      obtain rfl : z = -1 := by omega
      have HR : Hid (lookR env s p = .error (22, p)) := Lib.hid (by rw [HL.out, List.drop_eq_nil_of_le (by omega)]; rfl)
      clear HL hz
      go_wp2_with fail
      refine (rno_any c B sm tv _ ys a _ 22 p HC.out).mono ?_
      rintro E w2 ⟨rfl, h2, k2⟩
      have HC2 := Lib.hid h2
      have HK2 := Lib.hid (HKW.out.trans k2)
      clear h2 k2
      go_wp2_with fail
      go_ret
      rw [HR.out]
      exact RkRule.mk (r := .error (22, p)) (fun b hb => by injection hb with hb; subst hb; show (22 : Int) ≠ 0; decide) (fun v hv => by cases hv) HK2.out HC2.out
    | succ k =>
      obtain rfl : z = (k : Int) := by omega
      obtain ⟨b, hb⟩ : ∃ b, env[m]? = some b := ⟨_, List.getElem?_eq_getElem (by omega)⟩
      have hd : env.drop m = b :: env.drop (m + 1) := by
        rw [List.drop_eq_getElem_cons (show m < env.length by omega)]
        rw [List.getElem?_eq_getElem (by omega)] at hb
        injection hb with hb
        rw [hb]
      rw [hd] at HL
      obtain ⟨g, hA, r0, r1⟩ := HEW.out.read (k := k) (m := m) (by omega) hb
      subst hA
      obtain ⟨nm, ty⟩ := b
      have x3 : wr.cell? ⟨w.heap.size, 3, none⟩ = some (.string s) := HXW.out.cell 3
      have hkl : (k : Int) < (env.length : Int) := by omega
      have hge : ¬ ((k : Int) < 0) := by omega
      have HKM := Lib.hid hkm
      clear hd hb hz hkm
      by_cases he : nm = s
      · have es : (nm.toList == s.toList) = true := by rw [he]; exact beq_self_eq_true _
        have HR : Hid (lookR env s p = .ok ty) := Lib.hid (by rw [HL.out, lookR_hit he])
        have HC2 := Lib.hid (fun nq => HC.out.later (below_dn wr nq))
        have HK2 : Hid (∀ nq, Keep c w (wr.drewN nq)) := Lib.hid (fun nq => HKW.out.trans (Keep.of (below_dn wr nq)))
        have r1' : ∀ nq, (wr.drewN nq).cell? ⟨g, k * 2 + 1, none⟩ = some (.string ty.str) := fun nq => cell_later (below_dn wr nq) r1
        clear he HL
        go_wp2_with fail
        go_quiet (fail)
        go_wp2_with fail
        go_ret
        rw [HR.out]
        exact RkRule.mk (r := .ok _) (Tr.good_ok _) (fun v hv => by injection hv with hv; subst hv; rfl) (HK2.out _) (HC2.out _)
      · have es : (nm.toList == s.toList) = false := beq_eq_false_iff_ne.2 (by rw [toL', toL']; exact fun h => he (str_inj' h))
        have HL' : Hid (lookR env s p = lookR (env.drop (m + 1)) s p) := Lib.hid (by rw [HL.out, lookR_miss he])
        have HC2 := Lib.hid (fun nq => HC.out.later (below_dn wr nq))
        have HK2 : Hid (∀ nq, Keep c w (wr.drewN nq)) := Lib.hid (fun nq => HKW.out.trans (Keep.of (below_dn wr nq)))
        have HX2 := Lib.hid (fun nq => HXW.out.later (below_dn wr nq))
        have HE2 : Hid (∀ nq, RkEnv Be (wr.drewN nq) (.slice (some ⟨g, 0, none⟩) env.length C) env) := Lib.hid (fun nq => own_later HEW.out (below_dn wr nq))
        clear he HL
        go_wp2_with fail
        go_quiet (fail)
        go_wp2_with fail
        go_roundw
        case rel => exact ⟨k, m + 1, (k : Int) - 1, by have := HKM.out; omega, rfl, by first | rfl | go_num, HL', Lib.hid (HC2.out _), Lib.hid (HK2.out _), Lib.hid (HX2.out _), Lib.hid (HE2.out _)⟩
        case measure => first | (simp [intOf]; done) | (simp [intOf]; omega)
end
section
variable (c B : Nat) (sm : Bool) (tv yv : Value) (ys : List ByteArray) (a : Nat) (w : World)
variable (p : Nat) (x : Nd) (env : Tr.Env) (K : List (Nat × Ty)) (kv iv : Value) (Be : Nat)
set_option maxHeartbeats 1600000 in
theorem rrule_any (hm : Tr.may x = true) (hlen : (K.length : Int) = x.kids) (hE : RkEnv Be w iv env) (hK : KV c w kv (K.map Prod.fst)) (hT : Told ys K) (hKl : K.length ≤ 1000000) (h : RkAt c B sm tv yv ys 0 a w) :
    Calls Tryz.prog 87 #[.pointer (some ⟨c, 0, none⟩), .int .i64 (p : Int), x.val, kv, iv] w (RkRule c B sm tv yv ys a (Tr.nodeT sm x env p K) w) := by
  obtain ⟨m1, m2, m3⟩ := may_note hm
  have hk : x.kind ≠ 30 ∧ (Tr.arit x.kind = -1 ∨ Tr.arit x.kind = x.kids) := by
    unfold Tr.may Tr.kOk at hm
    simp only [Bool.and_eq_true, decide_eq_true_eq, Bool.or_eq_true] at hm
    exact ⟨hm.1.1.1.1.1.1, hm.1.1.1.1.2⟩
  obtain ⟨hk30, hk⟩ := hk
  by_cases h1 : x.kind = 1
  · rw [Tr.nodeG_1 h1]
    exact rrule_1 c B sm tv yv ys a w p x kv iv h1 h
  by_cases h2 : x.kind = 2
  · rw [Tr.nodeG_2 h2]
    exact rrule_2 c B sm tv yv ys a w p x kv iv h2 h
  by_cases h3 : x.kind = 3
  · rw [Tr.nodeG_3 h3]
    exact rrule_3 c B sm tv yv ys a w p x kv iv h3 h
  by_cases h4 : x.kind = 4
  · rw [Tr.nodeG_4 h4]
    exact rrule_4 c B sm tv yv ys a w p x kv iv Be env h4 hE h
  obtain ⟨r1, r2, r3, r4⟩ := Tr.nodeT_row (same := sm) (x := x) (env := env) (p := p) (K := K)
  obtain ⟨l1, l2, l3⟩ := len_ge (K := K)
  by_cases h21 : x.kind = 21
  · refine rrule_data c B sm tv yv ys a w p x kv iv (by omega) _ fun w' hb => ?_
    cases K with
    | nil =>
      obtain ⟨A, C, hK⟩ := hK.2 rfl
      rw [Tr.nodeG_21e h21]
      exact rdata_21e c B sm tv yv ys a w' p x kv A C h21 hK (h.later hb)
    | cons y K =>
      obtain ⟨p0, t0⟩ := y
      rw [Tr.nodeG_21 h21]
      exact rdata_21 c B sm tv yv ys a w' p x p0 t0 K kv h21 ((hK.1 (by simp)).keep (Keep.of hb)) hT (h.later hb) (by simp at hKl; omega)
  have hK0 : K ≠ [] := by
    rintro rfl
    rcases hk with hk | hk
    · exact h21 (Tr.arit_neg hk)
    · have := Tr.arit_zero (hk.trans hlen.symm)
      omega
  have hKV := hK.1 (by simpa using hK0)
  have har : Tr.arit x.kind = (K.length : Int) := by
    rcases hk with hk | hk
    · exact absurd (Tr.arit_neg hk) h21
    · omega
  clear hk hlen
  by_cases h10 : x.kind = 10
  · rw [r1 (.inl h10)]
    exact rrule_10 (c := c) (B := B) (sm := sm) (tv := tv) (yv := yv) (ys := ys) (a := a) (w := w) (p := p) (x := x) (K := K) (kv := kv) (iv := iv) h10 hKV hT h hKl
  by_cases h11 : x.kind = 11
  · rw [r1 (.inr (.inl h11))]
    exact rrule_11 (c := c) (B := B) (sm := sm) (tv := tv) (yv := yv) (ys := ys) (a := a) (w := w) (p := p) (x := x) (K := K) (kv := kv) (iv := iv) h11 hKV hT h hKl
  by_cases h12 : x.kind = 12
  · rw [r1 (.inr (.inr (.inl h12)))]
    exact rrule_12 (c := c) (B := B) (sm := sm) (tv := tv) (yv := yv) (ys := ys) (a := a) (w := w) (p := p) (x := x) (K := K) (kv := kv) (iv := iv) h12 hKV hT h hKl
  by_cases h16 : x.kind = 16
  · rw [r1 (.inr (.inr (.inr h16)))]
    exact rrule_16 (c := c) (B := B) (sm := sm) (tv := tv) (yv := yv) (ys := ys) (a := a) (w := w) (p := p) (x := x) (K := K) (kv := kv) (iv := iv) h16 hKV hT h hKl
  by_cases h14 : x.kind = 14
  · rw [r2 (.inl h14)]
    exact rrule_14 (c := c) (B := B) (sm := sm) (tv := tv) (yv := yv) (ys := ys) (a := a) (w := w) (p := p) (x := x) (K := K) (kv := kv) (iv := iv) h14 hKV hT h hKl
  by_cases h15 : x.kind = 15
  · rw [r2 (.inr h15)]
    exact rrule_15 (c := c) (B := B) (sm := sm) (tv := tv) (yv := yv) (ys := ys) (a := a) (w := w) (p := p) (x := x) (K := K) (kv := kv) (iv := iv) h15 hKV hT h hKl
  by_cases h13 : x.kind = 13
  · rw [r3 h13]
    exact rrule_13 (c := c) (B := B) (sm := sm) (tv := tv) (yv := yv) (ys := ys) (a := a) (w := w) (p := p) (x := x) (K := K) (kv := kv) (iv := iv) h13 hKV hT h hKl
  by_cases h17 : x.kind = 17
  · rw [r4 h17]
    exact rrule_17 (c := c) (B := B) (sm := sm) (tv := tv) (yv := yv) (ys := ys) (a := a) (w := w) (p := p) (x := x) (K := K) (kv := kv) (iv := iv) h17 hKV hT h hKl
  by_cases h5 : x.kind = 5
  · obtain ⟨p0, t0, rfl⟩ := l1 (nat_of (n := 1) (by rw [h5] at har; exact har))
    rw [Tr.nodeG_5 h5]
    exact rrule_5 (c := c) (B := B) (sm := sm) (tv := tv) (yv := yv) (ys := ys) (a := a) (w := w) (p := p) (x := x) (p0 := p0) (t0 := t0) (K := []) (kv := kv) (iv := iv) h5 hKV hT h (m1 (.inl h5)) (m2 (.inl h5))
  by_cases h6 : x.kind = 6
  · obtain ⟨p0, t0, rfl⟩ := l1 (nat_of (n := 1) (by rw [h6] at har; exact har))
    rw [Tr.nodeG_6 h6]
    exact rrule_6 (c := c) (B := B) (sm := sm) (tv := tv) (yv := yv) (ys := ys) (a := a) (w := w) (p := p) (x := x) (p0 := p0) (t0 := t0) (K := []) (kv := kv) (iv := iv) h6 hKV hT h (m1 (.inr (.inl h6))) (m2 (.inr h6))
  by_cases h7 : x.kind = 7
  · obtain ⟨p0, t0, p1, t1, rfl⟩ := l2 (nat_of (n := 2) (by rw [h7] at har; exact har))
    rw [Tr.nodeG_7 h7]
    exact rrule_7 (c := c) (B := B) (sm := sm) (tv := tv) (yv := yv) (ys := ys) (a := a) (w := w) (p := p) (x := x) (p0 := p0) (t0 := t0) (p1 := p1) (t1 := t1) (kv := kv) (iv := iv) h7 hKV hT h 
  by_cases h8 : x.kind = 8
  · obtain ⟨p0, t0, p1, t1, rfl⟩ := l2 (nat_of (n := 2) (by rw [h8] at har; exact har))
    rw [Tr.nodeG_8 h8]
    exact rrule_8 (c := c) (B := B) (sm := sm) (tv := tv) (yv := yv) (ys := ys) (a := a) (w := w) (p := p) (x := x) (p0 := p0) (t0 := t0) (p1 := p1) (t1 := t1) (kv := kv) (iv := iv) h8 hKV hT h (m1 (.inr (.inr h8)))
  by_cases h9 : x.kind = 9
  · obtain ⟨p0, t0, p1, t1, p2, t2, rfl⟩ := l3 (nat_of (n := 3) (by rw [h9] at har; exact har))
    rw [Tr.nodeG_9 h9]
    exact rrule_9 (c := c) (B := B) (sm := sm) (tv := tv) (yv := yv) (ys := ys) (a := a) (w := w) (p := p) (x := x) (p0 := p0) (t0 := t0) (p1 := p1) (t1 := t1) (p2 := p2) (t2 := t2) (kv := kv) (iv := iv) h9 hKV hT h
  have hp : 0 < Tr.arit x.kind := by
    have := List.length_pos_iff.2 hK0
    omega
  have hpos := Tr.arit_pos hp
  refine rrule_data c B sm tv yv ys a w p x kv iv (by clear hp har r1 r2 r3 r4 l1 l2 l3; omega) _ fun w' hb => ?_
  replace hKV := hKV.keep (Keep.of (g := c) hb)
  replace h := h.later hb
  by_cases h19 : x.kind = 19
  · obtain ⟨p0, t0, rfl⟩ := l1 (nat_of (n := 1) (by rw [h19] at har; exact har))
    rw [Tr.nodeG_19 h19]
    exact rdata_19 (c := c) (B := B) (sm := sm) (tv := tv) (yv := yv) (ys := ys) (a := a) (w := w') (p := p) (x := x) (p0 := p0) (t0 := t0) (K := []) (kv := kv) h19 hKV hT h
  by_cases h20 : x.kind = 20
  · obtain ⟨p0, t0, rfl⟩ := l1 (nat_of (n := 1) (by rw [h20] at har; exact har))
    rw [Tr.nodeG_20 h20]
    exact rdata_20 (c := c) (B := B) (sm := sm) (tv := tv) (yv := yv) (ys := ys) (a := a) (w := w') (p := p) (x := x) (p0 := p0) (t0 := t0) (K := []) (kv := kv) h20 hKV hT h
  by_cases h26 : x.kind = 26
  · obtain ⟨p0, t0, rfl⟩ := l1 (nat_of (n := 1) (by rw [h26] at har; exact har))
    rw [Tr.nodeG_26 h26]
    exact rdata_26 (c := c) (B := B) (sm := sm) (tv := tv) (yv := yv) (ys := ys) (a := a) (w := w') (p := p) (x := x) (p0 := p0) (t0 := t0) (K := []) (kv := kv) h26 hKV hT h
  by_cases h27 : x.kind = 27
  · obtain ⟨p0, t0, rfl⟩ := l1 (nat_of (n := 1) (by rw [h27] at har; exact har))
    rw [Tr.nodeG_27 h27]
    exact rdata_27 (c := c) (B := B) (sm := sm) (tv := tv) (yv := yv) (ys := ys) (a := a) (w := w') (p := p) (x := x) (p0 := p0) (t0 := t0) (K := []) (kv := kv) h27 hKV hT h
  by_cases h22 : x.kind = 22
  · obtain ⟨p0, t0, rfl⟩ := l1 (nat_of (n := 1) (by rw [h22] at har; exact har))
    rw [Tr.nodeG_22 h22]
    exact rdata_22 (c := c) (B := B) (sm := sm) (tv := tv) (yv := yv) (ys := ys) (a := a) (w := w') (p := p) (x := x) (p0 := p0) (t0 := t0) (K := []) (kv := kv) h22 hKV hT h
  by_cases h23 : x.kind = 23
  · obtain ⟨p0, t0, rfl⟩ := l1 (nat_of (n := 1) (by rw [h23] at har; exact har))
    rw [Tr.nodeG_23 h23]
    exact rdata_23 (c := c) (B := B) (sm := sm) (tv := tv) (yv := yv) (ys := ys) (a := a) (w := w') (p := p) (x := x) (p0 := p0) (t0 := t0) (K := []) (kv := kv) h23 hKV hT h
  by_cases h24 : x.kind = 24
  · obtain ⟨p0, t0, rfl⟩ := l1 (nat_of (n := 1) (by rw [h24] at har; exact har))
    rw [Tr.nodeG_24 h24]
    exact rdata_24 (c := c) (B := B) (sm := sm) (tv := tv) (yv := yv) (ys := ys) (a := a) (w := w') (p := p) (x := x) (p0 := p0) (t0 := t0) (K := []) (kv := kv) h24 hKV hT h
  by_cases h29 : x.kind = 29
  · obtain ⟨p0, t0, rfl⟩ := l1 (nat_of (n := 1) (by rw [h29] at har; exact har))
    obtain ⟨T, e1, e2, e3⟩ := m3 h29
    rw [Tr.nodeG_29 h29, e3]
    exact rdata_29 (c := c) (B := B) (sm := sm) (tv := tv) (yv := yv) (ys := ys) (a := a) (w := w') (p := p) (x := x) (p0 := p0) (t0 := t0) (K := []) (kv := kv) h29 hKV hT h T e1 e2
  by_cases h18 : x.kind = 18
  · obtain ⟨p0, t0, p1, t1, rfl⟩ := l2 (nat_of (n := 2) (by rw [h18] at har; exact har))
    rw [Tr.nodeG_18 h18]
    exact rdata_18 (c := c) (B := B) (sm := sm) (tv := tv) (yv := yv) (ys := ys) (a := a) (w := w') (p := p) (x := x) (p0 := p0) (t0 := t0) (p1 := p1) (t1 := t1) (kv := kv) h18 hKV hT h
  by_cases h25 : x.kind = 25
  · obtain ⟨p0, t0, p1, t1, rfl⟩ := l2 (nat_of (n := 2) (by rw [h25] at har; exact har))
    rw [Tr.nodeG_25 h25]
    exact rdata_25 (c := c) (B := B) (sm := sm) (tv := tv) (yv := yv) (ys := ys) (a := a) (w := w') (p := p) (x := x) (p0 := p0) (t0 := t0) (p1 := p1) (t1 := t1) (kv := kv) h25 hKV hT h
  by_cases h28 : x.kind = 28
  · obtain ⟨p0, t0, p1, t1, rfl⟩ := l2 (nat_of (n := 2) (by rw [h28] at har; exact har))
    rw [Tr.nodeG_28 h28]
    exact rdata_28 (c := c) (B := B) (sm := sm) (tv := tv) (yv := yv) (ys := ys) (a := a) (w := w') (p := p) (x := x) (p0 := p0) (t0 := t0) (p1 := p1) (t1 := t1) (kv := kv) h28 hKV hT h
  exfalso
  clear hp har r1 r2 r3 r4 l1 l2 l3
  omega
end
end Go.Proofs.YtdobaililmkkcaaGreatDoor

/- Walks of the document's checker: what a kid finds bound. -/
namespace Culp
set_option linter.unusedSimpArgs false
set_option linter.unusedVariables false
open Go Go.RowKit
theorem run_copy_wide {P : Program} (w : World) (dT sT ty elem : TypeId) (g n dCap : Nat) (ad : Addr) (sCap : Nat) (cur : Array Value) (t : TypeId) (cs : List Value) (i : TypeInfo) (hu : P.underlying dT = some (.slice elem)) (hi : P.info? elem = some i)
    (hg : w.heap[g]? = some (.cells cur t (0, 0))) (hn : cs.length = n * i.size) (hsrc : ∀ j v, cs[j]? = some v → w.cell? (ad.add j) = some v) (hfit : cs.length ≤ cur.size) (h1 : ∀ v ∈ cs, v.oneCell' = true) :
    (Builtin.copy_ #[dT, sT] ty #[.slice (some ⟨g, 0, none⟩) n dCap, .slice (some ad) n sCap]).run P w = .ok (goInt n) (w.setRow g (cs ++ cur.toList.drop cs.length).toArray) := by
  have hl := run_loadCells_list (P := P) w ad cs hsrc
  have hst := run_storeCells_at P g 0 t cs 0 cur w hg (by simpa using hfit) h1
  simp [Builtin.copy_, run_underlying hu, Builtin.lenOf, Builtin.firstCells, Go.sizeOf, typeInfo, hi, ← hn, hl, hst]
theorem run_copy_zero {P : Program} (w : World) (dT sT ty elem : TypeId) (d a : Option Addr) (dCap sCap : Nat) (i : TypeInfo) (hu : P.underlying dT = some (.slice elem)) (hi : P.info? elem = some i) :
    (Builtin.copy_ #[dT, sT] ty #[.slice d 0 dCap, .slice a 0 sCap]).run P w = .ok (goInt 0) w := by
  have hl : ∀ (x : Addr), (loadCells x 0).run P w = .ok #[] w := fun x => by simpa using run_loadCells_list (P := P) w x [] (by simp)
  cases d <;> cases a <;> simp [Builtin.copy_, run_underlying hu, Builtin.lenOf, Builtin.firstCells, Go.sizeOf, typeInfo, hi, storeCells, hl]
theorem wpList_copy_wide {P : Program} {w : World} {ops : Array Oper} {rest : List Oper} {o : Oper} {a : Act} {Q : Exit → Act → World → Prop} (hgd : o.guard = none) (d s : Operand) (dT sT : TypeId)
    (ho : o.op = .call { callee := .builtin .copy, args := #[d, s], argTypes := #[dT, sT] }) (elem : TypeId) (hu : P.underlying dT = some (.slice elem)) (i : TypeInfo) (hi : P.info? elem = some i) (size : Nat) (hsz : i.size = size) (h0 : 0 < size)
    (g n C : Nat) (A : Option Addr) (hd : a.eval d = .slice (some ⟨g, 0, none⟩) n n) (hs : a.eval s = .slice A n C) (base : Nat) (zs : List Value) (hown : w.ownsRow base elem size (.slice (some ⟨g, 0, none⟩) n n) n zs)
    (cs : List Value) (hcs : cs.length = n * size) (hA : 0 < n → ∃ ad, A = some ad ∧ ∀ j v, cs[j]? = some v → w.cell? (ad.add j) = some v) (h1 : ∀ v ∈ cs, v.oneCell' = true) (w0 : World) (hb : Below base w0 w)
    (h : ∀ w', w'.ownsRow base elem size (.slice (some ⟨g, 0, none⟩) n n) n cs → Below base w0 w' → wpList P ops Q rest (a.put o.dst (goInt n)) w') : wpList P ops Q (o :: rest) a w := by
  refine wpList_plain hgd fun K hK => ?_
  rcases hown.2 with ⟨e, _⟩ | ⟨g', cap, cur, e, hB, hh, hc, hm, hcz, htk⟩
  · cases e
  simp only [Value.slice.injEq, Option.some.injEq, Addr.mk.injEq] at e
  obtain ⟨⟨rfl, _, _⟩, _, rfl⟩ := e
  by_cases hn : n = 0
  · subst hn
    have hcn : cs = [] := List.eq_nil_of_length_eq_zero (by rw [hcs, Nat.zero_mul])
    have hrun := run_copy_zero (P := P) w dT sT o.type elem (some ⟨g, 0, none⟩) A 0 C i hu hi
    unfold Oper.wp
    simp [execOp, ho, resolve, invoke, builtin, hd, hs, hrun, Result.andThen]
    refine hK _ _ (h w ?_ hb)
    subst hcn
    have hz : zs = [] := List.eq_nil_of_length_eq_zero (by rw [hown.1, Nat.zero_mul])
    rw [hz] at hown
    exact hown
  · obtain ⟨ad, rfl, hsrc⟩ := hA (by omega)
    have hcl : cs.length = cur.size := by rw [hcs, hcz]
    have hrun := run_copy_wide (P := P) w dT sT o.type elem g n n ad C cur elem cs i hu hi hh (by rw [hcs, hsz]) hsrc (by omega) h1
    have hdr : cur.toList.drop cs.length = [] := List.drop_eq_nil_of_le (by rw [hcl, Array.length_toList]; omega)
    rw [hdr, List.append_nil] at hrun
    unfold Oper.wp
    simp [execOp, ho, resolve, invoke, builtin, hd, hs, hrun, Result.andThen]
    refine hK _ _ (h _ ⟨hcs, .inr ⟨g, n, cs.toArray, rfl, hB, setRow_heap w g cur cs.toArray elem _ hh, Nat.le_refl _, hm, ?_, ?_⟩⟩ ?_)
    · simpa using hcs
    · rw [List.take_of_length_le (by simpa using Nat.le_of_eq hcs)]
    · exact hb.trans ⟨rfl, rfl, rfl, by simp [World.setRow], fun k hk => setRow_other w g k cs.toArray (by omega)⟩
end Culp
namespace Go.Proofs.YtdobaililmkkcaaGreatDoor
set_option linter.unusedSimpArgs false
set_option linter.unusedVariables false
open Go.RowKit Culp
theorem bind_info : (Tryz.prog.info? 88).map (fun i => (i.zero, i.size, i.bytes)) = some (some (.agg #[.string ByteArray.empty, .string ByteArray.empty]), 2, 32) := by kernel_rfl
theorem build_bind (w : World) (s t : ByteArray) : (Instr.buildSlice 86 1 #[(0, .agg #[.string s, .string t])]).run Tryz.prog w = .ok (.slice (some ⟨w.heap.size, 0, none⟩) 1 1) (w.alloc (.cells #[.string s, .string t] 88)) := by
  simp [go_sem, Instr.buildSlice, run_underlying Tryz.underlying86]
theorem RkEnv.cells {B : Nat} {w : World} {A : Option Addr} {n C : Nat} {l : Tr.Env} (h : RkEnv B w (.slice A n C) l) (hl : n = l.length) (h0 : 0 < l.length) : ∃ ad, A = some ad ∧ ∀ j v, (l.reverse.flatMap bcells)[j]? = some v → w.cell? (ad.add j) = some v := by
  rcases h.2 with ⟨_, h1⟩ | ⟨g, cap, cur, e, hB, hh, hc, hm, hsz, htk⟩
  · omega
  · simp only [Value.slice.injEq] at e
    obtain ⟨rfl, _, rfl⟩ := e
    refine ⟨_, rfl, fun j v hj => ?_⟩
    rw [← htk, List.getElem?_take] at hj
    have e1 : (⟨g, 0, none⟩ : Addr).add j = ⟨g, j, none⟩ := by
      unfold Addr.add
      split
      · rename_i h0; subst h0; rfl
      · simp
    rw [e1]
    split at hj
    · simp only [World.cell?, hh]; simpa using hj
    · cases hj
theorem bcells_one {l : List (ByteArray × Ty)} : ∀ v ∈ l.flatMap bcells, v.oneCell' = true := fun v hv => by
  rw [List.mem_flatMap] at hv
  obtain ⟨b, _, hb⟩ := hv
  simp only [bcells, List.mem_cons, List.not_mem_nil, or_false] at hb
  rcases hb with rfl | rfl <;> rfl
theorem rev_cons (b : ByteArray × Ty) (l : List (ByteArray × Ty)) : (b :: l).reverse.flatMap bcells = l.reverse.flatMap bcells ++ [.string b.1, .string b.2.str] := by
  rw [List.reverse_cons, List.flatMap_append]
  rfl
def InnerRes (l : Tr.Env) (w : World) (E : Ending) (w' : World) : Prop := ∃ v, E = .returned v ∧ RkEnv w.heap.size w' v l ∧ Below w.heap.size w w'
theorem add_zero_addr (g j : Nat) : (⟨g, 0, none⟩ : Addr).add j = ⟨g, j, none⟩ := by
  unfold Addr.add
  split
  · rename_i h0; subst h0; rfl
  · simp
/-- The names of a function that calls itself. -/
def NamesNm (s : ByteArray) (w : World) (e : Ending) (w' : World) : Prop := ∃ a b : ByteArray, e = .returned (.tuple #[.string a, .string b]) ∧ (∀ x y, Tr.two s.data.toList = some (x, y) → a = ⟨x.toArray⟩ ∧ b = ⟨y.toArray⟩) ∧ Below w.heap.size w w'
theorem rNames_any (s : ByteArray) (w : World) (hs : s.size ≤ 140737488351232) : Calls Tryz.prog 104 #[.string s] w (NamesNm s w) := by
  have HT := Lib.hid (fun w => rTwo_names s w hs)
  go_enter Tryz.func104, Tryz.ntmps104
  go_wp2_with fail
  refine (HT.out _).mono ?_
  rintro E w2 ⟨a, b, rfl, h1, hb2⟩
  have H1 := Lib.hid h1
  have HB := Lib.hid hb2
  clear h1 hb2
  go_wp2_with fail
  refine bodyPost_ret (v := .tuple #[.string a, .string b]) (by simp [results, Tryz.results104, go_sem]) rfl ?_
  exact ⟨a, b, rfl, H1.out, HB.out⟩
section
variable (c : Nat) (w : World) (x : Nd) (k : Nat) (env : Tr.Env) (iv : Value) (Be : Nat)
set_option maxRecDepth 100000 in
set_option maxHeartbeats 3200000 in
theorem rinner_no (h : ¬ (x.kind = 5 ∨ x.kind = 6 ∨ (x.kind = 8 ∧ k = 1))) (hE : RkEnv Be w iv env) (hl : env.length ≤ 1000000000) :
    Calls Tryz.prog 86 #[.pointer (some ⟨c, 0, none⟩), x.val, .int .i64 (k : Int), iv] w (InnerRes env w) := by
  have e5 : (x.kind == 5) = false := beq_eq_false_iff_ne.2 (by omega)
  have e6 : (x.kind == 6) = false := beq_eq_false_iff_ne.2 (by omega)
  by_cases h8 : x.kind = 8
  · have e8 : (x.kind == 8) = true := by rw [h8]; rfl
    have ek : ((k : Int) == 1) = false := beq_eq_false_iff_ne.2 (by omega)
    clear h h8
    obtain ⟨A, C, rfl⟩ := own_shape hE
    obtain ⟨i0, hi, hz0, hz1, hz2⟩ := info_parts bind_info
    have hb0 : Below w.heap.size w (w.alloc (.cells #[.int .i8 x.kind, .int .i64 x.kids, .int .i64 x.n, .string x.s, .string x.t, .string x.u, .int .i64 x.line, .int .i64 x.col] 64)) := (Below.refl _ _).alloc (Nat.le_refl _) _
    have HX : Hid (Box w.heap.size x (w.alloc (.cells #[.int .i8 x.kind, .int .i64 x.kids, .int .i64 x.n, .string x.s, .string x.t, .string x.u, .int .i64 x.line, .int .i64 x.col] 64))) := Lib.hid (MapKept.heap_alloc w _).1
    have HE1 : Hid (RkEnv Be (w.alloc (.cells #[.int .i8 x.kind, .int .i64 x.kids, .int .i64 x.n, .string x.s, .string x.t, .string x.u, .int .i64 x.line, .int .i64 x.col] 64)) (.slice A env.length C) env) := Lib.hid (own_later hE hb0)
    have hg3 : ((w.alloc (.cells #[.int .i8 x.kind, .int .i64 x.kids, .int .i64 x.n, .string x.s, .string x.t, .string x.u, .int .i64 x.line, .int .i64 x.col] 64))).heap.size = w.heap.size + 1 := by simp
    have hws : w.heap.size + 1 ≤ ((w.alloc (.cells #[.int .i8 x.kind, .int .i64 x.kids, .int .i64 x.n, .string x.s, .string x.t, .string x.u, .int .i64 x.line, .int .i64 x.col] 64))).heap.size := by rw [hg3]; omega
    show Calls Tryz.prog _ #[_, .agg #[.int .i8 x.kind, .int .i64 x.kids, .int .i64 x.n, .string x.s, .string x.t, .string x.u, .int .i64 x.line, .int .i64 x.col], _, _] w _
    have HB0 := Lib.hid hb0
    have HG3 := Lib.hid hg3
    clear hE hb0 hg3
    go_enter Tryz.func86, Tryz.ntmps86
    go_wp2_with (refine wpList_make_full _ rfl (.tmp 13) (.tmp 13) 86 rfl (w.heap.size + 1) 88 i0 _ 2 Tryz.underlying86 hi hz0 hz1 .i64 .i64 (env.length : Int) (env.length : Int) env.length rfl rfl rfl rfl (by rw [hz2]; omega) (by unfold maxLen; omega) hws ?_)
    intro w3 hown hgr
    try rw [HG3.out] at hown
    have hb3 : Below ((w.alloc (.cells #[.int .i8 x.kind, .int .i64 x.kids, .int .i64 x.n, .string x.s, .string x.t, .string x.u, .int .i64 x.line, .int .i64 x.col] 64))).heap.size (w.alloc (.cells #[.int .i8 x.kind, .int .i64 x.kids, .int .i64 x.n, .string x.s, .string x.t, .string x.u, .int .i64 x.line, .int .i64 x.col] 64)) w3 := (Below.refl _ _).grown hgr (Nat.le_refl _) fun k hk => by cases hk
    have HB3 : Hid (Below w.heap.size w w3) := Lib.hid (below_later hb3 HB0.out)
    have HX3 : Hid (Box w.heap.size x w3) := Lib.hid (HX.out.later hb3)
    have HE3 : Hid (RkEnv Be w3 (.slice A env.length C) env) := Lib.hid (own_later HE1.out hb3)
    have HOW := Lib.hid hown
    clear hgr hown hb3 HX HE1 hws HB0 HG3
    go_wp2_with (refine wpList_copy_wide rfl (.tmp 15) (.tmp 16) 86 86 rfl 88 Tryz.underlying86 i0 hi 2 hz1 (by decide) (w.heap.size + 1) env.length C A rfl rfl (w.heap.size + 1) _ HOW.out (env.reverse.flatMap bcells) (by rw [flat_bind_len, List.length_reverse]) (HE3.out.cells rfl) bcells_one w3 (Below.refl _ _) ?_)
    intro w4 hown4 hb4
    have HO : Hid (RkEnv (w.heap.size + 1) w4 (.slice (some ⟨w.heap.size + 1, 0, none⟩) env.length env.length) env) := Lib.hid hown4
    have HB4 : Hid (Below w.heap.size w w4) := Lib.hid (HB3.out.trans (hb4.mono (Nat.le_succ _)))
    have HX4 : Hid (Box w.heap.size x w4) := Lib.hid ((hb4.block _ (Nat.lt_succ_self _)).trans HX3.out)
    have x0 : w4.cell? ⟨w.heap.size, 0, none⟩ = some (.int .i8 x.kind) := HX4.out.cell 0
    have x3 : w4.cell? ⟨w.heap.size, 3, none⟩ = some (.string x.s) := HX4.out.cell 3
    have x4 : w4.cell? ⟨w.heap.size, 4, none⟩ = some (.string x.t) := HX4.out.cell 4
    have x5 : w4.cell? ⟨w.heap.size, 5, none⟩ = some (.string x.u) := HX4.out.cell 5
    have hsz4 : w.heap.size + 1 ≤ w4.heap.size := by
      have h1 := HX4.out.lt
      omega
    have HSZ := Lib.hid hsz4
    clear hown4 hb4 HB3 HX3 HE3 HOW hsz4
    go_wp2_with fail
    go_ret
    exact ⟨_, rfl, own_base HO.out (Nat.le_succ _), HB4.out⟩
  · have e8 : (x.kind == 8) = false := beq_eq_false_iff_ne.2 h8
    clear h h8
    obtain ⟨A, C, rfl⟩ := own_shape hE
    obtain ⟨i0, hi, hz0, hz1, hz2⟩ := info_parts bind_info
    have hb0 : Below w.heap.size w (w.alloc (.cells #[.int .i8 x.kind, .int .i64 x.kids, .int .i64 x.n, .string x.s, .string x.t, .string x.u, .int .i64 x.line, .int .i64 x.col] 64)) := (Below.refl _ _).alloc (Nat.le_refl _) _
    have HX : Hid (Box w.heap.size x (w.alloc (.cells #[.int .i8 x.kind, .int .i64 x.kids, .int .i64 x.n, .string x.s, .string x.t, .string x.u, .int .i64 x.line, .int .i64 x.col] 64))) := Lib.hid (MapKept.heap_alloc w _).1
    have HE1 : Hid (RkEnv Be (w.alloc (.cells #[.int .i8 x.kind, .int .i64 x.kids, .int .i64 x.n, .string x.s, .string x.t, .string x.u, .int .i64 x.line, .int .i64 x.col] 64)) (.slice A env.length C) env) := Lib.hid (own_later hE hb0)
    have hg3 : ((w.alloc (.cells #[.int .i8 x.kind, .int .i64 x.kids, .int .i64 x.n, .string x.s, .string x.t, .string x.u, .int .i64 x.line, .int .i64 x.col] 64))).heap.size = w.heap.size + 1 := by simp
    have hws : w.heap.size + 1 ≤ ((w.alloc (.cells #[.int .i8 x.kind, .int .i64 x.kids, .int .i64 x.n, .string x.s, .string x.t, .string x.u, .int .i64 x.line, .int .i64 x.col] 64))).heap.size := by rw [hg3]; omega
    show Calls Tryz.prog _ #[_, .agg #[.int .i8 x.kind, .int .i64 x.kids, .int .i64 x.n, .string x.s, .string x.t, .string x.u, .int .i64 x.line, .int .i64 x.col], _, _] w _
    have HB0 := Lib.hid hb0
    have HG3 := Lib.hid hg3
    clear hE hb0 hg3
    go_enter Tryz.func86, Tryz.ntmps86
    go_wp2_with (refine wpList_make_full _ rfl (.tmp 13) (.tmp 13) 86 rfl (w.heap.size + 1) 88 i0 _ 2 Tryz.underlying86 hi hz0 hz1 .i64 .i64 (env.length : Int) (env.length : Int) env.length rfl rfl rfl rfl (by rw [hz2]; omega) (by unfold maxLen; omega) hws ?_)
    intro w3 hown hgr
    try rw [HG3.out] at hown
    have hb3 : Below ((w.alloc (.cells #[.int .i8 x.kind, .int .i64 x.kids, .int .i64 x.n, .string x.s, .string x.t, .string x.u, .int .i64 x.line, .int .i64 x.col] 64))).heap.size (w.alloc (.cells #[.int .i8 x.kind, .int .i64 x.kids, .int .i64 x.n, .string x.s, .string x.t, .string x.u, .int .i64 x.line, .int .i64 x.col] 64)) w3 := (Below.refl _ _).grown hgr (Nat.le_refl _) fun k hk => by cases hk
    have HB3 : Hid (Below w.heap.size w w3) := Lib.hid (below_later hb3 HB0.out)
    have HX3 : Hid (Box w.heap.size x w3) := Lib.hid (HX.out.later hb3)
    have HE3 : Hid (RkEnv Be w3 (.slice A env.length C) env) := Lib.hid (own_later HE1.out hb3)
    have HOW := Lib.hid hown
    clear hgr hown hb3 HX HE1 hws HB0 HG3
    go_wp2_with (refine wpList_copy_wide rfl (.tmp 15) (.tmp 16) 86 86 rfl 88 Tryz.underlying86 i0 hi 2 hz1 (by decide) (w.heap.size + 1) env.length C A rfl rfl (w.heap.size + 1) _ HOW.out (env.reverse.flatMap bcells) (by rw [flat_bind_len, List.length_reverse]) (HE3.out.cells rfl) bcells_one w3 (Below.refl _ _) ?_)
    intro w4 hown4 hb4
    have HO : Hid (RkEnv (w.heap.size + 1) w4 (.slice (some ⟨w.heap.size + 1, 0, none⟩) env.length env.length) env) := Lib.hid hown4
    have HB4 : Hid (Below w.heap.size w w4) := Lib.hid (HB3.out.trans (hb4.mono (Nat.le_succ _)))
    have HX4 : Hid (Box w.heap.size x w4) := Lib.hid ((hb4.block _ (Nat.lt_succ_self _)).trans HX3.out)
    have x0 : w4.cell? ⟨w.heap.size, 0, none⟩ = some (.int .i8 x.kind) := HX4.out.cell 0
    have x3 : w4.cell? ⟨w.heap.size, 3, none⟩ = some (.string x.s) := HX4.out.cell 3
    have x4 : w4.cell? ⟨w.heap.size, 4, none⟩ = some (.string x.t) := HX4.out.cell 4
    have x5 : w4.cell? ⟨w.heap.size, 5, none⟩ = some (.string x.u) := HX4.out.cell 5
    have hsz4 : w.heap.size + 1 ≤ w4.heap.size := by
      have h1 := HX4.out.lt
      omega
    have HSZ := Lib.hid hsz4
    clear hown4 hb4 HB3 HX3 HE3 HOW hsz4
    go_wp2_with fail
    go_ret
    exact ⟨_, rfl, own_base HO.out (Nat.le_succ _), HB4.out⟩
set_option maxRecDepth 100000 in
set_option maxHeartbeats 3200000 in
theorem rinner_5 (h : x.kind = 5) (hn : NoteOk x.t) (hE : RkEnv Be w iv env) (hl : env.length ≤ 1000000000) :
    Calls Tryz.prog 86 #[.pointer (some ⟨c, 0, none⟩), x.val, .int .i64 (k : Int), iv] w (InnerRes ((x.s, Tr.noteT x.t) :: env) w) := by
  have e5 : (x.kind == 5) = true := by rw [h]; rfl
  have HU1 := Lib.hid (r8Note_any x.t hn)
  clear h hn
  generalize Tr.noteT x.t = S1 at *
  obtain ⟨A, C, rfl⟩ := own_shape hE
  obtain ⟨i0, hi, hz0, hz1, hz2⟩ := info_parts bind_info
  have hb0 : Below w.heap.size w (w.alloc (.cells #[.int .i8 x.kind, .int .i64 x.kids, .int .i64 x.n, .string x.s, .string x.t, .string x.u, .int .i64 x.line, .int .i64 x.col] 64)) := (Below.refl _ _).alloc (Nat.le_refl _) _
  have HX : Hid (Box w.heap.size x (w.alloc (.cells #[.int .i8 x.kind, .int .i64 x.kids, .int .i64 x.n, .string x.s, .string x.t, .string x.u, .int .i64 x.line, .int .i64 x.col] 64))) := Lib.hid (MapKept.heap_alloc w _).1
  have HE1 : Hid (RkEnv Be (w.alloc (.cells #[.int .i8 x.kind, .int .i64 x.kids, .int .i64 x.n, .string x.s, .string x.t, .string x.u, .int .i64 x.line, .int .i64 x.col] 64)) (.slice A env.length C) env) := Lib.hid (own_later hE hb0)
  have hg3 : ((w.alloc (.cells #[.int .i8 x.kind, .int .i64 x.kids, .int .i64 x.n, .string x.s, .string x.t, .string x.u, .int .i64 x.line, .int .i64 x.col] 64))).heap.size = w.heap.size + 1 := by simp
  have hws : w.heap.size + 1 ≤ ((w.alloc (.cells #[.int .i8 x.kind, .int .i64 x.kids, .int .i64 x.n, .string x.s, .string x.t, .string x.u, .int .i64 x.line, .int .i64 x.col] 64))).heap.size := by rw [hg3]; omega
  show Calls Tryz.prog _ #[_, .agg #[.int .i8 x.kind, .int .i64 x.kids, .int .i64 x.n, .string x.s, .string x.t, .string x.u, .int .i64 x.line, .int .i64 x.col], _, _] w _
  have HB0 := Lib.hid hb0
  have HG3 := Lib.hid hg3
  clear hE hb0 hg3
  go_enter Tryz.func86, Tryz.ntmps86
  go_wp2_with (refine wpList_make_full _ rfl (.tmp 13) (.tmp 13) 86 rfl (w.heap.size + 1) 88 i0 _ 2 Tryz.underlying86 hi hz0 hz1 .i64 .i64 (env.length : Int) (env.length : Int) env.length rfl rfl rfl rfl (by rw [hz2]; omega) (by unfold maxLen; omega) hws ?_)
  intro w3 hown hgr
  try rw [HG3.out] at hown
  have hb3 : Below ((w.alloc (.cells #[.int .i8 x.kind, .int .i64 x.kids, .int .i64 x.n, .string x.s, .string x.t, .string x.u, .int .i64 x.line, .int .i64 x.col] 64))).heap.size (w.alloc (.cells #[.int .i8 x.kind, .int .i64 x.kids, .int .i64 x.n, .string x.s, .string x.t, .string x.u, .int .i64 x.line, .int .i64 x.col] 64)) w3 := (Below.refl _ _).grown hgr (Nat.le_refl _) fun k hk => by cases hk
  have HB3 : Hid (Below w.heap.size w w3) := Lib.hid (below_later hb3 HB0.out)
  have HX3 : Hid (Box w.heap.size x w3) := Lib.hid (HX.out.later hb3)
  have HE3 : Hid (RkEnv Be w3 (.slice A env.length C) env) := Lib.hid (own_later HE1.out hb3)
  have HOW := Lib.hid hown
  clear hgr hown hb3 HX HE1 hws HB0 HG3
  go_wp2_with (refine wpList_copy_wide rfl (.tmp 15) (.tmp 16) 86 86 rfl 88 Tryz.underlying86 i0 hi 2 hz1 (by decide) (w.heap.size + 1) env.length C A rfl rfl (w.heap.size + 1) _ HOW.out (env.reverse.flatMap bcells) (by rw [flat_bind_len, List.length_reverse]) (HE3.out.cells rfl) bcells_one w3 (Below.refl _ _) ?_)
  intro w4 hown4 hb4
  have HO : Hid (RkEnv (w.heap.size + 1) w4 (.slice (some ⟨w.heap.size + 1, 0, none⟩) env.length env.length) env) := Lib.hid hown4
  have HB4 : Hid (Below w.heap.size w w4) := Lib.hid (HB3.out.trans (hb4.mono (Nat.le_succ _)))
  have HX4 : Hid (Box w.heap.size x w4) := Lib.hid ((hb4.block _ (Nat.lt_succ_self _)).trans HX3.out)
  have x0 : w4.cell? ⟨w.heap.size, 0, none⟩ = some (.int .i8 x.kind) := HX4.out.cell 0
  have x3 : w4.cell? ⟨w.heap.size, 3, none⟩ = some (.string x.s) := HX4.out.cell 3
  have x4 : w4.cell? ⟨w.heap.size, 4, none⟩ = some (.string x.t) := HX4.out.cell 4
  have x5 : w4.cell? ⟨w.heap.size, 5, none⟩ = some (.string x.u) := HX4.out.cell 5
  have hsz4 : w.heap.size + 1 ≤ w4.heap.size := by
    have h1 := HX4.out.lt
    omega
  have HSZ := Lib.hid hsz4
  clear hown4 hb4 HB3 HX3 HE3 HOW hsz4
  go_wp2_with fail
  refine wp_region_plan (S := fun w' => w'.cell? ⟨w.heap.size, 3, none⟩ = some (.string x.s) ∧ w'.cell? ⟨w.heap.size, 4, none⟩ = some (.string x.t) ∧ w'.cell? ⟨w.heap.size, 5, none⟩ = some (.string x.u)) [(0, true), (1, true), (2, true), (3, true), (4, true), (5, false), (6, true), (7, false), (8, false), (9, true)] (by kernel_rfl) (by kernel_rfl) (by kernel_rfl) (fun _ _ _ _ _ h => h) ⟨x3, x4, x5⟩ ?_
  intro HS
  repeat (first | (apply wpPlan_look; rfl; rfl; (intro wq hq; (try dsimp only at hq); go_split_ands; go_simp; (try rw [if_neg (by omega)]); (try rw [if_pos (by omega)]); try with_reducible rfl); simp only [Act.put, List.setIfInBounds_toArray, List.set_cons_zero, List.set_cons_succ]) | (apply wpPlan_skip; rfl; rfl; simp only [Act.put, List.setIfInBounds_toArray, List.set_cons_zero, List.set_cons_succ]) | (apply wpPlan_pass; rfl; rfl; assumption; simp only [Act.put, List.setIfInBounds_toArray, List.set_cons_zero, List.set_cons_succ]))
  apply wpPlan_call; rfl; rfl; rfl; rfl; kernel_rfl; exact HU1.out _; rfl; rintro E w5 ⟨rfl, rfl⟩
  refine ⟨_, rfl, as_S HS ?_⟩
  intro HS
  simp only [Act.put, List.setIfInBounds_toArray, List.set_cons_zero, List.set_cons_succ]
  repeat (first | (apply wpPlan_look; rfl; rfl; (intro wq hq; (try dsimp only at hq); go_split_ands; go_simp; (try rw [if_neg (by omega)]); (try rw [if_pos (by omega)]); try with_reducible rfl); simp only [Act.put, List.setIfInBounds_toArray, List.set_cons_zero, List.set_cons_succ]) | (apply wpPlan_skip; rfl; rfl; simp only [Act.put, List.setIfInBounds_toArray, List.set_cons_zero, List.set_cons_succ]) | (apply wpPlan_pass; rfl; rfl; assumption; simp only [Act.put, List.setIfInBounds_toArray, List.set_cons_zero, List.set_cons_succ]))
  have hb5 : Below w4.heap.size w4 (w4.drew.alloc (.cells #[.string (x.s), .string (S1).str] 88)) := (Below.refl _ _).drew.alloc (Nat.le_refl _) _
  have q3 := cell_later hb5 x3
  have q4 := cell_later hb5 x4
  have q5 := cell_later hb5 x5
  refine wpPlan_run rfl rfl (by simp [execOp, go_sem, build_bind, build_bind]; (first | exact ⟨rfl, rfl⟩ | rfl)) _ (fun _ h => h) ⟨q3, q4, q5⟩ ?_
  simp only [Act.put, List.setIfInBounds_toArray, List.set_cons_zero, List.set_cons_succ]
  refine wpPlan_actS rfl rfl fun K hK => ?_
  have hown5 : (w4.drew.alloc (.cells #[.string (x.s), .string (S1).str] 88)).ownsRow (w.heap.size + 1) 88 2 (.slice (some ⟨w.heap.size + 1, 0, none⟩) env.length env.length) env.length (env.reverse.flatMap bcells) := own_later HO.out hb5
  have hnews : ∀ (j : Nat) (v : Value), [Value.string (x.s), Value.string (S1).str][j]? = some v → (w4.drew.alloc (.cells #[.string (x.s), .string (S1).str] 88)).cell? ((⟨w4.heap.size, 0, none⟩ : Addr).add j) = some v := by
    intro j v hv
    rw [add_zero_addr]
    change (w4.drew.alloc (.cells #[.string (x.s), .string (S1).str] 88)).cell? ⟨w4.drew.heap.size, j, none⟩ = some v
    rw [World.cell?_alloc_at _ _ _ _ rfl]
    simpa using hv
  have hsz5 : w.heap.size + 1 ≤ (w4.drew.alloc (.cells #[.string (x.s), .string (S1).str] 88)).heap.size := by have := hb5.size; have := HSZ.out; omega
  refine wp_append_own _ (.tmp 22) (.tmp 29) 86 rfl (w.heap.size + 1) 88 i0 _ 2 32 Tryz.underlying86 hi hz0 hz1 hz2 rfl (by decide) _ env.length (env.reverse.flatMap bcells) rfl hown5 ⟨w4.heap.size, 0, none⟩ 1 1 [.string (x.s), .string (S1).str] rfl rfl hnews (by intro v hv; simp at hv; rcases hv with rfl | rfl <;> rfl) (by unfold maxLen; omega) (by omega) hsz5 ?_
  intro v' w6 hown' hg _
  have hb6 : Below (w.heap.size + 1) (w4.drew.alloc (.cells #[.string (x.s), .string (S1).str] 88)) w6 := (Below.refl _ _).grown hg hsz5 fun k hk => by
    injection hk with hk
    subst hk
    exact Nat.le_refl _
  have r3 := below_cell hb6 q3 (Nat.lt_succ_self _)
  have r4 := below_cell hb6 q4 (Nat.lt_succ_self _)
  have r5 := below_cell hb6 q5 (Nat.lt_succ_self _)
  have HB6 : Hid (Below w.heap.size w w6) := Lib.hid ((below_later hb5 HB4.out).trans (hb6.mono (Nat.le_succ _)))
  rw [show env.reverse.flatMap bcells ++ [Value.string (x.s), Value.string (S1).str] = ((x.s, S1) :: env).reverse.flatMap bcells from (rev_cons (x.s, S1) env).symm] at hown'
  have HO6 : Hid (RkEnv (w.heap.size + 1) w6 v' ((x.s, S1) :: env)) := Lib.hid hown'
  have HSZ6 : Hid (w.heap.size + 1 ≤ w6.heap.size) := Lib.hid (Nat.le_trans hsz5 hb6.size)
  refine hK _ _ ⟨_, fun _ h => h, ⟨r3, r4, r5⟩, ?_⟩
  clear HS q3 q4 q5 hown5 hnews hown' hg hb5 hb6 hsz5 x0 x3 x4 x5 HO HB4 HX4 HSZ
  simp only [Act.put, List.setIfInBounds_toArray, List.set_cons_zero, List.set_cons_succ]
  repeat (first | (apply wpPlan_look; rfl; rfl; (intro wq hq; (try dsimp only at hq); go_split_ands; go_simp; (try rw [if_neg (by omega)]); (try rw [if_pos (by omega)]); try with_reducible rfl); simp only [Act.put, List.setIfInBounds_toArray, List.set_cons_zero, List.set_cons_succ]) | (apply wpPlan_skip; rfl; rfl; simp only [Act.put, List.setIfInBounds_toArray, List.set_cons_zero, List.set_cons_succ]) | (apply wpPlan_pass; rfl; rfl; assumption; simp only [Act.put, List.setIfInBounds_toArray, List.set_cons_zero, List.set_cons_succ]))
  apply wpPlan_done
  go_wp2_with fail
  go_ret
  exact ⟨_, rfl, own_base HO6.out (Nat.le_succ _), HB6.out⟩
set_option maxRecDepth 100000 in
set_option maxHeartbeats 3200000 in
theorem rinner_8 (h : x.kind = 8) (hk : k = 1) (hn : NoteOk x.t) (hE : RkEnv Be w iv env) (hl : env.length ≤ 1000000000) :
    Calls Tryz.prog 86 #[.pointer (some ⟨c, 0, none⟩), x.val, .int .i64 (k : Int), iv] w (InnerRes ((x.s, Tr.noteT x.t) :: env) w) := by
  have e5 : (x.kind == 5) = false := by rw [h]; rfl
  have e6 : (x.kind == 6) = false := by rw [h]; rfl
  have e8 : (x.kind == 8) = true := by rw [h]; rfl
  have ek : ((k : Int) == 1) = true := by rw [hk]; rfl
  have HU1 := Lib.hid (r8Note_any x.t hn)
  clear h hn hk
  generalize Tr.noteT x.t = S1 at *
  obtain ⟨A, C, rfl⟩ := own_shape hE
  obtain ⟨i0, hi, hz0, hz1, hz2⟩ := info_parts bind_info
  have hb0 : Below w.heap.size w (w.alloc (.cells #[.int .i8 x.kind, .int .i64 x.kids, .int .i64 x.n, .string x.s, .string x.t, .string x.u, .int .i64 x.line, .int .i64 x.col] 64)) := (Below.refl _ _).alloc (Nat.le_refl _) _
  have HX : Hid (Box w.heap.size x (w.alloc (.cells #[.int .i8 x.kind, .int .i64 x.kids, .int .i64 x.n, .string x.s, .string x.t, .string x.u, .int .i64 x.line, .int .i64 x.col] 64))) := Lib.hid (MapKept.heap_alloc w _).1
  have HE1 : Hid (RkEnv Be (w.alloc (.cells #[.int .i8 x.kind, .int .i64 x.kids, .int .i64 x.n, .string x.s, .string x.t, .string x.u, .int .i64 x.line, .int .i64 x.col] 64)) (.slice A env.length C) env) := Lib.hid (own_later hE hb0)
  have hg3 : ((w.alloc (.cells #[.int .i8 x.kind, .int .i64 x.kids, .int .i64 x.n, .string x.s, .string x.t, .string x.u, .int .i64 x.line, .int .i64 x.col] 64))).heap.size = w.heap.size + 1 := by simp
  have hws : w.heap.size + 1 ≤ ((w.alloc (.cells #[.int .i8 x.kind, .int .i64 x.kids, .int .i64 x.n, .string x.s, .string x.t, .string x.u, .int .i64 x.line, .int .i64 x.col] 64))).heap.size := by rw [hg3]; omega
  show Calls Tryz.prog _ #[_, .agg #[.int .i8 x.kind, .int .i64 x.kids, .int .i64 x.n, .string x.s, .string x.t, .string x.u, .int .i64 x.line, .int .i64 x.col], _, _] w _
  have HB0 := Lib.hid hb0
  have HG3 := Lib.hid hg3
  clear hE hb0 hg3
  go_enter Tryz.func86, Tryz.ntmps86
  go_wp2_with (refine wpList_make_full _ rfl (.tmp 13) (.tmp 13) 86 rfl (w.heap.size + 1) 88 i0 _ 2 Tryz.underlying86 hi hz0 hz1 .i64 .i64 (env.length : Int) (env.length : Int) env.length rfl rfl rfl rfl (by rw [hz2]; omega) (by unfold maxLen; omega) hws ?_)
  intro w3 hown hgr
  try rw [HG3.out] at hown
  have hb3 : Below ((w.alloc (.cells #[.int .i8 x.kind, .int .i64 x.kids, .int .i64 x.n, .string x.s, .string x.t, .string x.u, .int .i64 x.line, .int .i64 x.col] 64))).heap.size (w.alloc (.cells #[.int .i8 x.kind, .int .i64 x.kids, .int .i64 x.n, .string x.s, .string x.t, .string x.u, .int .i64 x.line, .int .i64 x.col] 64)) w3 := (Below.refl _ _).grown hgr (Nat.le_refl _) fun k hk => by cases hk
  have HB3 : Hid (Below w.heap.size w w3) := Lib.hid (below_later hb3 HB0.out)
  have HX3 : Hid (Box w.heap.size x w3) := Lib.hid (HX.out.later hb3)
  have HE3 : Hid (RkEnv Be w3 (.slice A env.length C) env) := Lib.hid (own_later HE1.out hb3)
  have HOW := Lib.hid hown
  clear hgr hown hb3 HX HE1 hws HB0 HG3
  go_wp2_with (refine wpList_copy_wide rfl (.tmp 15) (.tmp 16) 86 86 rfl 88 Tryz.underlying86 i0 hi 2 hz1 (by decide) (w.heap.size + 1) env.length C A rfl rfl (w.heap.size + 1) _ HOW.out (env.reverse.flatMap bcells) (by rw [flat_bind_len, List.length_reverse]) (HE3.out.cells rfl) bcells_one w3 (Below.refl _ _) ?_)
  intro w4 hown4 hb4
  have HO : Hid (RkEnv (w.heap.size + 1) w4 (.slice (some ⟨w.heap.size + 1, 0, none⟩) env.length env.length) env) := Lib.hid hown4
  have HB4 : Hid (Below w.heap.size w w4) := Lib.hid (HB3.out.trans (hb4.mono (Nat.le_succ _)))
  have HX4 : Hid (Box w.heap.size x w4) := Lib.hid ((hb4.block _ (Nat.lt_succ_self _)).trans HX3.out)
  have x0 : w4.cell? ⟨w.heap.size, 0, none⟩ = some (.int .i8 x.kind) := HX4.out.cell 0
  have x3 : w4.cell? ⟨w.heap.size, 3, none⟩ = some (.string x.s) := HX4.out.cell 3
  have x4 : w4.cell? ⟨w.heap.size, 4, none⟩ = some (.string x.t) := HX4.out.cell 4
  have x5 : w4.cell? ⟨w.heap.size, 5, none⟩ = some (.string x.u) := HX4.out.cell 5
  have hsz4 : w.heap.size + 1 ≤ w4.heap.size := by
    have h1 := HX4.out.lt
    omega
  have HSZ := Lib.hid hsz4
  clear hown4 hb4 HB3 HX3 HE3 HOW hsz4
  go_wp2_with fail
  refine wp_region_plan (S := fun w' => w'.cell? ⟨w.heap.size, 3, none⟩ = some (.string x.s) ∧ w'.cell? ⟨w.heap.size, 4, none⟩ = some (.string x.t) ∧ w'.cell? ⟨w.heap.size, 5, none⟩ = some (.string x.u)) [(0, true), (1, true), (2, true), (3, true), (4, true), (5, false), (6, true), (7, false), (8, false), (9, true)] (by kernel_rfl) (by kernel_rfl) (by kernel_rfl) (fun _ _ _ _ _ h => h) ⟨x3, x4, x5⟩ ?_
  intro HS
  repeat (first | (apply wpPlan_look; rfl; rfl; (intro wq hq; (try dsimp only at hq); go_split_ands; go_simp; (try rw [if_neg (by omega)]); (try rw [if_pos (by omega)]); try with_reducible rfl); simp only [Act.put, List.setIfInBounds_toArray, List.set_cons_zero, List.set_cons_succ]) | (apply wpPlan_skip; rfl; rfl; simp only [Act.put, List.setIfInBounds_toArray, List.set_cons_zero, List.set_cons_succ]) | (apply wpPlan_pass; rfl; rfl; assumption; simp only [Act.put, List.setIfInBounds_toArray, List.set_cons_zero, List.set_cons_succ]))
  apply wpPlan_call; rfl; rfl; rfl; rfl; kernel_rfl; exact HU1.out _; rfl; rintro E w5 ⟨rfl, rfl⟩
  refine ⟨_, rfl, as_S HS ?_⟩
  intro HS
  simp only [Act.put, List.setIfInBounds_toArray, List.set_cons_zero, List.set_cons_succ]
  repeat (first | (apply wpPlan_look; rfl; rfl; (intro wq hq; (try dsimp only at hq); go_split_ands; go_simp; (try rw [if_neg (by omega)]); (try rw [if_pos (by omega)]); try with_reducible rfl); simp only [Act.put, List.setIfInBounds_toArray, List.set_cons_zero, List.set_cons_succ]) | (apply wpPlan_skip; rfl; rfl; simp only [Act.put, List.setIfInBounds_toArray, List.set_cons_zero, List.set_cons_succ]) | (apply wpPlan_pass; rfl; rfl; assumption; simp only [Act.put, List.setIfInBounds_toArray, List.set_cons_zero, List.set_cons_succ]))
  have hb5 : Below w4.heap.size w4 (w4.drew.alloc (.cells #[.string (x.s), .string (S1).str] 88)) := (Below.refl _ _).drew.alloc (Nat.le_refl _) _
  have q3 := cell_later hb5 x3
  have q4 := cell_later hb5 x4
  have q5 := cell_later hb5 x5
  refine wpPlan_run rfl rfl (by simp [execOp, go_sem, build_bind, build_bind]; (first | exact ⟨rfl, rfl⟩ | rfl)) _ (fun _ h => h) ⟨q3, q4, q5⟩ ?_
  simp only [Act.put, List.setIfInBounds_toArray, List.set_cons_zero, List.set_cons_succ]
  refine wpPlan_actS rfl rfl fun K hK => ?_
  have hown5 : (w4.drew.alloc (.cells #[.string (x.s), .string (S1).str] 88)).ownsRow (w.heap.size + 1) 88 2 (.slice (some ⟨w.heap.size + 1, 0, none⟩) env.length env.length) env.length (env.reverse.flatMap bcells) := own_later HO.out hb5
  have hnews : ∀ (j : Nat) (v : Value), [Value.string (x.s), Value.string (S1).str][j]? = some v → (w4.drew.alloc (.cells #[.string (x.s), .string (S1).str] 88)).cell? ((⟨w4.heap.size, 0, none⟩ : Addr).add j) = some v := by
    intro j v hv
    rw [add_zero_addr]
    change (w4.drew.alloc (.cells #[.string (x.s), .string (S1).str] 88)).cell? ⟨w4.drew.heap.size, j, none⟩ = some v
    rw [World.cell?_alloc_at _ _ _ _ rfl]
    simpa using hv
  have hsz5 : w.heap.size + 1 ≤ (w4.drew.alloc (.cells #[.string (x.s), .string (S1).str] 88)).heap.size := by have := hb5.size; have := HSZ.out; omega
  refine wp_append_own _ (.tmp 64) (.tmp 71) 86 rfl (w.heap.size + 1) 88 i0 _ 2 32 Tryz.underlying86 hi hz0 hz1 hz2 rfl (by decide) _ env.length (env.reverse.flatMap bcells) rfl hown5 ⟨w4.heap.size, 0, none⟩ 1 1 [.string (x.s), .string (S1).str] rfl rfl hnews (by intro v hv; simp at hv; rcases hv with rfl | rfl <;> rfl) (by unfold maxLen; omega) (by omega) hsz5 ?_
  intro v' w6 hown' hg _
  have hb6 : Below (w.heap.size + 1) (w4.drew.alloc (.cells #[.string (x.s), .string (S1).str] 88)) w6 := (Below.refl _ _).grown hg hsz5 fun k hk => by
    injection hk with hk
    subst hk
    exact Nat.le_refl _
  have r3 := below_cell hb6 q3 (Nat.lt_succ_self _)
  have r4 := below_cell hb6 q4 (Nat.lt_succ_self _)
  have r5 := below_cell hb6 q5 (Nat.lt_succ_self _)
  have HB6 : Hid (Below w.heap.size w w6) := Lib.hid ((below_later hb5 HB4.out).trans (hb6.mono (Nat.le_succ _)))
  rw [show env.reverse.flatMap bcells ++ [Value.string (x.s), Value.string (S1).str] = ((x.s, S1) :: env).reverse.flatMap bcells from (rev_cons (x.s, S1) env).symm] at hown'
  have HO6 : Hid (RkEnv (w.heap.size + 1) w6 v' ((x.s, S1) :: env)) := Lib.hid hown'
  have HSZ6 : Hid (w.heap.size + 1 ≤ w6.heap.size) := Lib.hid (Nat.le_trans hsz5 hb6.size)
  refine hK _ _ ⟨_, fun _ h => h, ⟨r3, r4, r5⟩, ?_⟩
  clear HS q3 q4 q5 hown5 hnews hown' hg hb5 hb6 hsz5 x0 x3 x4 x5 HO HB4 HX4 HSZ
  simp only [Act.put, List.setIfInBounds_toArray, List.set_cons_zero, List.set_cons_succ]
  repeat (first | (apply wpPlan_look; rfl; rfl; (intro wq hq; (try dsimp only at hq); go_split_ands; go_simp; (try rw [if_neg (by omega)]); (try rw [if_pos (by omega)]); try with_reducible rfl); simp only [Act.put, List.setIfInBounds_toArray, List.set_cons_zero, List.set_cons_succ]) | (apply wpPlan_skip; rfl; rfl; simp only [Act.put, List.setIfInBounds_toArray, List.set_cons_zero, List.set_cons_succ]) | (apply wpPlan_pass; rfl; rfl; assumption; simp only [Act.put, List.setIfInBounds_toArray, List.set_cons_zero, List.set_cons_succ]))
  apply wpPlan_done
  go_wp2_with fail
  go_ret
  exact ⟨_, rfl, own_base HO6.out (Nat.le_succ _), HB6.out⟩
set_option maxRecDepth 100000 in
set_option maxHeartbeats 3200000 in
theorem rinner_6 (h : x.kind = 6) (hm : Tr.may x = true) (hE : RkEnv Be w iv env) (hl : env.length ≤ 1000000000) :
    Calls Tryz.prog 86 #[.pointer (some ⟨c, 0, none⟩), x.val, .int .i64 (k : Int), iv] w (InnerRes (Tr.innerT x k env) w) := by
  have e5 : (x.kind == 5) = false := by rw [h]; rfl
  have e6 : (x.kind == 6) = true := by rw [h]; rfl
  have m1 := (may_note hm).1 (by omega)
  have m2 := (may_note hm).2.1 (by omega)
  have HU1 := Lib.hid (r8Note_any x.t m1)
  have HU2 := Lib.hid (r8Note_any x.u m2)
  have z1 : (Tr.noteT x.t).str.size ≤ 64 := by rw [str_size]; exact m1.fits
  have z2 : (Tr.noteT x.u).str.size ≤ 64 := by rw [str_size]; exact m2.fits
  obtain ⟨fa, fb, htw, hzs⟩ := two_of_may hm h
  have HIN : Hid (Tr.innerT x k env = (bs fb, Tr.noteT x.t) :: (bs fa, .fn (Tr.noteT x.t) (Tr.noteT x.u)) :: env) := Lib.hid (by unfold Tr.innerT; rw [if_neg (by rw [h]; decide), if_pos h, htw]; rfl)
  have HNM := Lib.hid (fun w => rNames_any x.s w (by omega))
  have HTW := Lib.hid htw
  rw [HIN.out]
  clear h hm m1 m2 htw hzs HIN
  generalize Tr.noteT x.t = S1 at *
  generalize Tr.noteT x.u = S2 at *
  have hfs := fn_str S1 S2
  obtain ⟨A, C, rfl⟩ := own_shape hE
  obtain ⟨i0, hi, hz0, hz1, hz2⟩ := info_parts bind_info
  have hb0 : Below w.heap.size w (w.alloc (.cells #[.int .i8 x.kind, .int .i64 x.kids, .int .i64 x.n, .string x.s, .string x.t, .string x.u, .int .i64 x.line, .int .i64 x.col] 64)) := (Below.refl _ _).alloc (Nat.le_refl _) _
  have HX : Hid (Box w.heap.size x (w.alloc (.cells #[.int .i8 x.kind, .int .i64 x.kids, .int .i64 x.n, .string x.s, .string x.t, .string x.u, .int .i64 x.line, .int .i64 x.col] 64))) := Lib.hid (MapKept.heap_alloc w _).1
  have HE1 : Hid (RkEnv Be (w.alloc (.cells #[.int .i8 x.kind, .int .i64 x.kids, .int .i64 x.n, .string x.s, .string x.t, .string x.u, .int .i64 x.line, .int .i64 x.col] 64)) (.slice A env.length C) env) := Lib.hid (own_later hE hb0)
  have hg3 : ((w.alloc (.cells #[.int .i8 x.kind, .int .i64 x.kids, .int .i64 x.n, .string x.s, .string x.t, .string x.u, .int .i64 x.line, .int .i64 x.col] 64))).heap.size = w.heap.size + 1 := by simp
  have hws : w.heap.size + 1 ≤ ((w.alloc (.cells #[.int .i8 x.kind, .int .i64 x.kids, .int .i64 x.n, .string x.s, .string x.t, .string x.u, .int .i64 x.line, .int .i64 x.col] 64))).heap.size := by rw [hg3]; omega
  show Calls Tryz.prog _ #[_, .agg #[.int .i8 x.kind, .int .i64 x.kids, .int .i64 x.n, .string x.s, .string x.t, .string x.u, .int .i64 x.line, .int .i64 x.col], _, _] w _
  have HB0 := Lib.hid hb0
  have HG3 := Lib.hid hg3
  clear hE hb0 hg3
  go_enter Tryz.func86, Tryz.ntmps86
  go_wp2_with (refine wpList_make_full _ rfl (.tmp 13) (.tmp 13) 86 rfl (w.heap.size + 1) 88 i0 _ 2 Tryz.underlying86 hi hz0 hz1 .i64 .i64 (env.length : Int) (env.length : Int) env.length rfl rfl rfl rfl (by rw [hz2]; omega) (by unfold maxLen; omega) hws ?_)
  intro w3 hown hgr
  try rw [HG3.out] at hown
  have hb3 : Below ((w.alloc (.cells #[.int .i8 x.kind, .int .i64 x.kids, .int .i64 x.n, .string x.s, .string x.t, .string x.u, .int .i64 x.line, .int .i64 x.col] 64))).heap.size (w.alloc (.cells #[.int .i8 x.kind, .int .i64 x.kids, .int .i64 x.n, .string x.s, .string x.t, .string x.u, .int .i64 x.line, .int .i64 x.col] 64)) w3 := (Below.refl _ _).grown hgr (Nat.le_refl _) fun k hk => by cases hk
  have HB3 : Hid (Below w.heap.size w w3) := Lib.hid (below_later hb3 HB0.out)
  have HX3 : Hid (Box w.heap.size x w3) := Lib.hid (HX.out.later hb3)
  have HE3 : Hid (RkEnv Be w3 (.slice A env.length C) env) := Lib.hid (own_later HE1.out hb3)
  have HOW := Lib.hid hown
  clear hgr hown hb3 HX HE1 hws HB0 HG3
  go_wp2_with (refine wpList_copy_wide rfl (.tmp 15) (.tmp 16) 86 86 rfl 88 Tryz.underlying86 i0 hi 2 hz1 (by decide) (w.heap.size + 1) env.length C A rfl rfl (w.heap.size + 1) _ HOW.out (env.reverse.flatMap bcells) (by rw [flat_bind_len, List.length_reverse]) (HE3.out.cells rfl) bcells_one w3 (Below.refl _ _) ?_)
  intro w4 hown4 hb4
  have HO : Hid (RkEnv (w.heap.size + 1) w4 (.slice (some ⟨w.heap.size + 1, 0, none⟩) env.length env.length) env) := Lib.hid hown4
  have HB4 : Hid (Below w.heap.size w w4) := Lib.hid (HB3.out.trans (hb4.mono (Nat.le_succ _)))
  have HX4 : Hid (Box w.heap.size x w4) := Lib.hid ((hb4.block _ (Nat.lt_succ_self _)).trans HX3.out)
  have x0 : w4.cell? ⟨w.heap.size, 0, none⟩ = some (.int .i8 x.kind) := HX4.out.cell 0
  have x3 : w4.cell? ⟨w.heap.size, 3, none⟩ = some (.string x.s) := HX4.out.cell 3
  have x4 : w4.cell? ⟨w.heap.size, 4, none⟩ = some (.string x.t) := HX4.out.cell 4
  have x5 : w4.cell? ⟨w.heap.size, 5, none⟩ = some (.string x.u) := HX4.out.cell 5
  have hsz4 : w.heap.size + 1 ≤ w4.heap.size := by
    have h1 := HX4.out.lt
    omega
  have HSZ := Lib.hid hsz4
  clear hown4 hb4 HB3 HX3 HE3 HOW hsz4
  go_wp2_with fail
  refine (HNM.out _).mono ?_
  rintro E w4b ⟨na, nb, rfl, hnn, hb4b⟩
  obtain ⟨rfl, rfl⟩ := hnn _ _ HTW.out
  have HOb : Hid (RkEnv (w.heap.size + 1) w4b (.slice (some ⟨w.heap.size + 1, 0, none⟩) env.length env.length) env) := Lib.hid (own_later HO.out hb4b)
  have HB4b := Lib.hid (below_later hb4b HB4.out)
  have HX4b := Lib.hid (HX4.out.later hb4b)
  have HSZb : Hid (w.heap.size + 1 ≤ w4b.heap.size) := Lib.hid (Nat.le_trans HSZ.out hb4b.size)
  clear hnn hb4b HO HB4 HX4 x0 x3 x4 x5 HNM HSZ
  have x3 : w4b.cell? ⟨w.heap.size, 3, none⟩ = some (.string x.s) := HX4b.out.cell 3
  have x4 : w4b.cell? ⟨w.heap.size, 4, none⟩ = some (.string x.t) := HX4b.out.cell 4
  have x5 : w4b.cell? ⟨w.heap.size, 5, none⟩ = some (.string x.u) := HX4b.out.cell 5
  have x0 : w4b.cell? ⟨w.heap.size, 0, none⟩ = some (.int .i8 x.kind) := HX4b.out.cell 0
  have HO := HOb
  have HB4 := HB4b
  have HX4 := HX4b
  have HSZ := HSZb
  clear HOb HB4b HX4b HSZb
  go_wp2_with fail
  refine wp_region_plan (S := fun w' => w'.cell? ⟨w.heap.size, 3, none⟩ = some (.string x.s) ∧ w'.cell? ⟨w.heap.size, 4, none⟩ = some (.string x.t) ∧ w'.cell? ⟨w.heap.size, 5, none⟩ = some (.string x.u)) [(0, true), (1, true), (2, true), (3, true), (6, true), (7, true), (4, false), (5, true), (8, false), (9, true), (10, true), (11, false), (12, false), (13, true)] (by kernel_rfl) (by kernel_rfl) (by kernel_rfl) (fun _ _ _ _ _ h => h) ⟨x3, x4, x5⟩ ?_
  intro HS
  repeat (first | (apply wpPlan_look; rfl; rfl; (intro wq hq; (try dsimp only at hq); go_split_ands; go_simp; (try rw [if_neg (by omega)]); (try rw [if_pos (by omega)]); try with_reducible rfl); simp only [Act.put, List.setIfInBounds_toArray, List.set_cons_zero, List.set_cons_succ]) | (apply wpPlan_skip; rfl; rfl; simp only [Act.put, List.setIfInBounds_toArray, List.set_cons_zero, List.set_cons_succ]) | (apply wpPlan_pass; rfl; rfl; assumption; simp only [Act.put, List.setIfInBounds_toArray, List.set_cons_zero, List.set_cons_succ]))
  apply wpPlan_call; rfl; rfl; rfl; rfl; kernel_rfl; exact HU1.out _; rfl; rintro E w5 ⟨rfl, rfl⟩
  refine ⟨_, rfl, as_S HS ?_⟩
  intro HS
  simp only [Act.put, List.setIfInBounds_toArray, List.set_cons_zero, List.set_cons_succ]
  repeat (first | (apply wpPlan_look; rfl; rfl; (intro wq hq; (try dsimp only at hq); go_split_ands; go_simp; (try rw [if_neg (by omega)]); (try rw [if_pos (by omega)]); try with_reducible rfl); simp only [Act.put, List.setIfInBounds_toArray, List.set_cons_zero, List.set_cons_succ]) | (apply wpPlan_skip; rfl; rfl; simp only [Act.put, List.setIfInBounds_toArray, List.set_cons_zero, List.set_cons_succ]) | (apply wpPlan_pass; rfl; rfl; assumption; simp only [Act.put, List.setIfInBounds_toArray, List.set_cons_zero, List.set_cons_succ]))
  apply wpPlan_call; rfl; rfl; rfl; rfl; kernel_rfl; exact HU2.out _; rfl; rintro E w5 ⟨rfl, rfl⟩
  refine ⟨_, rfl, as_S HS ?_⟩
  intro HS
  simp only [Act.put, List.setIfInBounds_toArray, List.set_cons_zero, List.set_cons_succ]
  repeat (first | (apply wpPlan_look; rfl; rfl; (intro wq hq; (try dsimp only at hq); go_split_ands; go_simp; (try rw [if_neg (by omega)]); (try rw [if_pos (by omega)]); try with_reducible rfl); simp only [Act.put, List.setIfInBounds_toArray, List.set_cons_zero, List.set_cons_succ]) | (apply wpPlan_skip; rfl; rfl; simp only [Act.put, List.setIfInBounds_toArray, List.set_cons_zero, List.set_cons_succ]) | (apply wpPlan_pass; rfl; rfl; assumption; simp only [Act.put, List.setIfInBounds_toArray, List.set_cons_zero, List.set_cons_succ]))
  have hb5 : Below w4b.heap.size w4b (w4b.drew.alloc (.cells #[.string (bs fa), .string (Ty.fn S1 S2).str] 88)) := (Below.refl _ _).drew.alloc (Nat.le_refl _) _
  have q3 := cell_later hb5 x3
  have q4 := cell_later hb5 x4
  have q5 := cell_later hb5 x5
  refine wpPlan_run rfl rfl (by simp [execOp, go_sem, build_bind, hfs]; (first | exact ⟨rfl, rfl⟩ | rfl)) _ (fun _ h => h) ⟨q3, q4, q5⟩ ?_
  simp only [Act.put, List.setIfInBounds_toArray, List.set_cons_zero, List.set_cons_succ]
  refine wpPlan_actS rfl rfl fun K hK => ?_
  have hown5 : (w4b.drew.alloc (.cells #[.string (bs fa), .string (Ty.fn S1 S2).str] 88)).ownsRow (w.heap.size + 1) 88 2 (.slice (some ⟨w.heap.size + 1, 0, none⟩) env.length env.length) env.length (env.reverse.flatMap bcells) := own_later HO.out hb5
  have hnews : ∀ (j : Nat) (v : Value), [Value.string (bs fa), Value.string (Ty.fn S1 S2).str][j]? = some v → (w4b.drew.alloc (.cells #[.string (bs fa), .string (Ty.fn S1 S2).str] 88)).cell? ((⟨w4b.heap.size, 0, none⟩ : Addr).add j) = some v := by
    intro j v hv
    rw [add_zero_addr]
    change (w4b.drew.alloc (.cells #[.string (bs fa), .string (Ty.fn S1 S2).str] 88)).cell? ⟨w4b.drew.heap.size, j, none⟩ = some v
    rw [World.cell?_alloc_at _ _ _ _ rfl]
    simpa using hv
  have hsz5 : w.heap.size + 1 ≤ (w4b.drew.alloc (.cells #[.string (bs fa), .string (Ty.fn S1 S2).str] 88)).heap.size := by have := hb5.size; have := HSZ.out; omega
  refine wp_append_own _ (.tmp 39) (.tmp 50) 86 rfl (w.heap.size + 1) 88 i0 _ 2 32 Tryz.underlying86 hi hz0 hz1 hz2 rfl (by decide) _ env.length (env.reverse.flatMap bcells) rfl hown5 ⟨w4b.heap.size, 0, none⟩ 1 1 [.string (bs fa), .string (Ty.fn S1 S2).str] rfl rfl hnews (by intro v hv; simp at hv; rcases hv with rfl | rfl <;> rfl) (by unfold maxLen; omega) (by omega) hsz5 ?_
  intro v' w6 hown' hg _
  have hb6 : Below (w.heap.size + 1) (w4b.drew.alloc (.cells #[.string (bs fa), .string (Ty.fn S1 S2).str] 88)) w6 := (Below.refl _ _).grown hg hsz5 fun k hk => by
    injection hk with hk
    subst hk
    exact Nat.le_refl _
  have r3 := below_cell hb6 q3 (Nat.lt_succ_self _)
  have r4 := below_cell hb6 q4 (Nat.lt_succ_self _)
  have r5 := below_cell hb6 q5 (Nat.lt_succ_self _)
  have HB6 : Hid (Below w.heap.size w w6) := Lib.hid ((below_later hb5 HB4.out).trans (hb6.mono (Nat.le_succ _)))
  rw [show env.reverse.flatMap bcells ++ [Value.string (bs fa), Value.string (Ty.fn S1 S2).str] = ((bs fa, Ty.fn S1 S2) :: env).reverse.flatMap bcells from (rev_cons (bs fa, Ty.fn S1 S2) env).symm] at hown'
  have HO6 : Hid (RkEnv (w.heap.size + 1) w6 v' ((bs fa, Ty.fn S1 S2) :: env)) := Lib.hid hown'
  have HSZ6 : Hid (w.heap.size + 1 ≤ w6.heap.size) := Lib.hid (Nat.le_trans hsz5 hb6.size)
  refine hK _ _ ⟨_, fun _ h => h, ⟨r3, r4, r5⟩, ?_⟩
  clear HS q3 q4 q5 hown5 hnews hown' hg hb5 hb6 hsz5 x0 x3 x4 x5 HO HB4 HX4 HSZ
  simp only [Act.put, List.setIfInBounds_toArray, List.set_cons_zero, List.set_cons_succ]
  repeat (first | (apply wpPlan_look; rfl; rfl; (intro wq hq; (try dsimp only at hq); go_split_ands; go_simp; (try rw [if_neg (by omega)]); (try rw [if_pos (by omega)]); try with_reducible rfl); simp only [Act.put, List.setIfInBounds_toArray, List.set_cons_zero, List.set_cons_succ]) | (apply wpPlan_skip; rfl; rfl; simp only [Act.put, List.setIfInBounds_toArray, List.set_cons_zero, List.set_cons_succ]) | (apply wpPlan_pass; rfl; rfl; assumption; simp only [Act.put, List.setIfInBounds_toArray, List.set_cons_zero, List.set_cons_succ]))
  apply wpPlan_done
  obtain ⟨A6, c6, rfl⟩ := own_shape HO6.out
  go_wp2_with fail
  refine (HU1.out _).mono ?_
  rintro E w7 ⟨rfl, rfl⟩
  have own6 : w6.ownsRow (w.heap.size + 1) 88 2 (.slice A6 (env.length + 1) c6) (env.length + 1) (((bs fa, Ty.fn S1 S2) :: env).reverse.flatMap bcells) := HO6.out
  have hbb := build_bind
  go_wp2_with (at_builtin; refine append_agg rfl (.tmp 52) (.tmp 58) 86 88 rfl (w.heap.size + 1) _ 2 32 Tryz.underlying86 bind_info rfl (by decide) (.slice A6 (env.length + 1) c6) _ _ rfl own6 [.string (bs fb), .string S1.str] rfl w6.heap.size rfl rfl ?_ ?_ ?_ ?_ ?_)
  · intro v hv; simp at hv; rcases hv with rfl | rfl <;> rfl
  · omega
  · omega
  · exact HSZ6.out
  · intro v7 w7 hown7 hg7 hb7
    have HB7 : Hid (Below w.heap.size w w7) := Lib.hid (HB6.out.trans (hb7.mono (Nat.le_succ _)))
    have HO7 : Hid (RkEnv (w.heap.size + 1) w7 v7 ((bs fb, S1) :: (bs fa, Ty.fn S1 S2) :: env)) := Lib.hid (by
      unfold RkEnv
      rw [rev_cons (bs fb, S1), rev_cons (bs fa, Ty.fn S1 S2), List.append_assoc]
      exact hown7)
    clear hown7 hg7 hb7
    go_wp2_with fail
    go_ret
    exact ⟨_, rfl, own_base HO7.out (Nat.le_succ _), HB7.out⟩
theorem rinner_any (hm : Tr.may x = true) (hE : RkEnv Be w iv env) (hl : env.length ≤ 1000000000) :
    Calls Tryz.prog 86 #[.pointer (some ⟨c, 0, none⟩), x.val, .int .i64 (k : Int), iv] w (InnerRes (Tr.innerT x k env) w) := by
  by_cases h6 : x.kind = 6
  · exact rinner_6 c w x k env iv Be h6 hm hE hl
  by_cases h5 : x.kind = 5
  · have := rinner_5 c w x k env iv Be h5 ((may_note hm).1 (.inl h5)) hE hl
    unfold Tr.innerT
    rw [if_pos h5]
    exact this
  by_cases h8 : x.kind = 8 ∧ k = 1
  · have := rinner_8 c w x k env iv Be h8.1 h8.2 ((may_note hm).1 (.inr (.inr h8.1))) hE hl
    unfold Tr.innerT
    rw [if_neg h5, if_neg h6, if_pos h8]
    exact this
  · have := rinner_no c w x k env iv Be (by omega) hE hl
    unfold Tr.innerT
    rw [if_neg h5, if_neg h6, if_neg h8]
    exact this
end
end Go.Proofs.YtdobaililmkkcaaGreatDoor
