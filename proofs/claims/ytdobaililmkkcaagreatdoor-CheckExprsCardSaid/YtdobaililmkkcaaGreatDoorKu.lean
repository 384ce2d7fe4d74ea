
/- Walks of the checker: a node's rule: leaves; the closure that checks a kid. -/
import Derived.Test.YtdobaililmkkcaaGreatDoorKs
namespace Culp.Tr
set_option linter.unusedSimpArgs false
set_option linter.unusedVariables false
open Go
theorem ruleT_leaf {x : Nd} {env : Env} {p : Nat} : (x.kind = 1 → ruleT x .nil env p = .ok (.int, [])) ∧ (x.kind = 2 → ruleT x .nil env p = .ok (.text, [])) ∧ (x.kind = 3 → ruleT x .nil env p = .ok (.bool, [])) ∧ (x.kind = 4 → ruleT x .nil env p = (Go.Proofs.YtdobaililmkkcaaGreatDoor.lookR env x.s p).map fun t => (t, [])) := by
  refine ⟨fun h => ?_, fun h => ?_, fun h => ?_, fun h => ?_⟩
  · simp [ruleT, chk, nodeT, h]
  · simp [ruleT, chk, nodeT, h]
  · simp [ruleT, chk, nodeT, h]
  · simp only [ruleT, chk, nodeT, h, Go.Proofs.YtdobaililmkkcaaGreatDoor.lookR]
    cases lookT env x.s <;> simp [Except.map]
theorem chk_first (y : Nd) (ky r : F) (g : Nat → Env) (k q : Nat) : chk false (.cons y ky r) g k q = match chk1 false y ky (g k) q with
    | .error b => .error b
    | .ok ts => (chk false r g (k + 1) (q + 1 + ky.flat.length)).map fun R => (q, ts) :: R := by
  unfold chk1
  simp only [chk]
  generalize (if y.kind = 5 ∨ y.kind = 6 then (sizeT q (.fn (noteT y.t) (noteT y.u))).map fun _ => () else .ok () : Except Bad Unit) = A
  cases A with
  | error b => rfl
  | ok _ =>
    simp only []
    generalize chk false ky (fun j => innerT y j (g k)) 0 (q + 1) = K
    cases K with
    | error b => rfl
    | ok K =>
      simp only []
      generalize nodeT false y (g k) q (K.map fun a => (a.1, a.2.headD .dyn)) = t
      cases t with
      | error b => rfl
      | ok t =>
        simp only []
        cases sizeT q t with
        | error b => rfl
        | ok u =>
          simp only [List.map_cons, List.map_nil, List.flatten_cons, List.flatten_nil, List.append_nil]
          cases chk false r g (k + 1) (q + 1 + ky.flat.length) <;> rfl
theorem lookT_fits {env : Env} {s : ByteArray} {t : Ty} (h : ∀ b ∈ env, b.2.fits) (hl : lookT env s = some t) : t.fits := by
  induction env with
  | nil => cases hl
  | cons b l ih =>
    obtain ⟨n, u⟩ := b
    unfold lookT at hl
    split at hl
    · injection hl with hl; subst hl; exact h _ List.mem_cons_self
    · exact ih (fun b hb => h b (List.mem_cons_of_mem _ hb)) hl
end Culp.Tr
namespace Go.Proofs.YtdobaililmkkcaaGreatDoor
set_option linter.unusedSimpArgs false
set_option linter.unusedVariables false
open Go.RowKit Go.Maps Culp
theorem check_skip (c B a : Nat) (tv yv : Value) (ys : List ByteArray) (e : Int) (he : e ≠ 0) (w : World) (h : CkAt c B tv yv ys e a w) (k : Nat) (bc bi : Nat) (hbc : w.cell? ⟨bc, 0, none⟩ = some (.pointer (some ⟨c, 0, none⟩))) :
    Calls Tryz.prog 73 #[.int .i64 (k : Int), .pointer (some ⟨bc, 0, none⟩), .pointer (some ⟨bi, 0, none⟩)] w (Gives (.tuple #[]) w) := by
  have c2 := h.c2
  have q : (e == 0) = false := beq_eq_false_iff_ne.2 he
  clear h he
  go_enter Tryz.func73, Tryz.ntmps73
  go_wp2_with fail
  exact bodyPost_end (v := .tuple #[]) (by simp [results, Tryz.results73, go_sem]) rfl ⟨rfl, rfl⟩
theorem check_go (c : Nat) (Q : Ending → World → Prop) (hQ : ∀ E w', Q E w' → ∃ s, E = .returned (.string s)) (w : World) (k : Nat) (bc bi : Nat) (pv : Option Addr) (hbc : w.cell? ⟨bc, 0, none⟩ = some (.pointer (some ⟨c, 0, none⟩))) (hbi : w.cell? ⟨bi, 0, none⟩ = some (.pointer pv)) (hc2 : w.cell? ⟨c, 2, none⟩ = some (.int .i64 0))
    (HP : Calls Tryz.prog 25 #[.pointer (some ⟨c, 0, none⟩), .int .i64 (k : Int), .pointer pv] w Q) :
    Calls Tryz.prog 73 #[.int .i64 (k : Int), .pointer (some ⟨bc, 0, none⟩), .pointer (some ⟨bi, 0, none⟩)] w (fun E w' => E = .returned (.tuple #[]) ∧ ∃ s, Q (.returned (.string s)) w') := by
  have HPP := Lib.hid HP
  have HQ := Lib.hid hQ
  clear HP hQ
  go_enter Tryz.func73, Tryz.ntmps73
  go_wp2_with fail
  refine HPP.out.mono ?_
  rintro E w' hq
  obtain ⟨s, rfl⟩ := HQ.out E w' hq
  have HR := Lib.hid hq
  clear hq
  go_wp2_with fail
  exact bodyPost_end (v := .tuple #[]) (by simp [results, Tryz.results73, go_sem]) rfl ⟨rfl, s, HR.out⟩
section
variable (T : List Nd) (tv : Value) (W : World) (c B n : Nat) (hN : Nodes W tv T) (hTl : T.length ≤ 1000000)
  (x : Nd) (p : Nat) (env : Tr.Env) (ev yv : Value) (w : World) (ys : List ByteArray) (a : Nat)
  (hx : T[p]? = some x) (hB : Below W.heap.size W w) (hE : EnvIs w ev env) (hEF : EnvFits env)
  (hC : CkAt c B tv yv ys 0 a w)
include hN hTl hx hB hE hEF hC
set_option maxRecDepth 100000 in
set_option maxHeartbeats 3200000 in
theorem rule_1 (hk : x.kind = 1) : Calls Tryz.prog 54 #[.pointer (some ⟨c, 0, none⟩), .int .i64 (p : Int), ev] w
      (RuleP c B tv yv ys a p 1 (Tr.ruleT x .nil env p) w) := by
  have HR := Lib.hid (Tr.ruleT_leaf.1 hk : Tr.ruleT x .nil env p = _)
  have e1 : (x.kind == 1) = true := by rw [hk]; rfl
  have HND : Hid (Nodes w tv T) := Lib.hid (hN.later hB)
  have hpT : p < T.length := (List.getElem?_eq_some_iff.1 hx).1
  have HC := Lib.hid hC
  have HE := Lib.hid hE
  have HBW := Lib.hid hB
  have HXX := Lib.hid hx
  obtain ⟨ep, rfl⟩ := hE.shape
  have hb2 : Below w.heap.size w ((w.alloc (.cells #[.pointer (some ⟨c, 0, none⟩)] 70)).alloc (.cells #[.pointer ep] 65)) := ((Below.refl _ _).alloc (Nat.le_refl _) _).alloc (by simp) _
  obtain ⟨A, C, rfl, hlc, hNN⟩ := HND.out.later hb2
  obtain ⟨b, off, rfl, hM⟩ := hNN (by omega)
  obtain ⟨n0, n1, n2, n3, n4, n5, n6, n7⟩ := hM.at_ hx
  have c0 := (hC.later hb2).c0
  have hb3 := hb2.alloc (by simp; omega) (.cells #[.int .i8 x.kind, .int .i64 x.kids, .int .i64 x.n, .string x.s, .string x.t, .string x.u, .int .i64 x.line, .int .i64 x.col] 64)
  have HB3 := Lib.hid hb3
  have c03 := (hC.later hb3).c0
  have HBX : Hid (Box (w.heap.size + 2) x (((w.alloc (.cells #[.pointer (some ⟨c, 0, none⟩)] 70)).alloc (.cells #[.pointer ep] 65)).alloc (.cells #[.int .i8 x.kind, .int .i64 x.kids, .int .i64 x.n, .string x.s, .string x.t, .string x.u, .int .i64 x.line, .int .i64 x.col] 64))) := Lib.hid (by
    have := (MapKept.heap_alloc ((w.alloc (.cells #[.pointer (some ⟨c, 0, none⟩)] 70)).alloc (.cells #[.pointer ep] 65)) (.cells #[.int .i8 x.kind, .int .i64 x.kids, .int .i64 x.n, .string x.s, .string x.t, .string x.u, .int .i64 x.line, .int .i64 x.col] 64 (0, 0))).1
    have e : ((w.alloc (.cells #[.pointer (some ⟨c, 0, none⟩)] 70)).alloc (.cells #[.pointer ep] 65)).heap.size = w.heap.size + 2 := by simp
    rw [e] at this
    exact this)
  have HK := Lib.hid hk
  have HEF := Lib.hid hEF
  clear hM hNN hE hC hB hk hx hb2 hb3 hEF
  go_enter Tryz.func54, Tryz.ntmps54
  go_wp2_with fail
  go_ret
  rw [HR.out]
  exact ⟨_, ys, rfl, HC.out.later HB3.out, KeepN.of c _ HB3.out, Tr.good_ok _, Tr.SameB.refl _ _ _, fun t L h => by
    injection h with h
    injection h with h1 h2
    subst h1 h2
    exact ⟨rfl, rfl, fun j u hj => by cases hj⟩⟩
set_option maxRecDepth 100000 in
set_option maxHeartbeats 3200000 in
theorem rule_2 (hk : x.kind = 2) : Calls Tryz.prog 54 #[.pointer (some ⟨c, 0, none⟩), .int .i64 (p : Int), ev] w
      (RuleP c B tv yv ys a p 1 (Tr.ruleT x .nil env p) w) := by
  have HR := Lib.hid (Tr.ruleT_leaf.2.1 hk : Tr.ruleT x .nil env p = _)
  have e1 : (x.kind == 1) = false := by rw [hk]; rfl
  have e2 : (x.kind == 2) = true := by rw [hk]; rfl
  have HND : Hid (Nodes w tv T) := Lib.hid (hN.later hB)
  have hpT : p < T.length := (List.getElem?_eq_some_iff.1 hx).1
  have HC := Lib.hid hC
  have HE := Lib.hid hE
  have HBW := Lib.hid hB
  have HXX := Lib.hid hx
  obtain ⟨ep, rfl⟩ := hE.shape
  have hb2 : Below w.heap.size w ((w.alloc (.cells #[.pointer (some ⟨c, 0, none⟩)] 70)).alloc (.cells #[.pointer ep] 65)) := ((Below.refl _ _).alloc (Nat.le_refl _) _).alloc (by simp) _
  obtain ⟨A, C, rfl, hlc, hNN⟩ := HND.out.later hb2
  obtain ⟨b, off, rfl, hM⟩ := hNN (by omega)
  obtain ⟨n0, n1, n2, n3, n4, n5, n6, n7⟩ := hM.at_ hx
  have c0 := (hC.later hb2).c0
  have hb3 := hb2.alloc (by simp; omega) (.cells #[.int .i8 x.kind, .int .i64 x.kids, .int .i64 x.n, .string x.s, .string x.t, .string x.u, .int .i64 x.line, .int .i64 x.col] 64)
  have HB3 := Lib.hid hb3
  have c03 := (hC.later hb3).c0
  have HBX : Hid (Box (w.heap.size + 2) x (((w.alloc (.cells #[.pointer (some ⟨c, 0, none⟩)] 70)).alloc (.cells #[.pointer ep] 65)).alloc (.cells #[.int .i8 x.kind, .int .i64 x.kids, .int .i64 x.n, .string x.s, .string x.t, .string x.u, .int .i64 x.line, .int .i64 x.col] 64))) := Lib.hid (by
    have := (MapKept.heap_alloc ((w.alloc (.cells #[.pointer (some ⟨c, 0, none⟩)] 70)).alloc (.cells #[.pointer ep] 65)) (.cells #[.int .i8 x.kind, .int .i64 x.kids, .int .i64 x.n, .string x.s, .string x.t, .string x.u, .int .i64 x.line, .int .i64 x.col] 64 (0, 0))).1
    have e : ((w.alloc (.cells #[.pointer (some ⟨c, 0, none⟩)] 70)).alloc (.cells #[.pointer ep] 65)).heap.size = w.heap.size + 2 := by simp
    rw [e] at this
    exact this)
  have HK := Lib.hid hk
  have HEF := Lib.hid hEF
  clear hM hNN hE hC hB hk hx hb2 hb3 hEF
  go_enter Tryz.func54, Tryz.ntmps54
  go_wp2_with fail
  go_ret
  rw [HR.out]
  exact ⟨_, ys, rfl, HC.out.later HB3.out, KeepN.of c _ HB3.out, Tr.good_ok _, Tr.SameB.refl _ _ _, fun t L h => by
    injection h with h
    injection h with h1 h2
    subst h1 h2
    exact ⟨rfl, rfl, fun j u hj => by cases hj⟩⟩
set_option maxRecDepth 100000 in
set_option maxHeartbeats 3200000 in
theorem rule_3 (hk : x.kind = 3) : Calls Tryz.prog 54 #[.pointer (some ⟨c, 0, none⟩), .int .i64 (p : Int), ev] w
      (RuleP c B tv yv ys a p 1 (Tr.ruleT x .nil env p) w) := by
  have HR := Lib.hid (Tr.ruleT_leaf.2.2.1 hk : Tr.ruleT x .nil env p = _)
  have e1 : (x.kind == 1) = false := by rw [hk]; rfl
  have e2 : (x.kind == 2) = false := by rw [hk]; rfl
  have e3 : (x.kind == 3) = true := by rw [hk]; rfl
  have HND : Hid (Nodes w tv T) := Lib.hid (hN.later hB)
  have hpT : p < T.length := (List.getElem?_eq_some_iff.1 hx).1
  have HC := Lib.hid hC
  have HE := Lib.hid hE
  have HBW := Lib.hid hB
  have HXX := Lib.hid hx
  obtain ⟨ep, rfl⟩ := hE.shape
  have hb2 : Below w.heap.size w ((w.alloc (.cells #[.pointer (some ⟨c, 0, none⟩)] 70)).alloc (.cells #[.pointer ep] 65)) := ((Below.refl _ _).alloc (Nat.le_refl _) _).alloc (by simp) _
  obtain ⟨A, C, rfl, hlc, hNN⟩ := HND.out.later hb2
  obtain ⟨b, off, rfl, hM⟩ := hNN (by omega)
  obtain ⟨n0, n1, n2, n3, n4, n5, n6, n7⟩ := hM.at_ hx
  have c0 := (hC.later hb2).c0
  have hb3 := hb2.alloc (by simp; omega) (.cells #[.int .i8 x.kind, .int .i64 x.kids, .int .i64 x.n, .string x.s, .string x.t, .string x.u, .int .i64 x.line, .int .i64 x.col] 64)
  have HB3 := Lib.hid hb3
  have c03 := (hC.later hb3).c0
  have HBX : Hid (Box (w.heap.size + 2) x (((w.alloc (.cells #[.pointer (some ⟨c, 0, none⟩)] 70)).alloc (.cells #[.pointer ep] 65)).alloc (.cells #[.int .i8 x.kind, .int .i64 x.kids, .int .i64 x.n, .string x.s, .string x.t, .string x.u, .int .i64 x.line, .int .i64 x.col] 64))) := Lib.hid (by
    have := (MapKept.heap_alloc ((w.alloc (.cells #[.pointer (some ⟨c, 0, none⟩)] 70)).alloc (.cells #[.pointer ep] 65)) (.cells #[.int .i8 x.kind, .int .i64 x.kids, .int .i64 x.n, .string x.s, .string x.t, .string x.u, .int .i64 x.line, .int .i64 x.col] 64 (0, 0))).1
    have e : ((w.alloc (.cells #[.pointer (some ⟨c, 0, none⟩)] 70)).alloc (.cells #[.pointer ep] 65)).heap.size = w.heap.size + 2 := by simp
    rw [e] at this
    exact this)
  have HK := Lib.hid hk
  have HEF := Lib.hid hEF
  clear hM hNN hE hC hB hk hx hb2 hb3 hEF
  go_enter Tryz.func54, Tryz.ntmps54
  go_wp2_with fail
  go_ret
  rw [HR.out]
  exact ⟨_, ys, rfl, HC.out.later HB3.out, KeepN.of c _ HB3.out, Tr.good_ok _, Tr.SameB.refl _ _ _, fun t L h => by
    injection h with h
    injection h with h1 h2
    subst h1 h2
    exact ⟨rfl, rfl, fun j u hj => by cases hj⟩⟩
set_option maxRecDepth 100000 in
set_option maxHeartbeats 3200000 in
theorem rule_4 (hk : x.kind = 4) : Calls Tryz.prog 54 #[.pointer (some ⟨c, 0, none⟩), .int .i64 (p : Int), ev] w
      (RuleP c B tv yv ys a p 1 (Tr.ruleT x .nil env p) w) := by
  have HR := Lib.hid (Tr.ruleT_leaf.2.2.2 hk : Tr.ruleT x .nil env p = _)
  have e1 : (x.kind == 1) = false := by rw [hk]; rfl
  have e2 : (x.kind == 2) = false := by rw [hk]; rfl
  have e3 : (x.kind == 3) = false := by rw [hk]; rfl
  have e4 : (x.kind == 4) = true := by rw [hk]; rfl
  have HND : Hid (Nodes w tv T) := Lib.hid (hN.later hB)
  have hpT : p < T.length := (List.getElem?_eq_some_iff.1 hx).1
  have HC := Lib.hid hC
  have HE := Lib.hid hE
  have HBW := Lib.hid hB
  have HXX := Lib.hid hx
  obtain ⟨ep, rfl⟩ := hE.shape
  have hb2 : Below w.heap.size w ((w.alloc (.cells #[.pointer (some ⟨c, 0, none⟩)] 70)).alloc (.cells #[.pointer ep] 65)) := ((Below.refl _ _).alloc (Nat.le_refl _) _).alloc (by simp) _
  obtain ⟨A, C, rfl, hlc, hNN⟩ := HND.out.later hb2
  obtain ⟨b, off, rfl, hM⟩ := hNN (by omega)
  obtain ⟨n0, n1, n2, n3, n4, n5, n6, n7⟩ := hM.at_ hx
  have c0 := (hC.later hb2).c0
  have hb3 := hb2.alloc (by simp; omega) (.cells #[.int .i8 x.kind, .int .i64 x.kids, .int .i64 x.n, .string x.s, .string x.t, .string x.u, .int .i64 x.line, .int .i64 x.col] 64)
  have HB3 := Lib.hid hb3
  have c03 := (hC.later hb3).c0
  have HBX : Hid (Box (w.heap.size + 2) x (((w.alloc (.cells #[.pointer (some ⟨c, 0, none⟩)] 70)).alloc (.cells #[.pointer ep] 65)).alloc (.cells #[.int .i8 x.kind, .int .i64 x.kids, .int .i64 x.n, .string x.s, .string x.t, .string x.u, .int .i64 x.line, .int .i64 x.col] 64))) := Lib.hid (by
    have := (MapKept.heap_alloc ((w.alloc (.cells #[.pointer (some ⟨c, 0, none⟩)] 70)).alloc (.cells #[.pointer ep] 65)) (.cells #[.int .i8 x.kind, .int .i64 x.kids, .int .i64 x.n, .string x.s, .string x.t, .string x.u, .int .i64 x.line, .int .i64 x.col] 64 (0, 0))).1
    have e : ((w.alloc (.cells #[.pointer (some ⟨c, 0, none⟩)] 70)).alloc (.cells #[.pointer ep] 65)).heap.size = w.heap.size + 2 := by simp
    rw [e] at this
    exact this)
  have HK := Lib.hid hk
  have HEF := Lib.hid hEF
  clear hM hNN hE hC hB hk hx hb2 hb3 hEF
  go_enter Tryz.func54, Tryz.ntmps54
  go_wp2_with fail
  refine (lookup_any c B _ yv ys a T p x env (.pointer ep) _ (HND.out.later HB3.out) hTl HXX.out (HE.out.later HB3.out) (HC.out.later HB3.out)).mono ?_
  rintro E w4 hr
  have HP : Hid (∃ s, E = .returned (.string s) ∧ RuleP c B (.slice (some ⟨b, off, none⟩) T.length C) yv ys a p 1 (Tr.ruleT x .nil env p) w (.returned (.string s)) w4) := Lib.hid (by
    rw [HR.out]
    have hk0 : KeepN c yv.ownBlock w _ := KeepN.of c _ HB3.out
    unfold RuleRes at hr
    cases hl : lookR env x.s p with
    | ok t =>
      rw [hl] at hr
      exact ⟨_, hr.1, _, ys, rfl, hr.2.1, hk0.keep hr.2.2, Tr.good_ok _, Tr.SameB.refl _ _ _, fun t' L h => by
        injection h with h
        injection h with h1 h2
        subst h1 h2
        exact ⟨rfl, rfl, fun j u hj => by cases hj⟩⟩
    | error bb =>
      rw [hl] at hr
      obtain ⟨s, h1, h2⟩ := hr
      exact ⟨s, h1.1, s, ys, rfl, h1.2.1, hk0.keep h1.2.2, fun b' h => by injection h with h; rw [← h]; exact h2, Tr.SameB.refl _ _ _, fun t' L h => by cases h⟩)
  obtain ⟨s, rfl, hP⟩ := HP.out
  have HP := Lib.hid hP
  clear hP hr n0 n1 n2 n3 n4 n5 n6 n7 c0
  go_wp2_with fail
  go_ret
  exact HP.out
end
end Go.Proofs.YtdobaililmkkcaaGreatDoor

/- Walks of the checker: a node's rule: functions; what asks of kids. -/
namespace Go.Proofs.YtdobaililmkkcaaGreatDoor
set_option linter.unusedSimpArgs false
set_option linter.unusedVariables false
open Go.RowKit Go.Maps Culp
theorem RuleP.after {c B a p m : Nat} {tv yv : Value} {ys : List ByteArray} {R : Except Tr.Bad (Ty × List Ty)} {w w1 w2 : World} {E : Ending} (k : KeepN c yv.ownBlock w w1) (h : RuleP c B tv yv ys a p m R w1 E w2) : RuleP c B tv yv ys a p m R w E w2 := by
  obtain ⟨s, ys', h1, h2, h3, h4⟩ := h
  exact ⟨s, ys', h1, h2, k.trans h3 (.inl rfl), h4⟩
section
variable (T : List Nd) (tv : Value) (W : World) (c B n : Nat) (hN : Nodes W tv T) (hTl : T.length ≤ 1000000)
  (x : Nd) (p : Nat) (env : Tr.Env) (ev yv : Value) (w : World) (ys : List ByteArray) (a : Nat)
  (hx : T[p]? = some x) (hB : Below W.heap.size W w) (hE : EnvIs w ev env) (hEF : EnvFits env)
  (hC : CkAt c B tv yv ys 0 a w)
include hN hTl hx hB hE hEF hC
set_option maxRecDepth 100000 in
set_option maxHeartbeats 3200000 in
theorem rule_5 (hk : x.kind = 5) (m : Nat) (R : Except Tr.Bad (Ty × List Ty)) (hf : ∀ w', Below w.heap.size w w' → Calls Tryz.prog 71 #[.pointer (some ⟨c, 0, none⟩), .int .i64 (p : Int), ev] w' (RuleP c B tv yv ys a p m R w')) :
    Calls Tryz.prog 54 #[.pointer (some ⟨c, 0, none⟩), .int .i64 (p : Int), ev] w (RuleP c B tv yv ys a p m R w) := by
  have HF := Lib.hid hf
  clear hf
  have e1 : (x.kind == 1) = false := by rw [hk]; rfl
  have e2 : (x.kind == 2) = false := by rw [hk]; rfl
  have e3 : (x.kind == 3) = false := by rw [hk]; rfl
  have e4 : (x.kind == 4) = false := by rw [hk]; rfl
  have e5 : (x.kind == 5) = true := by rw [hk]; rfl
  have HND : Hid (Nodes w tv T) := Lib.hid (hN.later hB)
  have hpT : p < T.length := (List.getElem?_eq_some_iff.1 hx).1
  have HC := Lib.hid hC
  have HE := Lib.hid hE
  have HBW := Lib.hid hB
  have HXX := Lib.hid hx
  obtain ⟨ep, rfl⟩ := hE.shape
  have hb2 : Below w.heap.size w ((w.alloc (.cells #[.pointer (some ⟨c, 0, none⟩)] 70)).alloc (.cells #[.pointer ep] 65)) := ((Below.refl _ _).alloc (Nat.le_refl _) _).alloc (by simp) _
  obtain ⟨A, C, rfl, hlc, hNN⟩ := HND.out.later hb2
  obtain ⟨b, off, rfl, hM⟩ := hNN (by omega)
  obtain ⟨n0, n1, n2, n3, n4, n5, n6, n7⟩ := hM.at_ hx
  have c0 := (hC.later hb2).c0
  have hb3 := hb2.alloc (by simp; omega) (.cells #[.int .i8 x.kind, .int .i64 x.kids, .int .i64 x.n, .string x.s, .string x.t, .string x.u, .int .i64 x.line, .int .i64 x.col] 64)
  have HB3 := Lib.hid hb3
  have c03 := (hC.later hb3).c0
  have HBX : Hid (Box (w.heap.size + 2) x (((w.alloc (.cells #[.pointer (some ⟨c, 0, none⟩)] 70)).alloc (.cells #[.pointer ep] 65)).alloc (.cells #[.int .i8 x.kind, .int .i64 x.kids, .int .i64 x.n, .string x.s, .string x.t, .string x.u, .int .i64 x.line, .int .i64 x.col] 64))) := Lib.hid (by
    have := (MapKept.heap_alloc ((w.alloc (.cells #[.pointer (some ⟨c, 0, none⟩)] 70)).alloc (.cells #[.pointer ep] 65)) (.cells #[.int .i8 x.kind, .int .i64 x.kids, .int .i64 x.n, .string x.s, .string x.t, .string x.u, .int .i64 x.line, .int .i64 x.col] 64 (0, 0))).1
    have e : ((w.alloc (.cells #[.pointer (some ⟨c, 0, none⟩)] 70)).alloc (.cells #[.pointer ep] 65)).heap.size = w.heap.size + 2 := by simp
    rw [e] at this
    exact this)
  have HK := Lib.hid hk
  have HEF := Lib.hid hEF
  clear hM hNN hE hC hB hk hx hb2 hb3 hEF
  go_enter Tryz.func54, Tryz.ntmps54
  go_wp2_with fail
  refine (HF.out _ HB3.out).mono ?_
  rintro E w4 hr
  have HP := Lib.hid (hr.after (KeepN.of c _ HB3.out))
  obtain ⟨s, ys', rfl, _⟩ := hr
  clear n0 n1 n2 n3 n4 n5 n6 n7 c0
  go_wp2_with fail
  go_ret
  exact HP.out
set_option maxRecDepth 100000 in
set_option maxHeartbeats 3200000 in
theorem rule_6 (hk : x.kind = 6) (m : Nat) (R : Except Tr.Bad (Ty × List Ty)) (hf : ∀ w', Below w.heap.size w w' → Calls Tryz.prog 71 #[.pointer (some ⟨c, 0, none⟩), .int .i64 (p : Int), ev] w' (RuleP c B tv yv ys a p m R w')) :
    Calls Tryz.prog 54 #[.pointer (some ⟨c, 0, none⟩), .int .i64 (p : Int), ev] w (RuleP c B tv yv ys a p m R w) := by
  have HF := Lib.hid hf
  clear hf
  have e1 : (x.kind == 1) = false := by rw [hk]; rfl
  have e2 : (x.kind == 2) = false := by rw [hk]; rfl
  have e3 : (x.kind == 3) = false := by rw [hk]; rfl
  have e4 : (x.kind == 4) = false := by rw [hk]; rfl
  have e5 : (x.kind == 5) = false := by rw [hk]; rfl
  have e6 : (x.kind == 6) = true := by rw [hk]; rfl
  have HND : Hid (Nodes w tv T) := Lib.hid (hN.later hB)
  have hpT : p < T.length := (List.getElem?_eq_some_iff.1 hx).1
  have HC := Lib.hid hC
  have HE := Lib.hid hE
  have HBW := Lib.hid hB
  have HXX := Lib.hid hx
  obtain ⟨ep, rfl⟩ := hE.shape
  have hb2 : Below w.heap.size w ((w.alloc (.cells #[.pointer (some ⟨c, 0, none⟩)] 70)).alloc (.cells #[.pointer ep] 65)) := ((Below.refl _ _).alloc (Nat.le_refl _) _).alloc (by simp) _
  obtain ⟨A, C, rfl, hlc, hNN⟩ := HND.out.later hb2
  obtain ⟨b, off, rfl, hM⟩ := hNN (by omega)
  obtain ⟨n0, n1, n2, n3, n4, n5, n6, n7⟩ := hM.at_ hx
  have c0 := (hC.later hb2).c0
  have hb3 := hb2.alloc (by simp; omega) (.cells #[.int .i8 x.kind, .int .i64 x.kids, .int .i64 x.n, .string x.s, .string x.t, .string x.u, .int .i64 x.line, .int .i64 x.col] 64)
  have HB3 := Lib.hid hb3
  have c03 := (hC.later hb3).c0
  have HBX : Hid (Box (w.heap.size + 2) x (((w.alloc (.cells #[.pointer (some ⟨c, 0, none⟩)] 70)).alloc (.cells #[.pointer ep] 65)).alloc (.cells #[.int .i8 x.kind, .int .i64 x.kids, .int .i64 x.n, .string x.s, .string x.t, .string x.u, .int .i64 x.line, .int .i64 x.col] 64))) := Lib.hid (by
    have := (MapKept.heap_alloc ((w.alloc (.cells #[.pointer (some ⟨c, 0, none⟩)] 70)).alloc (.cells #[.pointer ep] 65)) (.cells #[.int .i8 x.kind, .int .i64 x.kids, .int .i64 x.n, .string x.s, .string x.t, .string x.u, .int .i64 x.line, .int .i64 x.col] 64 (0, 0))).1
    have e : ((w.alloc (.cells #[.pointer (some ⟨c, 0, none⟩)] 70)).alloc (.cells #[.pointer ep] 65)).heap.size = w.heap.size + 2 := by simp
    rw [e] at this
    exact this)
  have HK := Lib.hid hk
  have HEF := Lib.hid hEF
  clear hM hNN hE hC hB hk hx hb2 hb3 hEF
  go_enter Tryz.func54, Tryz.ntmps54
  go_wp2_with fail
  refine (HF.out _ HB3.out).mono ?_
  rintro E w4 hr
  have HP := Lib.hid (hr.after (KeepN.of c _ HB3.out))
  obtain ⟨s, ys', rfl, _⟩ := hr
  clear n0 n1 n2 n3 n4 n5 n6 n7 c0
  go_wp2_with fail
  go_ret
  exact HP.out
end
end Go.Proofs.YtdobaililmkkcaaGreatDoor
