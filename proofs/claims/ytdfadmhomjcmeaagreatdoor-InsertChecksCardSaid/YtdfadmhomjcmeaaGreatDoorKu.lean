
/- Walks of the checker: functions. -/
import Derived.Test.YtdfadmhomjcmeaaGreatDoorKr
import Derived.Test.YtdfadmhomjcmeaaGreatDoorTrW
namespace Culp.Tr
set_option linter.unusedSimpArgs false
set_option linter.unusedVariables false
open Go
theorem chk_one (y : Nd) (ky : F) (g : Nat → Env) (k q : Nat) : chk false (.cons y ky .nil) g k q = (chk1 false y ky (g k) q).map fun ts => [(q, ts)] := by
  unfold chk1
  simp only [chk]
  generalize (if y.kind = 5 ∨ y.kind = 6 then (sizeT q (.fn (noteT y.t) (noteT y.u))).map fun _ => () else .ok () : Except Bad Unit) = A
  cases A with
  | error b => rfl
  | ok _ =>
    simp only []
    generalize chk false ky (fun j => innerT y j (g k)) 0 (q + 1) = K
    cases K with
    | error b => rfl
    | ok K =>
      simp only []
      generalize nodeT false y (g k) q (K.map fun a => (a.1, a.2.headD .dyn)) = t
      cases t with
      | error b => rfl
      | ok t =>
        simp only []
        cases sizeT q t with
        | error b => rfl
        | ok u => simp [Except.map]
theorem nodeT_fn {x : Nd} {env : Env} {p p0 : Nat} {t0 : Ty} (h : x.kind = 5 ∨ x.kind = 6) : nodeT false x env p [(p0, t0)] = (thenFit (.ok (noteT x.u)) t0 23 p0).map fun _ => .fn (noteT x.t) (noteT x.u) := by
  rcases h with h | h <;> simp [nodeT, h, thenFit, map_map_const]
/-- A function's type, and the types of its body's nodes. -/
def fnR (p : Nat) (s u : Ty) (R : Except Bad (List Ty)) : Except Bad (Ty × List Ty) := match R with
  | .error b => .error b
  | .ok ts => (thenFit (.ok u) (ts.headD .dyn) 23 (p + 1)).map fun _ => (.fn s u, ts)
theorem ruleT_large {x : Nd} {ks : F} {env : Env} {p : Nat} (h : x.kind = 5 ∨ x.kind = 6) (hs : ¬ (Ty.fn (noteT x.t) (noteT x.u)).enc.length ≤ 64) : ruleT x ks env p = .error (21, p) := by
  unfold ruleT
  rw [if_pos h]
  simp [sizeT, hs, Except.map]
theorem ruleT_fn {x y : Nd} {ky : F} {env : Env} {p : Nat} (h : x.kind = 5 ∨ x.kind = 6) (hs : (Ty.fn (noteT x.t) (noteT x.u)).enc.length ≤ 64) : ruleT x (.cons y ky .nil) env p = fnR p (noteT x.t) (noteT x.u) (chk1 false y ky (innerT x 0 env) (p + 1)) := by
  unfold ruleT
  rw [if_pos h, chk_one]
  generalize chk1 false y ky (innerT x 0 env) (p + 1) = R
  simp only [sizeT, hs, if_true, Except.map]
  cases R with
  | error b => rfl
  | ok ts =>
    simp only [List.map_cons, List.map_nil, nodeT_fn h]
    unfold fnR
    simp only [thenFit]
    generalize fitT false (ts.headD .dyn) (noteT x.u) 23 (p + 1) = r
    cases r <;> simp [Except.map]
end Culp.Tr
namespace Go.Proofs.YtdfadmhomjcmeaaGreatDoor
set_option linter.unusedSimpArgs false
set_option linter.unusedVariables false
open Go.RowKit Go.Maps Culp
def EnvFits (env : Tr.Env) : Prop := ∀ b ∈ env, b.2.fits
theorem EnvFits.cons {env : Tr.Env} {s : ByteArray} {t : Ty} (h : EnvFits env) (ht : t.fits) : EnvFits ((s, t) :: env) := fun b hb => by
  rcases List.mem_cons.1 hb with rfl | hb
  · exact ht
  · exact h b hb
theorem two_len2 : ∀ {l a b : List UInt8}, Tr.two l = some (a, b) → l.length = a.length + 1 + b.length
  | [], a, b, h => by simp [Tr.two] at h
  | c :: l, a, b, h => by
    unfold Tr.two at h
    split at h
    · simp only [Option.some.injEq, Prod.mk.injEq] at h
      obtain ⟨rfl, rfl⟩ := h
      simp; omega
    · simp only [Option.map_eq_some_iff, Prod.exists, Prod.mk.injEq] at h
      obtain ⟨x, y, h1, rfl, rfl⟩ := h
      have := two_len2 h1
      simp; omega
theorem name_len {s : List UInt8} (h : Tx.isName s = true) : s.length ≤ 32 := by
  unfold Tx.isName at h
  simp only [Bool.and_eq_true, decide_eq_true_eq, List.all_eq_true] at h
  exact h.1.1.1.2
theorem two_of_may {x : Nd} (h : Tr.may x = true) (hk : x.kind = 6) : ∃ a b, Tr.two x.s.data.toList = some (a, b) ∧ x.s.size ≤ 100 := by
  have hs : Tr.sOk x.kind x.s.data.toList = true := by
    unfold Tr.may at h
    simp only [Bool.and_eq_true] at h
    exact h.1.1.2
  rw [hk] at hs
  have hn : Tr.twoOk x.s.data.toList = true := hs
  unfold Tr.twoOk at hn
  split at hn
  · cases hn
  · rename_i a b hab
    simp only [Bool.and_eq_true] at hn
    refine ⟨a, b, hab, ?_⟩
    have h1 := two_len2 hab
    have h2 := name_len hn.1
    have h3 := name_len hn.2
    have h4 : x.s.size = x.s.data.toList.length := by rw [Array.length_toList]; rfl
    omega
/-- What is known of the parts below some height. -/
def PartC (T : List Nd) (tv : Value) (W : World) (c B : Nat) (n : Nat) : Prop := ∀ (x : Nd) (ks : Tr.F) (pre post : List Nd) (p : Nat) (env : Tr.Env) (ev yv : Value) (w : World) (ys : List ByteArray) (a : Nat), ks.hgt < n → T = pre ++ x :: (ks.flat ++ post) → pre.length = p → (Tr.F.cons x ks .nil).Ok → Below W.heap.size W w → EnvIs w ev env → EnvFits env → ys.length = T.length → CkAt c B tv yv ys 0 a w →
  Calls Tryz.prog 26 #[.pointer (some ⟨c, 0, none⟩), .int .i64 (p : Int), ev] w (PartRes c B tv yv ys a p (1 + ks.flat.length) (Tr.chk1 false x ks env p) w)
theorem CkAt.env {c B a : Nat} {tv yv ev : Value} {ys : List ByteArray} {e : Int} {w w1 : World} {env : Tr.Env} (h : CkAt c B tv yv ys e a w) (k : KeepN c yv.ownBlock w w1) (hE : EnvIs w ev env) : EnvIs w1 ev env := by
  refine hE.keepN k fun g n t v' hg => ⟨?_, ?_⟩
  · rintro rfl
    have := h.box
    rw [hg] at this
    simp only [Option.some.injEq, Obj.cells.injEq] at this
    exact absurd this.2.1 (by decide)
  · exact own_ne h.own fun cur hc => by
      rw [hg] at hc
      simp only [Option.some.injEq, Obj.cells.injEq] at hc
      exact absurd hc.2.1 (by decide)
theorem CkAt.boxed {c B a g : Nat} {tv yv : Value} {ys : List ByteArray} {e : Int} {w w1 : World} {x : Nd} (h : CkAt c B tv yv ys e a w) (k : KeepN c yv.ownBlock w w1) (hX : Box g x w) : Box g x w1 := by
  refine (k.block g hX.lt ?_ ?_).trans hX
  · rintro rfl
    have := h.box
    unfold Box at hX
    rw [hX] at this
    simp only [Option.some.injEq, Obj.cells.injEq] at this
    exact absurd this.2.1 (by decide)
  · exact own_ne h.own fun cur hc => by
      unfold Box at hX
      rw [hX] at hc
      simp only [Option.some.injEq, Obj.cells.injEq] at hc
      exact absurd hc.2.1 (by decide)
section
variable (T : List Nd) (tv : Value) (W : World) (c B n : Nat) (hN : Nodes W tv T) (hTl : T.length ≤ 1000000)
  (x y : Nd) (ky : Tr.F) (pre post : List Nd) (p : Nat) (env : Tr.Env) (ev yv : Value) (w : World) (ys : List ByteArray) (a : Nat)
  (hT : T = pre ++ x :: (y :: ky.flat ++ post)) (hp : pre.length = p) (hO : (Tr.F.cons x (.cons y ky .nil) .nil).Ok) (hB : Below W.heap.size W w) (hE : EnvIs w ev env) (hEF : EnvFits env) (hys : ys.length = T.length)
  (hC : CkAt c B tv yv ys 0 a w) (hup : PartC T tv W c B n) (hh : ky.hgt < n) (hm : Tr.may x = true)
include hN hTl hT hp hO hB hE hEF hys hC hup hh hm
set_option maxRecDepth 100000 in
set_option maxHeartbeats 3200000 in
theorem function_5 (hk : x.kind = 5) : Calls Tryz.prog 110 #[.pointer (some ⟨c, 0, none⟩), .int .i64 (p : Int), ev] w
      (RuleP c B tv yv ys a p (2 + ky.flat.length) (Tr.ruleT x (.cons y ky .nil) env p) w) := by
  have HND : Hid (Nodes w tv T) := Lib.hid (hN.later hB)
  have hx : T[p]? = some x := by rw [hT, ← hp]; simp
  have hpT : p < T.length := (List.getElem?_eq_some_iff.1 hx).1
  have m1 := (may_note hm).1 (by omega)
  have m2 := (may_note hm).2.1 (by omega)
  have HU1 := Lib.hid (unknown_any x.t m1)
  have HU2 := Lib.hid (unknown_any x.u m2)
  have z1 : (Tr.noteT x.t).str.size ≤ 64 := by rw [str_size]; exact m1.fits
  have z2 : (Tr.noteT x.u).str.size ≤ 64 := by rw [str_size]; exact m2.fits
  have HC := Lib.hid hC
  have HE := Lib.hid hE
  have HBW := Lib.hid hB
  obtain ⟨A, C, rfl, hlc, hNN⟩ := HND.out
  obtain ⟨b, off, rfl, hM⟩ := hNN (by omega)
  obtain ⟨n0, n1, n2, n3, n4, n5, n6, n7⟩ := hM.at_ hx
  have c0 := hC.c0
  have HBX : Hid (Box w.heap.size x (w.alloc (.cells #[.int .i8 x.kind, .int .i64 x.kids, .int .i64 x.n, .string x.s, .string x.t, .string x.u, .int .i64 x.line, .int .i64 x.col] 38))) := Lib.hid (MapKept.heap_alloc w _).1
  have HB : Hid (Below w.heap.size w (w.alloc (.cells #[.int .i8 x.kind, .int .i64 x.kids, .int .i64 x.n, .string x.s, .string x.t, .string x.u, .int .i64 x.line, .int .i64 x.col] 38))) := Lib.hid ((Below.refl _ _).alloc (Nat.le_refl _) _)
  have HK := Lib.hid hk
  have HT := Lib.hid hT
  have HP := Lib.hid hp
  have HO := Lib.hid hO
  have HYS := Lib.hid hys
  clear hM hNN hx hE hC hB hk hT hp hO hys
  go_enter Tryz.func110, Tryz.ntmps110
  go_wp2_with fail
  have x0 := HBX.out.cell 0
  have x3 := HBX.out.cell 3
  have x4 := HBX.out.cell 4
  have x5 := HBX.out.cell 5
  rw [show x.cells[0]? = some (.int .i8 x.kind) from rfl] at x0
  rw [show x.cells[3]? = some (.string x.s) from rfl] at x3
  rw [show x.cells[4]? = some (.string x.t) from rfl] at x4
  rw [show x.cells[5]? = some (.string x.u) from rfl] at x5
  have HC1 := Lib.hid (HC.out.later HB.out)
  have HE1 := Lib.hid (HE.out.later HB.out)
  have HB1 := Lib.hid (below_later HB.out HBW.out)
  have HK1 : Hid (KeepN c yv.ownBlock w _) := Lib.hid (KeepN.of c _ HB.out)
  have HX0 : Hid (x.kind = 5 ∨ x.kind = 6) := Lib.hid (.inl HK.out)
  have HLG : Hid (¬ (Ty.fn (Tr.noteT x.t) (Tr.noteT x.u)).enc.length ≤ 64 → Tr.ruleT x (.cons y ky .nil) env p = .error (21, p)) := Lib.hid (fun h => Tr.ruleT_large HX0.out h)
  have HSM : Hid ((Ty.fn (Tr.noteT x.t) (Tr.noteT x.u)).enc.length ≤ 64 → Tr.ruleT x (.cons y ky .nil) env p = Tr.fnR p (Tr.noteT x.t) (Tr.noteT x.u) (Tr.chk1 false y ky (Tr.innerT x 0 env) (p + 1))) := Lib.hid (fun h => Tr.ruleT_fn HX0.out h)
  have HIN : Hid (Tr.innerT x 0 env = (x.s, Tr.noteT x.t) :: env) := Lib.hid (by unfold Tr.innerT; rw [if_pos HK.out])
  have hF1 := Lib.hid m1.fits
  have hF2 := Lib.hid m2.fits
  generalize w.alloc _ = w1 at *
  rw [HK.out] at x0
  generalize Tr.ruleT x (.cons y ky .nil) env p = RT at *
  generalize Tr.innerT x 0 env = env1 at *
  generalize Tr.noteT x.t = S1 at *
  generalize Tr.noteT x.u = S2 at *
  have hfs := fn_str S1 S2
  have hfz : (Ty.fn S1 S2).str.size ≤ 200 := by
    have := str_size (Ty.fn S1 S2)
    rw [str_size] at z1 z2
    simp only [Ty.enc, List.length_cons, List.length_append] at this
    omega
  clear n0 n1 n2 n3 n4 n5 n6 n7 c0 HB HBX HC HBW HND HK HX0 m1 m2 HE
  refine wp_region_plan (S := fun w' => w'.cell? ⟨w.heap.size, 4, none⟩ = some (.string x.t) ∧ w'.cell? ⟨w.heap.size, 5, none⟩ = some (.string x.u) ∧ w'.cell? ⟨w.heap.size, 3, none⟩ = some (.string x.s) ∧ w'.cell? ⟨w.heap.size, 0, none⟩ = some (.int .i8 5))
    [(0, true), (1, true), (3, true), (4, true), (2, false), (5, false), (6, true), (7, true)] (by kernel_rfl) (by kernel_rfl) (by kernel_rfl) (fun _ _ _ _ _ h => h) ⟨x4, x5, x3, x0⟩ ?_
  intro HS
  repeat (first | (apply wpPlan_look; rfl; rfl; (intro wq hq; (try dsimp only at hq); go_split_ands; go_simp; (try rw [if_neg (by omega)]); (try rw [if_pos (by omega)]); try with_reducible rfl); simp only [Act.put, List.setIfInBounds_toArray, List.set_cons_zero, List.set_cons_succ]) | (apply wpPlan_skip; rfl; rfl; simp only [Act.put, List.setIfInBounds_toArray, List.set_cons_zero, List.set_cons_succ]) | (apply wpPlan_pass; rfl; rfl; assumption; simp only [Act.put, List.setIfInBounds_toArray, List.set_cons_zero, List.set_cons_succ]))
  apply wpPlan_call; rfl; rfl; rfl; rfl; kernel_rfl; exact HU1.out _; rfl; rintro E w2 ⟨rfl, rfl⟩
  refine ⟨_, rfl, as_S HS ?_⟩
  intro HS
  simp only [Act.put, List.setIfInBounds_toArray, List.set_cons_zero, List.set_cons_succ]
  repeat (first | (apply wpPlan_look; rfl; rfl; (intro wq hq; (try dsimp only at hq); go_split_ands; go_simp; (try rw [if_neg (by omega)]); (try rw [if_pos (by omega)]); try with_reducible rfl); simp only [Act.put, List.setIfInBounds_toArray, List.set_cons_zero, List.set_cons_succ]) | (apply wpPlan_skip; rfl; rfl; simp only [Act.put, List.setIfInBounds_toArray, List.set_cons_zero, List.set_cons_succ]) | (apply wpPlan_pass; rfl; rfl; assumption; simp only [Act.put, List.setIfInBounds_toArray, List.set_cons_zero, List.set_cons_succ]))
  apply wpPlan_call; rfl; rfl; rfl; rfl; kernel_rfl; exact HU2.out _; rfl; rintro E w2 ⟨rfl, rfl⟩
  refine ⟨_, rfl, as_S HS ?_⟩
  intro HS
  simp only [Act.put, List.setIfInBounds_toArray, List.set_cons_zero, List.set_cons_succ]
  repeat (first | (apply wpPlan_look; rfl; rfl; (intro wq hq; (try dsimp only at hq); go_split_ands; go_simp; (try rw [if_neg (by omega)]); (try rw [if_pos (by omega)]); try with_reducible rfl); simp only [Act.put, List.setIfInBounds_toArray, List.set_cons_zero, List.set_cons_succ]) | (apply wpPlan_skip; rfl; rfl; simp only [Act.put, List.setIfInBounds_toArray, List.set_cons_zero, List.set_cons_succ]) | (apply wpPlan_pass; rfl; rfl; assumption; simp only [Act.put, List.setIfInBounds_toArray, List.set_cons_zero, List.set_cons_succ]))
  apply wpPlan_done
  have x3' := HS.2.2.1
  have x0' := HS.2.2.2
  have HC2 := Lib.hid (HC1.out.later (below_dn w1 1))
  have HE2 := Lib.hid (HE1.out.later (below_dn w1 1))
  have HB2 := Lib.hid (below_later (below_dn w1 1) HB1.out)
  have HK2 : Hid (KeepN c yv.ownBlock w (w1.drewN 1)) := Lib.hid (HK1.out.trans (KeepN.of c _ (below_dn w1 1)) (.inl rfl))
  change w1.drew.cell? _ = _ at x3' x0'
  rw [show w1.drewN 1 = w1.drew from rfl] at HC2 HE2 HB2 HK2
  generalize w1.drew = w2 at *
  clear x0 x3 x4 x5 HC1 HE1 HB1 HK1 HS HU1 HU2
  by_cases h64 : (Ty.fn S1 S2).enc.length ≤ 64
  · have hz : ¬ (64 < (Ty.fn S1 S2).str.size) := by rw [str_size]; omega
    have HW := Lib.hid (with_any ev env x.s S1 w2 HE2.out)
    have HRT := Lib.hid (HSM.out h64)
    clear HLG HSM
    go_wp2_with fail
    refine HW.out.mono ?_
    rintro E w3 ⟨v3, rfl, hE3, hb3⟩
    have HC3 := Lib.hid (HC2.out.later hb3)
    have HB3 := Lib.hid (below_later hb3 HB2.out)
    have HK3 : Hid (KeepN c yv.ownBlock w w3) := Lib.hid (HK2.out.trans (KeepN.of c _ hb3) (.inl rfl))
    have hEF1 : EnvFits env1 := by
      rw [HIN.out]
      exact hEF.cons hF1.out
    have HPC := Lib.hid (hup y ky (pre ++ [x]) post (p + 1) env1 v3 yv w3 ys a hh (by rw [HT.out]; simp) (by rw [List.length_append, HP.out]; rfl) (by have := HO.out.2.1; exact ⟨this.1, this.2.1, trivial⟩) HB3.out (by rw [HIN.out]; exact hE3) hEF1 HYS.out HC3.out)
    rw [Int.natCast_add, Int.natCast_one] at HPC
    clear hE3 hb3 HC2 HB2 HK2 HW HC3 HB3
    go_wp2_with fail
    refine HPC.out.mono ?_
    rintro E w4 ⟨s4, ys4, rfl, hC4, hK4, hG4, hS4, hL4⟩
    have HC4 := Lib.hid hC4
    have HK4 := Lib.hid (HK3.out.trans hK4 (.inl rfl))
    have HS4 := Lib.hid hS4
    clear HPC HK3 hC4 hK4 hS4
    generalize Tr.chk1 false y ky env1 (p + 1) = R at *
    cases R with
    | error bb =>
      have HF := Lib.hid (fits_skip c B _ yv ys4 bb.2 w4 (p + 1) 23 (p + 1) S2.str bb.1 (hG4 bb rfl) HC4.out)
      have HGB := Lib.hid (hG4 bb rfl)
      rw [Int.natCast_add, Int.natCast_one] at HF
      clear hL4 hG4
      go_wp2_with fail
      refine HF.out.mono ?_
      rintro E w5 ⟨rfl, h5, k5⟩
      have HR : Hid (RuleP c B (.slice (some ⟨b, off, none⟩) T.length C) yv ys a p (2 + ky.flat.length) RT w (.returned (.string (Ty.fn S1 S2).str)) w5) := Lib.hid (by
        rw [HRT.out]
        refine ⟨_, ys4, rfl, h5, HK4.out.keep k5, fun b' h => ?_, ?_, fun t L h => by cases h⟩
        · injection h with h; rw [← h]; exact HGB.out
        · have := HS4.out
          rw [show p + 1 + (1 + ky.flat.length) = p + (2 + ky.flat.length) by omega] at this
          exact this)
      clear h5 k5
      go_wp2_with fail
      go_ret
      exact HR.out
    | ok ts =>
      obtain ⟨hla, hln, -⟩ := hL4 ts rfl
      obtain ⟨hne, hge⟩ := hla _ List.mem_cons_self
      have h0 : ys4[p + 1]? = some (ts.headD .dyn).str ∧ (ts.headD .dyn).fits := by
        cases ts with
        | nil => exact absurd rfl hne
        | cons t L => have := hge 0 t rfl; rw [Nat.add_zero] at this; exact this
      have HF := Lib.hid (fitsR c B _ yv ys4 a w4 (.ok S2) (Tr.good_ok _) (Tr.fitsR_ok hF2.out) (p + 1) 23 (p + 1) S2.str (fun t ht => by injection ht with ht; rw [ht]) (ts.headD .dyn) h0.2 (by decide) h0.1 HC4.out)
      have HG5 := Lib.hid (Tr.thenFit_good (R := .ok S2) (s := ts.headD .dyn) (n := ((23 : Nat) : Int)) (p := p + 1) (Tr.good_ok _) (by decide))
      have HGE := Lib.hid hge
      have HLN := Lib.hid hln
      rw [Int.natCast_add, Int.natCast_one] at HF
      clear hL4 hG4 hla hge h0
      go_wp2_with fail
      refine HF.out.mono ?_
      rintro E w5 ⟨rfl, h5, k5⟩
      have HR : Hid (RuleP c B (.slice (some ⟨b, off, none⟩) T.length C) yv ys a p (2 + ky.flat.length) RT w (.returned (.string (Ty.fn S1 S2).str)) w5) := Lib.hid (by
        rw [HRT.out]
        have hS : Tr.SameB (p + 1) (p + (2 + ky.flat.length)) ys ys4 := by
          have := HS4.out
          rw [show p + 1 + (1 + ky.flat.length) = p + (2 + ky.flat.length) by omega] at this
          exact this
        unfold Tr.fnR
        have hg := HG5.out
        rw [show ((23 : Nat) : Int) = 23 from rfl] at hg h5
        dsimp only
        generalize Tr.thenFit (.ok S2) (ts.headD .dyn) 23 (p + 1) = R5 at *
        cases R5 with
        | error bb => exact ⟨_, ys4, rfl, h5, HK4.out.keep k5, fun b' h => hg b' (by injection h with h; rw [h]), hS, fun t L h => by cases h⟩
        | ok u =>
          refine ⟨_, ys4, rfl, h5, HK4.out.keep k5, Tr.good_ok _, hS, fun t L h => ?_⟩
          injection h with h
          injection h with h1 h2
          subst h1 h2
          exact ⟨rfl, by have := HLN.out; omega, HGE.out⟩)
      clear h5 k5
      go_wp2_with fail
      go_ret
      exact HR.out
  · have hz : 64 < (Ty.fn S1 S2).str.size := by rw [str_size]; omega
    have HRF := Lib.hid (refuses_any c B _ _ ys a 21 p w2 HC2.out)
    have HRT := Lib.hid (HLG.out h64)
    clear HLG HSM
    go_wp2_with fail
    refine HRF.out.mono ?_
    rintro E w3 ⟨rfl, h3, k3⟩
    have HR : Hid (RuleP c B (.slice (some ⟨b, off, none⟩) T.length C) yv ys a p (2 + ky.flat.length) RT w (.returned (.string ByteArray.empty)) w3) := Lib.hid (by
      rw [HRT.out]
      exact ⟨_, ys, rfl, h3, HK2.out.keep k3, fun b h => by injection h with h; subst h; show (21 : Int) ≠ 0; decide, Tr.SameB.refl _ _ _, fun t L h => by cases h⟩)
    clear h3 k3
    go_wp2_with fail
    go_ret
    exact HR.out
set_option maxRecDepth 100000 in
set_option maxHeartbeats 3200000 in
theorem function_6 (hk : x.kind = 6) : Calls Tryz.prog 110 #[.pointer (some ⟨c, 0, none⟩), .int .i64 (p : Int), ev] w
      (RuleP c B tv yv ys a p (2 + ky.flat.length) (Tr.ruleT x (.cons y ky .nil) env p) w) := by
  have HND : Hid (Nodes w tv T) := Lib.hid (hN.later hB)
  have hx : T[p]? = some x := by rw [hT, ← hp]; simp
  have hpT : p < T.length := (List.getElem?_eq_some_iff.1 hx).1
  have m1 := (may_note hm).1 (by omega)
  have m2 := (may_note hm).2.1 (by omega)
  have HU1 := Lib.hid (unknown_any x.t m1)
  have HU2 := Lib.hid (unknown_any x.u m2)
  have z1 : (Tr.noteT x.t).str.size ≤ 64 := by rw [str_size]; exact m1.fits
  have z2 : (Tr.noteT x.u).str.size ≤ 64 := by rw [str_size]; exact m2.fits
  have HC := Lib.hid hC
  have HE := Lib.hid hE
  have HBW := Lib.hid hB
  obtain ⟨A, C, rfl, hlc, hNN⟩ := HND.out
  obtain ⟨b, off, rfl, hM⟩ := hNN (by omega)
  obtain ⟨n0, n1, n2, n3, n4, n5, n6, n7⟩ := hM.at_ hx
  have c0 := hC.c0
  have HBX : Hid (Box w.heap.size x (w.alloc (.cells #[.int .i8 x.kind, .int .i64 x.kids, .int .i64 x.n, .string x.s, .string x.t, .string x.u, .int .i64 x.line, .int .i64 x.col] 38))) := Lib.hid (MapKept.heap_alloc w _).1
  have HB : Hid (Below w.heap.size w (w.alloc (.cells #[.int .i8 x.kind, .int .i64 x.kids, .int .i64 x.n, .string x.s, .string x.t, .string x.u, .int .i64 x.line, .int .i64 x.col] 38))) := Lib.hid ((Below.refl _ _).alloc (Nat.le_refl _) _)
  have HK := Lib.hid hk
  have HT := Lib.hid hT
  have HP := Lib.hid hp
  have HO := Lib.hid hO
  have HYS := Lib.hid hys
  clear hM hNN hx hE hC hB hk hT hp hO hys
  go_enter Tryz.func110, Tryz.ntmps110
  go_wp2_with fail
  have x0 := HBX.out.cell 0
  have x3 := HBX.out.cell 3
  have x4 := HBX.out.cell 4
  have x5 := HBX.out.cell 5
  rw [show x.cells[0]? = some (.int .i8 x.kind) from rfl] at x0
  rw [show x.cells[3]? = some (.string x.s) from rfl] at x3
  rw [show x.cells[4]? = some (.string x.t) from rfl] at x4
  rw [show x.cells[5]? = some (.string x.u) from rfl] at x5
  have HC1 := Lib.hid (HC.out.later HB.out)
  have HE1 := Lib.hid (HE.out.later HB.out)
  have HB1 := Lib.hid (below_later HB.out HBW.out)
  have HK1 : Hid (KeepN c yv.ownBlock w _) := Lib.hid (KeepN.of c _ HB.out)
  have HX0 : Hid (x.kind = 5 ∨ x.kind = 6) := Lib.hid (.inr HK.out)
  have HLG : Hid (¬ (Ty.fn (Tr.noteT x.t) (Tr.noteT x.u)).enc.length ≤ 64 → Tr.ruleT x (.cons y ky .nil) env p = .error (21, p)) := Lib.hid (fun h => Tr.ruleT_large HX0.out h)
  have HSM : Hid ((Ty.fn (Tr.noteT x.t) (Tr.noteT x.u)).enc.length ≤ 64 → Tr.ruleT x (.cons y ky .nil) env p = Tr.fnR p (Tr.noteT x.t) (Tr.noteT x.u) (Tr.chk1 false y ky (Tr.innerT x 0 env) (p + 1))) := Lib.hid (fun h => Tr.ruleT_fn HX0.out h)
  obtain ⟨fa, fb, htw, hzs⟩ := two_of_may hm HK.out
  have HTW := Lib.hid htw
  have HIN : Hid (Tr.innerT x 0 env = (bs fb, Tr.noteT x.t) :: (bs fa, .fn (Tr.noteT x.t) (Tr.noteT x.u)) :: env) := Lib.hid (by unfold Tr.innerT; rw [if_neg (by rw [HK.out]; decide), if_pos HK.out, htw]; rfl)
  clear htw
  have hF1 := Lib.hid m1.fits
  have hF2 := Lib.hid m2.fits
  generalize w.alloc _ = w1 at *
  rw [HK.out] at x0
  generalize Tr.ruleT x (.cons y ky .nil) env p = RT at *
  generalize Tr.innerT x 0 env = env1 at *
  generalize Tr.noteT x.t = S1 at *
  generalize Tr.noteT x.u = S2 at *
  have hfs := fn_str S1 S2
  have hfz : (Ty.fn S1 S2).str.size ≤ 200 := by
    have := str_size (Ty.fn S1 S2)
    rw [str_size] at z1 z2
    simp only [Ty.enc, List.length_cons, List.length_append] at this
    omega
  clear n0 n1 n2 n3 n4 n5 n6 n7 c0 HB HBX HC HBW HND HK HX0 m1 m2 HE
  refine wp_region_plan (S := fun w' => w'.cell? ⟨w.heap.size, 4, none⟩ = some (.string x.t) ∧ w'.cell? ⟨w.heap.size, 5, none⟩ = some (.string x.u) ∧ w'.cell? ⟨w.heap.size, 3, none⟩ = some (.string x.s) ∧ w'.cell? ⟨w.heap.size, 0, none⟩ = some (.int .i8 6))
    [(0, true), (1, true), (3, true), (4, true), (2, false), (5, false), (6, true), (7, true)] (by kernel_rfl) (by kernel_rfl) (by kernel_rfl) (fun _ _ _ _ _ h => h) ⟨x4, x5, x3, x0⟩ ?_
  intro HS
  repeat (first | (apply wpPlan_look; rfl; rfl; (intro wq hq; (try dsimp only at hq); go_split_ands; go_simp; (try rw [if_neg (by omega)]); (try rw [if_pos (by omega)]); try with_reducible rfl); simp only [Act.put, List.setIfInBounds_toArray, List.set_cons_zero, List.set_cons_succ]) | (apply wpPlan_skip; rfl; rfl; simp only [Act.put, List.setIfInBounds_toArray, List.set_cons_zero, List.set_cons_succ]) | (apply wpPlan_pass; rfl; rfl; assumption; simp only [Act.put, List.setIfInBounds_toArray, List.set_cons_zero, List.set_cons_succ]))
  apply wpPlan_call; rfl; rfl; rfl; rfl; kernel_rfl; exact HU1.out _; rfl; rintro E w2 ⟨rfl, rfl⟩
  refine ⟨_, rfl, as_S HS ?_⟩
  intro HS
  simp only [Act.put, List.setIfInBounds_toArray, List.set_cons_zero, List.set_cons_succ]
  repeat (first | (apply wpPlan_look; rfl; rfl; (intro wq hq; (try dsimp only at hq); go_split_ands; go_simp; (try rw [if_neg (by omega)]); (try rw [if_pos (by omega)]); try with_reducible rfl); simp only [Act.put, List.setIfInBounds_toArray, List.set_cons_zero, List.set_cons_succ]) | (apply wpPlan_skip; rfl; rfl; simp only [Act.put, List.setIfInBounds_toArray, List.set_cons_zero, List.set_cons_succ]) | (apply wpPlan_pass; rfl; rfl; assumption; simp only [Act.put, List.setIfInBounds_toArray, List.set_cons_zero, List.set_cons_succ]))
  apply wpPlan_call; rfl; rfl; rfl; rfl; kernel_rfl; exact HU2.out _; rfl; rintro E w2 ⟨rfl, rfl⟩
  refine ⟨_, rfl, as_S HS ?_⟩
  intro HS
  simp only [Act.put, List.setIfInBounds_toArray, List.set_cons_zero, List.set_cons_succ]
  repeat (first | (apply wpPlan_look; rfl; rfl; (intro wq hq; (try dsimp only at hq); go_split_ands; go_simp; (try rw [if_neg (by omega)]); (try rw [if_pos (by omega)]); try with_reducible rfl); simp only [Act.put, List.setIfInBounds_toArray, List.set_cons_zero, List.set_cons_succ]) | (apply wpPlan_skip; rfl; rfl; simp only [Act.put, List.setIfInBounds_toArray, List.set_cons_zero, List.set_cons_succ]) | (apply wpPlan_pass; rfl; rfl; assumption; simp only [Act.put, List.setIfInBounds_toArray, List.set_cons_zero, List.set_cons_succ]))
  apply wpPlan_done
  have x3' := HS.2.2.1
  have x0' := HS.2.2.2
  have HC2 := Lib.hid (HC1.out.later (below_dn w1 1))
  have HE2 := Lib.hid (HE1.out.later (below_dn w1 1))
  have HB2 := Lib.hid (below_later (below_dn w1 1) HB1.out)
  have HK2 : Hid (KeepN c yv.ownBlock w (w1.drewN 1)) := Lib.hid (HK1.out.trans (KeepN.of c _ (below_dn w1 1)) (.inl rfl))
  change w1.drew.cell? _ = _ at x3' x0'
  rw [show w1.drewN 1 = w1.drew from rfl] at HC2 HE2 HB2 HK2
  generalize w1.drew = w2 at *
  clear x0 x3 x4 x5 HC1 HE1 HB1 HK1 HS HU1 HU2
  by_cases h64 : (Ty.fn S1 S2).enc.length ≤ 64
  · have hz : ¬ (64 < (Ty.fn S1 S2).str.size) := by rw [str_size]; omega
    have HCU := Lib.hid (cut_any x.s w2 (by omega))
    rw [cutV_some HTW.out] at HCU
    have HRT := Lib.hid (HSM.out h64)
    clear HLG HSM
    go_wp2_with fail
    refine HCU.out.mono ?_
    rintro E w5 ⟨rfl, hb5⟩
    have HC5 := Lib.hid (HC2.out.later hb5)
    have HB5 := Lib.hid (below_later hb5 HB2.out)
    have HK5 : Hid (KeepN c yv.ownBlock w w5) := Lib.hid (HK2.out.trans (KeepN.of c _ hb5) (.inl rfl))
    have HW := Lib.hid (with_any ev env (bs fa) (.fn S1 S2) w5 (HE2.out.later hb5))
    clear HC2 HB2 HK2 HE2 hb5 HCU
    go_wp2_with fail
    refine HW.out.mono ?_
    rintro E w6 ⟨v6, rfl, hE6, hb6⟩
    have HC2 := Lib.hid (HC5.out.later hb6)
    have HB2 := Lib.hid (below_later hb6 HB5.out)
    have HK2 : Hid (KeepN c yv.ownBlock w w6) := Lib.hid (HK5.out.trans (KeepN.of c _ hb6) (.inl rfl))
    have HW := Lib.hid (with_any v6 _ (bs fb) S1 w6 hE6)
    clear HC5 HB5 HK5 hb6 hE6
    go_wp2_with fail
    refine HW.out.mono ?_
    rintro E w3 ⟨v3, rfl, hE3, hb3⟩
    have HC3 := Lib.hid (HC2.out.later hb3)
    have HB3 := Lib.hid (below_later hb3 HB2.out)
    have HK3 : Hid (KeepN c yv.ownBlock w w3) := Lib.hid (HK2.out.trans (KeepN.of c _ hb3) (.inl rfl))
    have hEF1 : EnvFits env1 := by
      rw [HIN.out]
      exact (hEF.cons (show Ty.fits _ from h64)).cons hF1.out
    have HPC := Lib.hid (hup y ky (pre ++ [x]) post (p + 1) env1 v3 yv w3 ys a hh (by rw [HT.out]; simp) (by rw [List.length_append, HP.out]; rfl) (by have := HO.out.2.1; exact ⟨this.1, this.2.1, trivial⟩) HB3.out (by rw [HIN.out]; exact hE3) hEF1 HYS.out HC3.out)
    rw [Int.natCast_add, Int.natCast_one] at HPC
    clear hE3 hb3 HC2 HB2 HK2 HW HC3 HB3
    go_wp2_with fail
    refine HPC.out.mono ?_
    rintro E w4 ⟨s4, ys4, rfl, hC4, hK4, hG4, hS4, hL4⟩
    have HC4 := Lib.hid hC4
    have HK4 := Lib.hid (HK3.out.trans hK4 (.inl rfl))
    have HS4 := Lib.hid hS4
    clear HPC HK3 hC4 hK4 hS4
    generalize Tr.chk1 false y ky env1 (p + 1) = R at *
    cases R with
    | error bb =>
      have HF := Lib.hid (fits_skip c B _ yv ys4 bb.2 w4 (p + 1) 23 (p + 1) S2.str bb.1 (hG4 bb rfl) HC4.out)
      have HGB := Lib.hid (hG4 bb rfl)
      rw [Int.natCast_add, Int.natCast_one] at HF
      clear hL4 hG4
      go_wp2_with fail
      refine HF.out.mono ?_
      rintro E w5 ⟨rfl, h5, k5⟩
      have HR : Hid (RuleP c B (.slice (some ⟨b, off, none⟩) T.length C) yv ys a p (2 + ky.flat.length) RT w (.returned (.string (Ty.fn S1 S2).str)) w5) := Lib.hid (by
        rw [HRT.out]
        refine ⟨_, ys4, rfl, h5, HK4.out.keep k5, fun b' h => ?_, ?_, fun t L h => by cases h⟩
        · injection h with h; rw [← h]; exact HGB.out
        · have := HS4.out
          rw [show p + 1 + (1 + ky.flat.length) = p + (2 + ky.flat.length) by omega] at this
          exact this)
      clear h5 k5
      go_wp2_with fail
      go_ret
      exact HR.out
    | ok ts =>
      obtain ⟨hla, hln, -⟩ := hL4 ts rfl
      obtain ⟨hne, hge⟩ := hla _ List.mem_cons_self
      have h0 : ys4[p + 1]? = some (ts.headD .dyn).str ∧ (ts.headD .dyn).fits := by
        cases ts with
        | nil => exact absurd rfl hne
        | cons t L => have := hge 0 t rfl; rw [Nat.add_zero] at this; exact this
      have HF := Lib.hid (fitsR c B _ yv ys4 a w4 (.ok S2) (Tr.good_ok _) (Tr.fitsR_ok hF2.out) (p + 1) 23 (p + 1) S2.str (fun t ht => by injection ht with ht; rw [ht]) (ts.headD .dyn) h0.2 (by decide) h0.1 HC4.out)
      have HG5 := Lib.hid (Tr.thenFit_good (R := .ok S2) (s := ts.headD .dyn) (n := ((23 : Nat) : Int)) (p := p + 1) (Tr.good_ok _) (by decide))
      have HGE := Lib.hid hge
      have HLN := Lib.hid hln
      rw [Int.natCast_add, Int.natCast_one] at HF
      clear hL4 hG4 hla hge h0
      go_wp2_with fail
      refine HF.out.mono ?_
      rintro E w5 ⟨rfl, h5, k5⟩
      have HR : Hid (RuleP c B (.slice (some ⟨b, off, none⟩) T.length C) yv ys a p (2 + ky.flat.length) RT w (.returned (.string (Ty.fn S1 S2).str)) w5) := Lib.hid (by
        rw [HRT.out]
        have hS : Tr.SameB (p + 1) (p + (2 + ky.flat.length)) ys ys4 := by
          have := HS4.out
          rw [show p + 1 + (1 + ky.flat.length) = p + (2 + ky.flat.length) by omega] at this
          exact this
        unfold Tr.fnR
        have hg := HG5.out
        rw [show ((23 : Nat) : Int) = 23 from rfl] at hg h5
        dsimp only
        generalize Tr.thenFit (.ok S2) (ts.headD .dyn) 23 (p + 1) = R5 at *
        cases R5 with
        | error bb => exact ⟨_, ys4, rfl, h5, HK4.out.keep k5, fun b' h => hg b' (by injection h with h; rw [h]), hS, fun t L h => by cases h⟩
        | ok u =>
          refine ⟨_, ys4, rfl, h5, HK4.out.keep k5, Tr.good_ok _, hS, fun t L h => ?_⟩
          injection h with h
          injection h with h1 h2
          subst h1 h2
          exact ⟨rfl, by have := HLN.out; omega, HGE.out⟩)
      clear h5 k5
      go_wp2_with fail
      go_ret
      exact HR.out
  · have hz : 64 < (Ty.fn S1 S2).str.size := by rw [str_size]; omega
    have HRF := Lib.hid (refuses_any c B _ _ ys a 21 p w2 HC2.out)
    have HRT := Lib.hid (HLG.out h64)
    clear HLG HSM
    go_wp2_with fail
    refine HRF.out.mono ?_
    rintro E w3 ⟨rfl, h3, k3⟩
    have HR : Hid (RuleP c B (.slice (some ⟨b, off, none⟩) T.length C) yv ys a p (2 + ky.flat.length) RT w (.returned (.string ByteArray.empty)) w3) := Lib.hid (by
      rw [HRT.out]
      exact ⟨_, ys, rfl, h3, HK2.out.keep k3, fun b h => by injection h with h; subst h; show (21 : Int) ≠ 0; decide, Tr.SameB.refl _ _ _, fun t L h => by cases h⟩)
    clear h3 k3
    go_wp2_with fail
    go_ret
    exact HR.out
end
end Go.Proofs.YtdfadmhomjcmeaaGreatDoor

/- Walks of the checker: a node's rule: leaves; the closure that checks a kid. -/
namespace Culp.Tr
set_option linter.unusedSimpArgs false
set_option linter.unusedVariables false
open Go
theorem ruleT_leaf {x : Nd} {env : Env} {p : Nat} : (x.kind = 1 → ruleT x .nil env p = .ok (.int, [])) ∧ (x.kind = 2 → ruleT x .nil env p = .ok (.text, [])) ∧ (x.kind = 3 → ruleT x .nil env p = .ok (.bool, [])) ∧ (x.kind = 4 → ruleT x .nil env p = (Go.Proofs.YtdfadmhomjcmeaaGreatDoor.lookR env x.s p).map fun t => (t, [])) := by
  refine ⟨fun h => ?_, fun h => ?_, fun h => ?_, fun h => ?_⟩
  · simp [ruleT, chk, nodeT, h]
  · simp [ruleT, chk, nodeT, h]
  · simp [ruleT, chk, nodeT, h]
  · simp only [ruleT, chk, nodeT, h, Go.Proofs.YtdfadmhomjcmeaaGreatDoor.lookR]
    cases lookT env x.s <;> simp [Except.map]
theorem chk_first (y : Nd) (ky r : F) (g : Nat → Env) (k q : Nat) : chk false (.cons y ky r) g k q = match chk1 false y ky (g k) q with
    | .error b => .error b
    | .ok ts => (chk false r g (k + 1) (q + 1 + ky.flat.length)).map fun R => (q, ts) :: R := by
  unfold chk1
  simp only [chk]
  generalize (if y.kind = 5 ∨ y.kind = 6 then (sizeT q (.fn (noteT y.t) (noteT y.u))).map fun _ => () else .ok () : Except Bad Unit) = A
  cases A with
  | error b => rfl
  | ok _ =>
    simp only []
    generalize chk false ky (fun j => innerT y j (g k)) 0 (q + 1) = K
    cases K with
    | error b => rfl
    | ok K =>
      simp only []
      generalize nodeT false y (g k) q (K.map fun a => (a.1, a.2.headD .dyn)) = t
      cases t with
      | error b => rfl
      | ok t =>
        simp only []
        cases sizeT q t with
        | error b => rfl
        | ok u =>
          simp only [List.map_cons, List.map_nil, List.flatten_cons, List.flatten_nil, List.append_nil]
          cases chk false r g (k + 1) (q + 1 + ky.flat.length) <;> rfl
end Culp.Tr
namespace Go.Proofs.YtdfadmhomjcmeaaGreatDoor
set_option linter.unusedSimpArgs false
set_option linter.unusedVariables false
open Go.RowKit Go.Maps Culp
theorem check_skip (c B a : Nat) (tv yv : Value) (ys : List ByteArray) (e : Int) (he : e ≠ 0) (w : World) (h : CkAt c B tv yv ys e a w) (k : Nat) (bc bi : Nat) (hbc : w.cell? ⟨bc, 0, none⟩ = some (.pointer (some ⟨c, 0, none⟩))) :
    Calls Tryz.prog 111 #[.int .i64 (k : Int), .pointer (some ⟨bc, 0, none⟩), .pointer (some ⟨bi, 0, none⟩)] w (Gives (.tuple #[]) w) := by
  have c2 := h.c2
  have q : (e == 0) = false := beq_eq_false_iff_ne.2 he
  clear h he
  go_enter Tryz.func111, Tryz.ntmps111
  go_wp2_with fail
  exact bodyPost_end (v := .tuple #[]) (by simp [results, Tryz.results111, go_sem]) rfl ⟨rfl, rfl⟩
theorem check_go (c : Nat) (Q : Ending → World → Prop) (hQ : ∀ E w', Q E w' → ∃ s, E = .returned (.string s)) (w : World) (k : Nat) (bc bi : Nat) (pv : Option Addr) (hbc : w.cell? ⟨bc, 0, none⟩ = some (.pointer (some ⟨c, 0, none⟩))) (hbi : w.cell? ⟨bi, 0, none⟩ = some (.pointer pv)) (hc2 : w.cell? ⟨c, 2, none⟩ = some (.int .i64 0))
    (HP : Calls Tryz.prog 26 #[.pointer (some ⟨c, 0, none⟩), .int .i64 (k : Int), .pointer pv] w Q) :
    Calls Tryz.prog 111 #[.int .i64 (k : Int), .pointer (some ⟨bc, 0, none⟩), .pointer (some ⟨bi, 0, none⟩)] w (fun E w' => E = .returned (.tuple #[]) ∧ ∃ s, Q (.returned (.string s)) w') := by
  have HPP := Lib.hid HP
  have HQ := Lib.hid hQ
  clear HP hQ
  go_enter Tryz.func111, Tryz.ntmps111
  go_wp2_with fail
  refine HPP.out.mono ?_
  rintro E w' hq
  obtain ⟨s, rfl⟩ := HQ.out E w' hq
  have HR := Lib.hid hq
  clear hq
  go_wp2_with fail
  exact bodyPost_end (v := .tuple #[]) (by simp [results, Tryz.results111, go_sem]) rfl ⟨rfl, s, HR.out⟩
section
variable (T : List Nd) (tv : Value) (W : World) (c B n : Nat) (hN : Nodes W tv T) (hTl : T.length ≤ 1000000)
  (x : Nd) (p : Nat) (env : Tr.Env) (ev yv : Value) (w : World) (ys : List ByteArray) (a : Nat)
  (hx : T[p]? = some x) (hB : Below W.heap.size W w) (hE : EnvIs w ev env) (hEF : EnvFits env)
  (hC : CkAt c B tv yv ys 0 a w)
include hN hTl hx hB hE hEF hC
set_option maxRecDepth 100000 in
set_option maxHeartbeats 3200000 in
theorem rule_1 (hk : x.kind = 1) : Calls Tryz.prog 63 #[.pointer (some ⟨c, 0, none⟩), .int .i64 (p : Int), ev] w
      (RuleP c B tv yv ys a p 1 (Tr.ruleT x .nil env p) w) := by
  have HR := Lib.hid (Tr.ruleT_leaf.1 hk : Tr.ruleT x .nil env p = _)
  have e1 : (x.kind == 1) = true := by rw [hk]; rfl
  have HND : Hid (Nodes w tv T) := Lib.hid (hN.later hB)
  have hpT : p < T.length := (List.getElem?_eq_some_iff.1 hx).1
  have HC := Lib.hid hC
  have HE := Lib.hid hE
  have HBW := Lib.hid hB
  have HXX := Lib.hid hx
  obtain ⟨ep, rfl⟩ := hE.shape
  have hb2 : Below w.heap.size w ((w.alloc (.cells #[.pointer (some ⟨c, 0, none⟩)] 82)).alloc (.cells #[.pointer ep] 76)) := ((Below.refl _ _).alloc (Nat.le_refl _) _).alloc (by simp) _
  obtain ⟨A, C, rfl, hlc, hNN⟩ := HND.out.later hb2
  obtain ⟨b, off, rfl, hM⟩ := hNN (by omega)
  obtain ⟨n0, n1, n2, n3, n4, n5, n6, n7⟩ := hM.at_ hx
  have c0 := (hC.later hb2).c0
  have hb3 := hb2.alloc (by simp; omega) (.cells #[.int .i8 x.kind, .int .i64 x.kids, .int .i64 x.n, .string x.s, .string x.t, .string x.u, .int .i64 x.line, .int .i64 x.col] 38)
  have HB3 := Lib.hid hb3
  have c03 := (hC.later hb3).c0
  have HBX : Hid (Box (w.heap.size + 2) x (((w.alloc (.cells #[.pointer (some ⟨c, 0, none⟩)] 82)).alloc (.cells #[.pointer ep] 76)).alloc (.cells #[.int .i8 x.kind, .int .i64 x.kids, .int .i64 x.n, .string x.s, .string x.t, .string x.u, .int .i64 x.line, .int .i64 x.col] 38))) := Lib.hid (by
    have := (MapKept.heap_alloc ((w.alloc (.cells #[.pointer (some ⟨c, 0, none⟩)] 82)).alloc (.cells #[.pointer ep] 76)) (.cells #[.int .i8 x.kind, .int .i64 x.kids, .int .i64 x.n, .string x.s, .string x.t, .string x.u, .int .i64 x.line, .int .i64 x.col] 38 (0, 0))).1
    have e : ((w.alloc (.cells #[.pointer (some ⟨c, 0, none⟩)] 82)).alloc (.cells #[.pointer ep] 76)).heap.size = w.heap.size + 2 := by simp
    rw [e] at this
    exact this)
  have HK := Lib.hid hk
  have HEF := Lib.hid hEF
  clear hM hNN hE hC hB hk hx hb2 hb3 hEF
  go_enter Tryz.func63, Tryz.ntmps63
  go_wp2_with fail
  go_ret
  rw [HR.out]
  exact ⟨_, ys, rfl, HC.out.later HB3.out, KeepN.of c _ HB3.out, Tr.good_ok _, Tr.SameB.refl _ _ _, fun t L h => by
    injection h with h
    injection h with h1 h2
    subst h1 h2
    exact ⟨rfl, rfl, fun j u hj => by cases hj⟩⟩
set_option maxRecDepth 100000 in
set_option maxHeartbeats 3200000 in
theorem rule_2 (hk : x.kind = 2) : Calls Tryz.prog 63 #[.pointer (some ⟨c, 0, none⟩), .int .i64 (p : Int), ev] w
      (RuleP c B tv yv ys a p 1 (Tr.ruleT x .nil env p) w) := by
  have HR := Lib.hid (Tr.ruleT_leaf.2.1 hk : Tr.ruleT x .nil env p = _)
  have e1 : (x.kind == 1) = false := by rw [hk]; rfl
  have e2 : (x.kind == 2) = true := by rw [hk]; rfl
  have HND : Hid (Nodes w tv T) := Lib.hid (hN.later hB)
  have hpT : p < T.length := (List.getElem?_eq_some_iff.1 hx).1
  have HC := Lib.hid hC
  have HE := Lib.hid hE
  have HBW := Lib.hid hB
  have HXX := Lib.hid hx
  obtain ⟨ep, rfl⟩ := hE.shape
  have hb2 : Below w.heap.size w ((w.alloc (.cells #[.pointer (some ⟨c, 0, none⟩)] 82)).alloc (.cells #[.pointer ep] 76)) := ((Below.refl _ _).alloc (Nat.le_refl _) _).alloc (by simp) _
  obtain ⟨A, C, rfl, hlc, hNN⟩ := HND.out.later hb2
  obtain ⟨b, off, rfl, hM⟩ := hNN (by omega)
  obtain ⟨n0, n1, n2, n3, n4, n5, n6, n7⟩ := hM.at_ hx
  have c0 := (hC.later hb2).c0
  have hb3 := hb2.alloc (by simp; omega) (.cells #[.int .i8 x.kind, .int .i64 x.kids, .int .i64 x.n, .string x.s, .string x.t, .string x.u, .int .i64 x.line, .int .i64 x.col] 38)
  have HB3 := Lib.hid hb3
  have c03 := (hC.later hb3).c0
  have HBX : Hid (Box (w.heap.size + 2) x (((w.alloc (.cells #[.pointer (some ⟨c, 0, none⟩)] 82)).alloc (.cells #[.pointer ep] 76)).alloc (.cells #[.int .i8 x.kind, .int .i64 x.kids, .int .i64 x.n, .string x.s, .string x.t, .string x.u, .int .i64 x.line, .int .i64 x.col] 38))) := Lib.hid (by
    have := (MapKept.heap_alloc ((w.alloc (.cells #[.pointer (some ⟨c, 0, none⟩)] 82)).alloc (.cells #[.pointer ep] 76)) (.cells #[.int .i8 x.kind, .int .i64 x.kids, .int .i64 x.n, .string x.s, .string x.t, .string x.u, .int .i64 x.line, .int .i64 x.col] 38 (0, 0))).1
    have e : ((w.alloc (.cells #[.pointer (some ⟨c, 0, none⟩)] 82)).alloc (.cells #[.pointer ep] 76)).heap.size = w.heap.size + 2 := by simp
    rw [e] at this
    exact this)
  have HK := Lib.hid hk
  have HEF := Lib.hid hEF
  clear hM hNN hE hC hB hk hx hb2 hb3 hEF
  go_enter Tryz.func63, Tryz.ntmps63
  go_wp2_with fail
  go_ret
  rw [HR.out]
  exact ⟨_, ys, rfl, HC.out.later HB3.out, KeepN.of c _ HB3.out, Tr.good_ok _, Tr.SameB.refl _ _ _, fun t L h => by
    injection h with h
    injection h with h1 h2
    subst h1 h2
    exact ⟨rfl, rfl, fun j u hj => by cases hj⟩⟩
set_option maxRecDepth 100000 in
set_option maxHeartbeats 3200000 in
theorem rule_3 (hk : x.kind = 3) : Calls Tryz.prog 63 #[.pointer (some ⟨c, 0, none⟩), .int .i64 (p : Int), ev] w
      (RuleP c B tv yv ys a p 1 (Tr.ruleT x .nil env p) w) := by
  have HR := Lib.hid (Tr.ruleT_leaf.2.2.1 hk : Tr.ruleT x .nil env p = _)
  have e1 : (x.kind == 1) = false := by rw [hk]; rfl
  have e2 : (x.kind == 2) = false := by rw [hk]; rfl
  have e3 : (x.kind == 3) = true := by rw [hk]; rfl
  have HND : Hid (Nodes w tv T) := Lib.hid (hN.later hB)
  have hpT : p < T.length := (List.getElem?_eq_some_iff.1 hx).1
  have HC := Lib.hid hC
  have HE := Lib.hid hE
  have HBW := Lib.hid hB
  have HXX := Lib.hid hx
  obtain ⟨ep, rfl⟩ := hE.shape
  have hb2 : Below w.heap.size w ((w.alloc (.cells #[.pointer (some ⟨c, 0, none⟩)] 82)).alloc (.cells #[.pointer ep] 76)) := ((Below.refl _ _).alloc (Nat.le_refl _) _).alloc (by simp) _
  obtain ⟨A, C, rfl, hlc, hNN⟩ := HND.out.later hb2
  obtain ⟨b, off, rfl, hM⟩ := hNN (by omega)
  obtain ⟨n0, n1, n2, n3, n4, n5, n6, n7⟩ := hM.at_ hx
  have c0 := (hC.later hb2).c0
  have hb3 := hb2.alloc (by simp; omega) (.cells #[.int .i8 x.kind, .int .i64 x.kids, .int .i64 x.n, .string x.s, .string x.t, .string x.u, .int .i64 x.line, .int .i64 x.col] 38)
  have HB3 := Lib.hid hb3
  have c03 := (hC.later hb3).c0
  have HBX : Hid (Box (w.heap.size + 2) x (((w.alloc (.cells #[.pointer (some ⟨c, 0, none⟩)] 82)).alloc (.cells #[.pointer ep] 76)).alloc (.cells #[.int .i8 x.kind, .int .i64 x.kids, .int .i64 x.n, .string x.s, .string x.t, .string x.u, .int .i64 x.line, .int .i64 x.col] 38))) := Lib.hid (by
    have := (MapKept.heap_alloc ((w.alloc (.cells #[.pointer (some ⟨c, 0, none⟩)] 82)).alloc (.cells #[.pointer ep] 76)) (.cells #[.int .i8 x.kind, .int .i64 x.kids, .int .i64 x.n, .string x.s, .string x.t, .string x.u, .int .i64 x.line, .int .i64 x.col] 38 (0, 0))).1
    have e : ((w.alloc (.cells #[.pointer (some ⟨c, 0, none⟩)] 82)).alloc (.cells #[.pointer ep] 76)).heap.size = w.heap.size + 2 := by simp
    rw [e] at this
    exact this)
  have HK := Lib.hid hk
  have HEF := Lib.hid hEF
  clear hM hNN hE hC hB hk hx hb2 hb3 hEF
  go_enter Tryz.func63, Tryz.ntmps63
  go_wp2_with fail
  go_ret
  rw [HR.out]
  exact ⟨_, ys, rfl, HC.out.later HB3.out, KeepN.of c _ HB3.out, Tr.good_ok _, Tr.SameB.refl _ _ _, fun t L h => by
    injection h with h
    injection h with h1 h2
    subst h1 h2
    exact ⟨rfl, rfl, fun j u hj => by cases hj⟩⟩
set_option maxRecDepth 100000 in
set_option maxHeartbeats 3200000 in
theorem rule_4 (hk : x.kind = 4) : Calls Tryz.prog 63 #[.pointer (some ⟨c, 0, none⟩), .int .i64 (p : Int), ev] w
      (RuleP c B tv yv ys a p 1 (Tr.ruleT x .nil env p) w) := by
  have HR := Lib.hid (Tr.ruleT_leaf.2.2.2 hk : Tr.ruleT x .nil env p = _)
  have e1 : (x.kind == 1) = false := by rw [hk]; rfl
  have e2 : (x.kind == 2) = false := by rw [hk]; rfl
  have e3 : (x.kind == 3) = false := by rw [hk]; rfl
  have e4 : (x.kind == 4) = true := by rw [hk]; rfl
  have HND : Hid (Nodes w tv T) := Lib.hid (hN.later hB)
  have hpT : p < T.length := (List.getElem?_eq_some_iff.1 hx).1
  have HC := Lib.hid hC
  have HE := Lib.hid hE
  have HBW := Lib.hid hB
  have HXX := Lib.hid hx
  obtain ⟨ep, rfl⟩ := hE.shape
  have hb2 : Below w.heap.size w ((w.alloc (.cells #[.pointer (some ⟨c, 0, none⟩)] 82)).alloc (.cells #[.pointer ep] 76)) := ((Below.refl _ _).alloc (Nat.le_refl _) _).alloc (by simp) _
  obtain ⟨A, C, rfl, hlc, hNN⟩ := HND.out.later hb2
  obtain ⟨b, off, rfl, hM⟩ := hNN (by omega)
  obtain ⟨n0, n1, n2, n3, n4, n5, n6, n7⟩ := hM.at_ hx
  have c0 := (hC.later hb2).c0
  have hb3 := hb2.alloc (by simp; omega) (.cells #[.int .i8 x.kind, .int .i64 x.kids, .int .i64 x.n, .string x.s, .string x.t, .string x.u, .int .i64 x.line, .int .i64 x.col] 38)
  have HB3 := Lib.hid hb3
  have c03 := (hC.later hb3).c0
  have HBX : Hid (Box (w.heap.size + 2) x (((w.alloc (.cells #[.pointer (some ⟨c, 0, none⟩)] 82)).alloc (.cells #[.pointer ep] 76)).alloc (.cells #[.int .i8 x.kind, .int .i64 x.kids, .int .i64 x.n, .string x.s, .string x.t, .string x.u, .int .i64 x.line, .int .i64 x.col] 38))) := Lib.hid (by
    have := (MapKept.heap_alloc ((w.alloc (.cells #[.pointer (some ⟨c, 0, none⟩)] 82)).alloc (.cells #[.pointer ep] 76)) (.cells #[.int .i8 x.kind, .int .i64 x.kids, .int .i64 x.n, .string x.s, .string x.t, .string x.u, .int .i64 x.line, .int .i64 x.col] 38 (0, 0))).1
    have e : ((w.alloc (.cells #[.pointer (some ⟨c, 0, none⟩)] 82)).alloc (.cells #[.pointer ep] 76)).heap.size = w.heap.size + 2 := by simp
    rw [e] at this
    exact this)
  have HK := Lib.hid hk
  have HEF := Lib.hid hEF
  clear hM hNN hE hC hB hk hx hb2 hb3 hEF
  go_enter Tryz.func63, Tryz.ntmps63
  go_wp2_with fail
  refine (lookup_any c B _ yv ys a T p x env (.pointer ep) _ (HND.out.later HB3.out) hTl HXX.out (HE.out.later HB3.out) (HC.out.later HB3.out)).mono ?_
  rintro E w4 hr
  have HP : Hid (∃ s, E = .returned (.string s) ∧ RuleP c B (.slice (some ⟨b, off, none⟩) T.length C) yv ys a p 1 (Tr.ruleT x .nil env p) w (.returned (.string s)) w4) := Lib.hid (by
    rw [HR.out]
    have hk0 : KeepN c yv.ownBlock w _ := KeepN.of c _ HB3.out
    unfold RuleRes at hr
    cases hl : lookR env x.s p with
    | ok t =>
      rw [hl] at hr
      exact ⟨_, hr.1, _, ys, rfl, hr.2.1, hk0.keep hr.2.2, Tr.good_ok _, Tr.SameB.refl _ _ _, fun t' L h => by
        injection h with h
        injection h with h1 h2
        subst h1 h2
        exact ⟨rfl, rfl, fun j u hj => by cases hj⟩⟩
    | error bb =>
      rw [hl] at hr
      obtain ⟨s, h1, h2⟩ := hr
      exact ⟨s, h1.1, s, ys, rfl, h1.2.1, hk0.keep h1.2.2, fun b' h => by injection h with h; rw [← h]; exact h2, Tr.SameB.refl _ _ _, fun t' L h => by cases h⟩)
  obtain ⟨s, rfl, hP⟩ := HP.out
  have HP := Lib.hid hP
  clear hP hr n0 n1 n2 n3 n4 n5 n6 n7 c0
  go_wp2_with fail
  go_ret
  exact HP.out
end
end Go.Proofs.YtdfadmhomjcmeaaGreatDoor

/- Walks of the checker: a node's rule: functions; what asks of kids. -/
namespace Go.Proofs.YtdfadmhomjcmeaaGreatDoor
set_option linter.unusedSimpArgs false
set_option linter.unusedVariables false
open Go.RowKit Go.Maps Culp
theorem RuleP.after {c B a p m : Nat} {tv yv : Value} {ys : List ByteArray} {R : Except Tr.Bad (Ty × List Ty)} {w w1 w2 : World} {E : Ending} (k : KeepN c yv.ownBlock w w1) (h : RuleP c B tv yv ys a p m R w1 E w2) : RuleP c B tv yv ys a p m R w E w2 := by
  obtain ⟨s, ys', h1, h2, h3, h4⟩ := h
  exact ⟨s, ys', h1, h2, k.trans h3 (.inl rfl), h4⟩
section
variable (T : List Nd) (tv : Value) (W : World) (c B n : Nat) (hN : Nodes W tv T) (hTl : T.length ≤ 1000000)
  (x : Nd) (p : Nat) (env : Tr.Env) (ev yv : Value) (w : World) (ys : List ByteArray) (a : Nat)
  (hx : T[p]? = some x) (hB : Below W.heap.size W w) (hE : EnvIs w ev env) (hEF : EnvFits env)
  (hC : CkAt c B tv yv ys 0 a w)
include hN hTl hx hB hE hEF hC
set_option maxRecDepth 100000 in
set_option maxHeartbeats 3200000 in
theorem rule_5 (hk : x.kind = 5) (m : Nat) (R : Except Tr.Bad (Ty × List Ty)) (hf : ∀ w', Below w.heap.size w w' → Calls Tryz.prog 110 #[.pointer (some ⟨c, 0, none⟩), .int .i64 (p : Int), ev] w' (RuleP c B tv yv ys a p m R w')) :
    Calls Tryz.prog 63 #[.pointer (some ⟨c, 0, none⟩), .int .i64 (p : Int), ev] w (RuleP c B tv yv ys a p m R w) := by
  have HF := Lib.hid hf
  clear hf
  have e1 : (x.kind == 1) = false := by rw [hk]; rfl
  have e2 : (x.kind == 2) = false := by rw [hk]; rfl
  have e3 : (x.kind == 3) = false := by rw [hk]; rfl
  have e4 : (x.kind == 4) = false := by rw [hk]; rfl
  have e5 : (x.kind == 5) = true := by rw [hk]; rfl
  have HND : Hid (Nodes w tv T) := Lib.hid (hN.later hB)
  have hpT : p < T.length := (List.getElem?_eq_some_iff.1 hx).1
  have HC := Lib.hid hC
  have HE := Lib.hid hE
  have HBW := Lib.hid hB
  have HXX := Lib.hid hx
  obtain ⟨ep, rfl⟩ := hE.shape
  have hb2 : Below w.heap.size w ((w.alloc (.cells #[.pointer (some ⟨c, 0, none⟩)] 82)).alloc (.cells #[.pointer ep] 76)) := ((Below.refl _ _).alloc (Nat.le_refl _) _).alloc (by simp) _
  obtain ⟨A, C, rfl, hlc, hNN⟩ := HND.out.later hb2
  obtain ⟨b, off, rfl, hM⟩ := hNN (by omega)
  obtain ⟨n0, n1, n2, n3, n4, n5, n6, n7⟩ := hM.at_ hx
  have c0 := (hC.later hb2).c0
  have hb3 := hb2.alloc (by simp; omega) (.cells #[.int .i8 x.kind, .int .i64 x.kids, .int .i64 x.n, .string x.s, .string x.t, .string x.u, .int .i64 x.line, .int .i64 x.col] 38)
  have HB3 := Lib.hid hb3
  have c03 := (hC.later hb3).c0
  have HBX : Hid (Box (w.heap.size + 2) x (((w.alloc (.cells #[.pointer (some ⟨c, 0, none⟩)] 82)).alloc (.cells #[.pointer ep] 76)).alloc (.cells #[.int .i8 x.kind, .int .i64 x.kids, .int .i64 x.n, .string x.s, .string x.t, .string x.u, .int .i64 x.line, .int .i64 x.col] 38))) := Lib.hid (by
    have := (MapKept.heap_alloc ((w.alloc (.cells #[.pointer (some ⟨c, 0, none⟩)] 82)).alloc (.cells #[.pointer ep] 76)) (.cells #[.int .i8 x.kind, .int .i64 x.kids, .int .i64 x.n, .string x.s, .string x.t, .string x.u, .int .i64 x.line, .int .i64 x.col] 38 (0, 0))).1
    have e : ((w.alloc (.cells #[.pointer (some ⟨c, 0, none⟩)] 82)).alloc (.cells #[.pointer ep] 76)).heap.size = w.heap.size + 2 := by simp
    rw [e] at this
    exact this)
  have HK := Lib.hid hk
  have HEF := Lib.hid hEF
  clear hM hNN hE hC hB hk hx hb2 hb3 hEF
  go_enter Tryz.func63, Tryz.ntmps63
  go_wp2_with fail
  refine (HF.out _ HB3.out).mono ?_
  rintro E w4 hr
  have HP := Lib.hid (hr.after (KeepN.of c _ HB3.out))
  obtain ⟨s, ys', rfl, _⟩ := hr
  clear n0 n1 n2 n3 n4 n5 n6 n7 c0
  go_wp2_with fail
  go_ret
  exact HP.out
set_option maxRecDepth 100000 in
set_option maxHeartbeats 3200000 in
theorem rule_6 (hk : x.kind = 6) (m : Nat) (R : Except Tr.Bad (Ty × List Ty)) (hf : ∀ w', Below w.heap.size w w' → Calls Tryz.prog 110 #[.pointer (some ⟨c, 0, none⟩), .int .i64 (p : Int), ev] w' (RuleP c B tv yv ys a p m R w')) :
    Calls Tryz.prog 63 #[.pointer (some ⟨c, 0, none⟩), .int .i64 (p : Int), ev] w (RuleP c B tv yv ys a p m R w) := by
  have HF := Lib.hid hf
  clear hf
  have e1 : (x.kind == 1) = false := by rw [hk]; rfl
  have e2 : (x.kind == 2) = false := by rw [hk]; rfl
  have e3 : (x.kind == 3) = false := by rw [hk]; rfl
  have e4 : (x.kind == 4) = false := by rw [hk]; rfl
  have e5 : (x.kind == 5) = false := by rw [hk]; rfl
  have e6 : (x.kind == 6) = true := by rw [hk]; rfl
  have HND : Hid (Nodes w tv T) := Lib.hid (hN.later hB)
  have hpT : p < T.length := (List.getElem?_eq_some_iff.1 hx).1
  have HC := Lib.hid hC
  have HE := Lib.hid hE
  have HBW := Lib.hid hB
  have HXX := Lib.hid hx
  obtain ⟨ep, rfl⟩ := hE.shape
  have hb2 : Below w.heap.size w ((w.alloc (.cells #[.pointer (some ⟨c, 0, none⟩)] 82)).alloc (.cells #[.pointer ep] 76)) := ((Below.refl _ _).alloc (Nat.le_refl _) _).alloc (by simp) _
  obtain ⟨A, C, rfl, hlc, hNN⟩ := HND.out.later hb2
  obtain ⟨b, off, rfl, hM⟩ := hNN (by omega)
  obtain ⟨n0, n1, n2, n3, n4, n5, n6, n7⟩ := hM.at_ hx
  have c0 := (hC.later hb2).c0
  have hb3 := hb2.alloc (by simp; omega) (.cells #[.int .i8 x.kind, .int .i64 x.kids, .int .i64 x.n, .string x.s, .string x.t, .string x.u, .int .i64 x.line, .int .i64 x.col] 38)
  have HB3 := Lib.hid hb3
  have c03 := (hC.later hb3).c0
  have HBX : Hid (Box (w.heap.size + 2) x (((w.alloc (.cells #[.pointer (some ⟨c, 0, none⟩)] 82)).alloc (.cells #[.pointer ep] 76)).alloc (.cells #[.int .i8 x.kind, .int .i64 x.kids, .int .i64 x.n, .string x.s, .string x.t, .string x.u, .int .i64 x.line, .int .i64 x.col] 38))) := Lib.hid (by
    have := (MapKept.heap_alloc ((w.alloc (.cells #[.pointer (some ⟨c, 0, none⟩)] 82)).alloc (.cells #[.pointer ep] 76)) (.cells #[.int .i8 x.kind, .int .i64 x.kids, .int .i64 x.n, .string x.s, .string x.t, .string x.u, .int .i64 x.line, .int .i64 x.col] 38 (0, 0))).1
    have e : ((w.alloc (.cells #[.pointer (some ⟨c, 0, none⟩)] 82)).alloc (.cells #[.pointer ep] 76)).heap.size = w.heap.size + 2 := by simp
    rw [e] at this
    exact this)
  have HK := Lib.hid hk
  have HEF := Lib.hid hEF
  clear hM hNN hE hC hB hk hx hb2 hb3 hEF
  go_enter Tryz.func63, Tryz.ntmps63
  go_wp2_with fail
  refine (HF.out _ HB3.out).mono ?_
  rintro E w4 hr
  have HP := Lib.hid (hr.after (KeepN.of c _ HB3.out))
  obtain ⟨s, ys', rfl, _⟩ := hr
  clear n0 n1 n2 n3 n4 n5 n6 n7 c0
  go_wp2_with fail
  go_ret
  exact HP.out
end
end Go.Proofs.YtdfadmhomjcmeaaGreatDoor
