
/- Walks of the checker: a node's rule: the loop over its kids. -/
import Derived.Test.YtdfadmhomjcmeaaGreatDoorKu
import Derived.StillTailTactics
namespace Culp.Tr
set_option linter.unusedSimpArgs false
set_option linter.unusedVariables false
open Go
theorem ruleT_kids {x : Nd} {ks : F} {env : Env} {p : Nat} (h : ¬ (x.kind = 5 ∨ x.kind = 6)) : ruleT x ks env p = match chk false ks (fun j => innerT x j env) 0 (p + 1) with
    | .error b => .error b
    | .ok K => (nodeT false x env p (K.map fun a => (a.1, a.2.headD .dyn))).map fun t => (t, (K.map Prod.snd).flatten) := by
  unfold ruleT
  rw [if_neg h]
  simp only []
  cases chk false ks (fun j => innerT x j env) 0 (p + 1) with
  | error b => rfl
  | ok K =>
    simp only []
    cases nodeT false x env p (K.map fun a => (a.1, a.2.headD .dyn)) <;> rfl
/-- What is still to come behind the kids that were checked. -/
def restR (R : Except Bad (List (Nat × List Ty))) (r : F) (G : Nat → Env) (k q : Nat) : Except Bad (List (Nat × List Ty)) := match R with
  | .error b => .error b
  | .ok K => (chk false r G k q).map (K ++ ·)
def nextR (R : Except Bad (List (Nat × List Ty))) (q : Nat) (S : Except Bad (List Ty)) : Except Bad (List (Nat × List Ty)) := match R with
  | .error b => .error b
  | .ok K => match S with
    | .error b => .error b
    | .ok ts => .ok (K ++ [(q, ts)])
theorem restR_cons {R : Except Bad (List (Nat × List Ty))} {y : Nd} {ky r : F} {G : Nat → Env} {k q : Nat} : restR R (.cons y ky r) G k q = restR (nextR R q (chk1 false y ky (G k) q)) r G (k + 1) (q + 1 + ky.flat.length) := by
  cases R with
  | error b => rfl
  | ok K =>
    unfold restR nextR
    rw [chk_first]
    cases chk1 false y ky (G k) q with
    | error b => rfl
    | ok ts =>
      simp only []
      cases chk false r G (k + 1) (q + 1 + ky.flat.length) <;> simp [Except.map]
theorem restR_nil {R : Except Bad (List (Nat × List Ty))} {G : Nat → Env} {k q : Nat} : restR R .nil G k q = R := by
  cases R with
  | error b => rfl
  | ok K => simp [restR, chk, Except.map]
theorem LaidK.append {ys : List ByteArray} {K L : List (Nat × List Ty)} (h : LaidK ys K) (k : LaidK ys L) : LaidK ys (K ++ L) := fun a ha => by
  rcases List.mem_append.1 ha with ha | ha
  · exact h a ha
  · exact k a ha
end Culp.Tr
namespace Go.Proofs.YtdfadmhomjcmeaaGreatDoor
set_option linter.unusedSimpArgs false
set_option linter.unusedVariables false
open Go.RowKit Go.Maps Culp
theorem CkAt.blk {c B a g : Nat} {tv yv : Value} {ys : List ByteArray} {e : Int} {w w1 : World} {cs : Array Value} {t : TypeId} {fr : Nat × Nat} (h : CkAt c B tv yv ys e a w) (k : KeepN c yv.ownBlock w w1) (hg : w.heap[g]? = some (.cells cs t fr)) (h1 : t ≠ 84) (h2 : t ≠ 9) : w1.heap[g]? = some (.cells cs t fr) := by
  refine (k.block g (Array.getElem?_eq_some_iff.1 hg).1 ?_ ?_).trans hg
  · rintro rfl
    have := h.box
    rw [hg] at this
    simp only [Option.some.injEq, Obj.cells.injEq] at this
    exact h1 this.2.1
  · exact own_ne h.own fun cur hc => by
      rw [hg] at hc
      simp only [Option.some.injEq, Obj.cells.injEq] at hc
      exact h2 hc.2.1
theorem CkAt.kids {c B a C m : Nat} {tv yv kv : Value} {ys : List ByteArray} {e : Int} {w w1 : World} {xs : List Value} (h : CkAt c B tv yv ys e a w) (k : KeepN c yv.ownBlock w w1) (hk : w.ownsRow C 3 1 kv m xs) : w1.ownsRow C 3 1 kv m xs := by
  refine k.own hk (own_ne hk fun cur hc => ?_) fun g hg he => own_apart_type hk h.own (by decide) g hg he
  have := h.box
  rw [hc] at this
  simp only [Option.some.injEq, Obj.cells.injEq] at this
  exact absurd this.2.1 (by decide)
theorem CkAt.base {c B a : Nat} {tv yv : Value} {ys : List ByteArray} {e : Int} {w w0 w1 W : World} (h : CkAt c B tv yv ys e a w0) (k : KeepN c yv.ownBlock w w1) (hb : Below W.heap.size W w) (hc : W.heap.size ≤ c) (hB : W.heap.size ≤ B) : Below W.heap.size W w1 :=
  k.below hb hb.size hc fun g hg => Nat.le_trans hB (h.own.lt g hg).1
theorem kids_v {c C : Nat} {w : World} {Ak : Option Addr} {ck m : Nat} {P : List Nat} (h : w.ownsRow C 3 1 (.slice Ak m ck) m (P.map natV)) (hc : ∀ cur, w.heap[c]? ≠ some (.cells cur 3 (0, 0))) : KV c w (.slice Ak m ck) P := by
  have hm : P.length = m := by have := h.1; simp at this; omega
  refine ⟨fun hP => ?_, fun hP => ⟨Ak, ck, ?_⟩⟩
  · have h0 : 0 < m := by have := List.length_pos_iff.2 hP; omega
    obtain ⟨g, c', e1, _, _, h2, _, hcell⟩ := own_read h h0
    simp only [Value.slice.injEq] at e1
    obtain ⟨rfl, _, rfl⟩ := e1
    refine ⟨g, 0, ck, m, rfl, hm, h2, ?_, fun j q hj => ?_⟩
    · rintro rfl
      exact own_ne h hc rfl
    · rw [Nat.zero_add]
      exact hcell j _ (by rw [List.getElem?_map, hj]; rfl)
  · subst hP
    simp only [List.length_nil] at hm
    subst hm
    rfl
/-- What is so ahead of a kid's check. -/
structure Loop (T : List Nd) (tv : Value) (c B : Nat) (x : Nd) (ks : Tr.F) (post : List Nd) (p : Nat) (G EB : Nat → Tr.Env) (yv : Value) (w : World) (ys : List ByteArray) (a bc bi bx : Nat) (kv : Value) (C0 : Nat) (k : Nat) (r : Tr.F) (pr : List Nd) (R : Except Tr.Bad (List (Nat × List Ty))) (yr : List ByteArray) (iv : Option Addr) (wr : World) : Prop where
  eq : T = pr ++ (r.flat ++ post)
  ok : r.Ok
  hgt : r.hgt ≤ ks.hgt
  places : ∀ j, (r.places pr.length)[j]? = (ks.places (p + 1))[k + j]?
  good : Tr.Good R
  rest : Tr.restR R r G k pr.length = Tr.chk false ks G 0 (p + 1)
  laid : ∀ K, R = .ok K → Tr.LaidK yr K ∧ ∀ b ∈ K, b.1 + b.2.length ≤ pr.length
  same : Tr.SameB (p + 1) pr.length ys yr
  long : p + 1 ≤ pr.length
  ck : CkAt c B tv yv yr (Tr.stE R) (Tr.stA a R) wr
  kept : KeepN c yv.ownBlock w wr
  oc : One bc 82 (.pointer (some ⟨c, 0, none⟩)) wr
  oi : One bi 76 (.pointer iv) wr
  env : EnvIs wr (.pointer iv) (EB k)
  box : Box bx x wr
  kids : wr.ownsRow C0 3 1 kv ks.cnt ((ks.places (p + 1)).map natV)
section
variable {T : List Nd} {tv : Value} {c B : Nat} {x : Nd} {ks : Tr.F} {post : List Nd} {p : Nat} {G EB : Nat → Tr.Env} {yv : Value} {w : World} {ys : List ByteArray} {a bc bi bx : Nat} {kv : Value} {C0 k : Nat} {y : Nd} {ky r : Tr.F} {pr : List Nd} {R : Except Tr.Bad (List (Nat × List Ty))} {yr : List ByteArray} {iv : Option Addr} {wr w' : World}
/-- A kid was not looked at. -/
theorem Loop.skip {b : Tr.Bad} (h : Loop T tv c B x ks post p G EB yv w ys a bc bi bx kv C0 k (.cons y ky r) pr (.error b) yr iv wr) (hE : EnvIs wr (.pointer iv) (EB (k + 1))) : Loop T tv c B x ks post p G EB yv w ys a bc bi bx kv C0 (k + 1) r (pr ++ y :: ky.flat) (.error b) yr iv wr where
  eq := by rw [h.eq]; simp [Tr.F.flat]
  ok := h.ok.2.2
  hgt := by have := h.hgt; simp only [Tr.F.hgt] at this; omega
  places := fun j => by
    have := h.places (j + 1)
    rw [show k + 1 + j = k + (j + 1) by omega, ← this, List.length_append, List.length_cons, show pr.length + (ky.flat.length + 1) = pr.length + 1 + ky.flat.length by omega]
    rfl
  good := h.good
  rest := h.rest
  laid := fun K hK => by cases hK
  same := ⟨h.same.1, fun i hi => h.same.2 i (by rw [List.length_append] at hi; omega)⟩
  long := by have := h.long; rw [List.length_append]; omega
  ck := h.ck
  kept := h.kept
  oc := h.oc
  oi := h.oi
  env := hE
  box := h.box
  kids := h.kids
/-- A kid was checked. -/
theorem Loop.step {K : List (Nat × List Ty)} {s : ByteArray} (h : Loop T tv c B x ks post p G EB yv w ys a bc bi bx kv C0 k (.cons y ky r) pr (.ok K) yr iv wr)
    (hp : PartRes c B tv yv yr a pr.length (1 + ky.flat.length) (Tr.chk1 false y ky (G k) pr.length) wr (.returned (.string s)) w') (hE : EnvIs wr (.pointer iv) (EB (k + 1))) : ∃ yr', Loop T tv c B x ks post p G EB yv w ys a bc bi bx kv C0 (k + 1) r (pr ++ y :: ky.flat) (Tr.nextR (.ok K) pr.length (Tr.chk1 false y ky (G k) pr.length)) yr' iv w' := by
  have hr := h.rest
  rw [Tr.restR_cons] at hr
  obtain ⟨s', yr', _, hC, hK, hG, hS, hL⟩ := hp
  have hlen : (pr ++ y :: ky.flat).length = pr.length + 1 + ky.flat.length := by rw [List.length_append, List.length_cons]; omega
  have hst : ∀ (S : Except Tr.Bad (List Ty)), Tr.stE (Tr.nextR (.ok K) pr.length S) = Tr.stE S ∧ Tr.stA a (Tr.nextR (.ok K) pr.length S) = Tr.stA a S := fun S => by cases S <;> exact ⟨rfl, rfl⟩
  refine ⟨yr', ?_⟩
  generalize Tr.chk1 false y ky (G k) pr.length = S at *
  exact {
    eq := by rw [h.eq]; simp [Tr.F.flat]
    ok := h.ok.2.2
    hgt := by have := h.hgt; simp only [Tr.F.hgt] at this; omega
    places := fun j => by
      have := h.places (j + 1)
      rw [show k + 1 + j = k + (j + 1) by omega, ← this, List.length_append, List.length_cons, show pr.length + (ky.flat.length + 1) = pr.length + 1 + ky.flat.length by omega]
      rfl
    good := by
      cases S with
      | ok ts => exact Tr.good_ok _
      | error b => exact fun b' hb => hG b' (by injection hb with hb; rw [hb])
    rest := by rw [hlen]; exact hr
    laid := fun K' hK' => by
      cases S with
      | error b => cases hK'
      | ok ts =>
        injection hK' with hK'
        subst hK'
        obtain ⟨l1, l2⟩ := h.laid K rfl
        obtain ⟨h1, h2, _⟩ := hL ts rfl
        refine ⟨(l1.keep hS fun b hb => .inl (l2 b hb)).append h1, fun b hb => ?_⟩
        rw [hlen]
        rcases List.mem_append.1 hb with hb | hb
        · have := l2 b hb; omega
        · simp only [List.mem_singleton] at hb
          subst hb
          show pr.length + ts.length ≤ _
          omega
    same := by
      rw [hlen]
      have := h.long
      exact ⟨hS.1.trans h.same.1, fun i hi => (hS.2 i (by omega)).trans (h.same.2 i (by omega))⟩
    long := by have := h.long; rw [hlen]; omega
    ck := by rw [(hst S).1, (hst S).2]; exact hC
    kept := h.kept.trans hK (.inl rfl)
    oc := h.ck.blk hK h.oc (by decide) (by decide)
    oi := h.ck.blk hK h.oi (by decide) (by decide)
    env := h.ck.env hK hE
    box := h.ck.boxed hK h.box
    kids := h.ck.kids hK h.kids }
end
end Go.Proofs.YtdfadmhomjcmeaaGreatDoor

/- Walks of the checker: a node's rule, its kids checked in turn; any part. -/
namespace Go.Proofs.YtdfadmhomjcmeaaGreatDoor
set_option linter.unusedSimpArgs false
set_option linter.unusedVariables false
open Go.RowKit Go.Maps Culp
section
variable {T : List Nd} {tv : Value} {c B : Nat} {x : Nd} {ks : Tr.F} {post : List Nd} {p : Nat} {env : Tr.Env} {EB : Nat → Tr.Env} {yv : Value} {w : World} {ys : List ByteArray} {a bc bi bx : Nat} {kv : Value} {C0 k : Nat} {pr : List Nd} {yr : List ByteArray} {iv : Option Addr} {wr w' : World}
theorem Loop.bad {b : Tr.Bad} {s : ByteArray} (h : Loop T tv c B x ks post p (fun j => Tr.innerT x j env) EB yv w ys a bc bi bx kv C0 k .nil pr (.error b) yr iv wr) (h56 : ¬ (x.kind = 5 ∨ x.kind = 6)) (hT : T.length = p + (1 + ks.flat.length) + post.length) : RuleP c B tv yv ys a p (1 + ks.flat.length) (Tr.ruleT x ks env p) w (.returned (.string s)) wr := by
  have hr := h.rest
  rw [Tr.restR_nil] at hr
  rw [Tr.ruleT_kids h56, ← hr]
  have hl := congrArg List.length h.eq
  simp only [Tr.F.flat, List.nil_append, List.length_append] at hl
  exact ⟨s, yr, rfl, h.ck, h.kept, fun b' hb => h.good b' (by injection hb with hb; rw [hb]), by have := h.same; rw [show pr.length = p + (1 + ks.flat.length) by omega] at this; exact this, fun t L hL => by cases hL⟩
theorem Loop.good_end {K : List (Nat × List Ty)} {E : Ending} (h : Loop T tv c B x ks post p (fun j => Tr.innerT x j env) EB yv w ys a bc bi bx kv C0 k .nil pr (.ok K) yr iv wr) (h56 : ¬ (x.kind = 5 ∨ x.kind = 6)) (hT : T.length = p + (1 + ks.flat.length) + post.length)
    (hr : RuleRes c B tv yv yr a (Tr.nodeT false x env p (K.map fun a => (a.1, a.2.headD .dyn))) wr E w') : RuleP c B tv yv ys a p (1 + ks.flat.length) (Tr.ruleT x ks env p) w E w' := by
  have hc := h.rest
  rw [Tr.restR_nil] at hc
  rw [Tr.ruleT_kids h56, ← hc]
  have hl := congrArg List.length h.eq
  simp only [Tr.F.flat, List.nil_append, List.length_append] at hl
  have hS : Tr.SameB (p + 1) (p + (1 + ks.flat.length)) ys yr := by have := h.same; rw [show pr.length = p + (1 + ks.flat.length) by omega] at this; exact this
  have hfl := Tr.laid_flat ks _ 0 (p + 1) K hc.symm (h.laid K rfl).1
  have hln := Tr.F.chk_len false ks _ 0 (p + 1) K hc.symm
  unfold RuleRes at hr
  dsimp only
  generalize Tr.nodeT false x env p (K.map fun a => (a.1, a.2.headD .dyn)) = N at *
  cases N with
  | ok t =>
    refine ⟨t.str, yr, hr.1, hr.2.1, h.kept.keep hr.2.2, Tr.good_ok _, hS, fun t' L hL => ?_⟩
    injection hL with hL
    injection hL with h1 h2
    subst h1 h2
    exact ⟨rfl, by omega, hfl⟩
  | error b =>
    obtain ⟨s, h1, h2⟩ := hr
    exact ⟨s, yr, h1.1, h1.2.1, h.kept.keep h1.2.2, fun b' hb => by injection hb with hb; rw [← hb]; exact h2, hS, fun t' L hL => by cases hL⟩
theorem Loop.asked {K : List (Nat × List Ty)} (h : Loop T tv c B x ks post p (fun j => Tr.innerT x j env) EB yv w ys a bc bi bx kv C0 k .nil pr (.ok K) yr iv wr) (hm : Tr.may x = true) (h0 : ¬ (x.kind = 1 ∨ x.kind = 2 ∨ x.kind = 3 ∨ x.kind = 4 ∨ x.kind = 5 ∨ x.kind = 6)) (hO : (ks.cnt : Int) = x.kids) (hT : T.length = p + (1 + ks.flat.length) + post.length) (hTl : T.length ≤ 1000000) (hTab : Tab wr) {Ak : Option Addr} {ck : Nat} (hkv : kv = .slice Ak ks.cnt ck) :
    Calls Tryz.prog 113 #[.pointer (some ⟨c, 0, none⟩), .int .i64 (p : Int), x.val, kv] wr (RuleP c B tv yv ys a p (1 + ks.flat.length) (Tr.ruleT x ks env p) w) := by
  have hc := h.rest
  rw [Tr.restR_nil] at hc
  have hp := Tr.chk_places ks _ 0 (p + 1) K hc.symm
  have hpl := congrArg List.length hp
  rw [Tr.F.places_len, List.length_map] at hpl
  have hcl := ks.cnt_le
  have hK1 : (K.map fun a => (a.1, a.2.headD .dyn)).map Prod.fst = ks.places (p + 1) := by rw [← hp, List.map_map]; rfl
  refine (asked_any c B tv yv yr a wr p x env _ kv hm h0 (by rw [List.length_map, hpl]; exact hO) hTab ?_ (h.laid K rfl).1.told (by rw [List.length_map]; omega) h.ck).mono fun E w' hr => h.good_end (by omega) hT hr
  rw [hK1]
  subst hkv
  exact kids_v h.kids fun cur hcu => by
    have := h.ck.box
    rw [hcu] at this
    simp only [Option.some.injEq, Obj.cells.injEq] at this
    exact absurd this.2.1 (by decide)
end
section
variable (T : List Nd) (tv : Value) (W : World) (c B n : Nat) (hN : Nodes W tv T) (hTl : T.length ≤ 1000000) (hTab : Tab W) (hcW : W.heap.size ≤ c) (hBW : W.heap.size ≤ B)
  (x : Nd) (ks : Tr.F) (pre post : List Nd) (p : Nat) (env : Tr.Env) (ev yv : Value) (w : World) (ys : List ByteArray) (a : Nat)
  (hT : T = pre ++ x :: (ks.flat ++ post)) (hp : pre.length = p) (hO : (Tr.F.cons x ks .nil).Ok) (hB : Below W.heap.size W w) (hE : EnvIs w ev env) (hEF : EnvFits env) (hys : ys.length = T.length)
  (hC : CkAt c B tv yv ys 0 a w) (hup : PartC T tv W c B n) (hh : ks.hgt ≤ n) (hm : Tr.may x = true)
  (h0 : ¬ (x.kind = 1 ∨ x.kind = 2 ∨ x.kind = 3 ∨ x.kind = 4 ∨ x.kind = 5 ∨ x.kind = 6))
include hN hTl hTab hcW hBW hT hp hO hB hE hEF hys hC hup hh hm h0
set_option maxRecDepth 100000 in
set_option maxHeartbeats 6400000 in
theorem rule_p (hk : x.kind ≠ 8) : Calls Tryz.prog 63 #[.pointer (some ⟨c, 0, none⟩), .int .i64 (p : Int), ev] w
      (RuleP c B tv yv ys a p (1 + ks.flat.length) (Tr.ruleT x ks env p) w) := by
  have e8 : (x.kind == 8) = false := beq_no hk
  have HIN : Hid (∀ j, Tr.innerT x j env = env) := Lib.hid (fun j => by unfold Tr.innerT; rw [if_neg (by omega), if_neg (by omega), if_neg (fun h => hk h.1)])
  have e1 : (x.kind == 1) = false := beq_no (by omega)
  have e2 : (x.kind == 2) = false := beq_no (by omega)
  have e3 : (x.kind == 3) = false := beq_no (by omega)
  have e4 : (x.kind == 4) = false := beq_no (by omega)
  have e5 : (x.kind == 5) = false := beq_no (by omega)
  have e6 : (x.kind == 6) = false := beq_no (by omega)
  have hx : T[p]? = some x := by rw [hT, ← hp]; simp
  have HTL : Hid (T.length = p + (1 + ks.flat.length) + post.length) := Lib.hid (by rw [hT, ← hp]; simp; omega)
  have HKD := Lib.hid (fun w' (hb : Below w.heap.size w w') => tKids_any T tv (p : Int) w' ((hN.later hB).later hb) hTl)
  have HKS : Hid (Tr.kidsOf T (p : Int) = ks.places (p + 1)) := Lib.hid (by have := Tr.F.kids_at hT hO; rw [hp] at this; exact this)
  have HTB := Lib.hid hTab
  have HT := Lib.hid hT
  have HP := Lib.hid hp
  have HO := Lib.hid hO
  have HYS := Lib.hid hys
  have hcnt := Tr.F.cnt_le ks
  have hcT : ks.cnt ≤ 1000000 := by have := HTL.out; omega
  have HOC0 : Hid (One w.heap.size 82 (.pointer (some ⟨c, 0, none⟩)) (w.alloc (.cells #[.pointer (some ⟨c, 0, none⟩)] 82))) := Lib.hid (one_alloc _ _ _)
  have HOI0 : ∀ ep : Option Addr, Hid (One (w.heap.size + 1) 76 (.pointer ep) ((w.alloc (.cells #[.pointer (some ⟨c, 0, none⟩)] 82)).alloc (.cells #[.pointer ep] 76))) := fun ep => Lib.hid (by
    have := one_alloc (w.alloc (.cells #[.pointer (some ⟨c, 0, none⟩)] 82)) 76 (.pointer ep)
    rw [show (w.alloc (.cells #[.pointer (some ⟨c, 0, none⟩)] 82)).heap.size = w.heap.size + 1 by simp] at this
    exact this)
  have hmf : ∀ (fn : Fn) (first cap : Array Value) (w : World), (Instr.makeFunc fn first cap).run Tryz.prog w = .ok (.func fn first cap) w := fun _ _ _ _ => rfl
  clear hTab hT hp hO hys
  have HND : Hid (Nodes w tv T) := Lib.hid (hN.later hB)
  have hpT : p < T.length := (List.getElem?_eq_some_iff.1 hx).1
  have HC := Lib.hid hC
  have HE := Lib.hid hE
  have HBW := Lib.hid hB
  have HXX := Lib.hid hx
  obtain ⟨ep, rfl⟩ := hE.shape
  have hb2 : Below w.heap.size w ((w.alloc (.cells #[.pointer (some ⟨c, 0, none⟩)] 82)).alloc (.cells #[.pointer ep] 76)) := ((Below.refl _ _).alloc (Nat.le_refl _) _).alloc (by simp) _
  obtain ⟨A, C, rfl, hlc, hNN⟩ := HND.out.later hb2
  obtain ⟨b, off, rfl, hM⟩ := hNN (by omega)
  obtain ⟨n0, n1, n2, n3, n4, n5, n6, n7⟩ := hM.at_ hx
  have c0 := (hC.later hb2).c0
  have hb3 := hb2.alloc (by simp; omega) (.cells #[.int .i8 x.kind, .int .i64 x.kids, .int .i64 x.n, .string x.s, .string x.t, .string x.u, .int .i64 x.line, .int .i64 x.col] 38)
  have HB3 := Lib.hid hb3
  have c03 := (hC.later hb3).c0
  have HBX : Hid (Box (w.heap.size + 2) x (((w.alloc (.cells #[.pointer (some ⟨c, 0, none⟩)] 82)).alloc (.cells #[.pointer ep] 76)).alloc (.cells #[.int .i8 x.kind, .int .i64 x.kids, .int .i64 x.n, .string x.s, .string x.t, .string x.u, .int .i64 x.line, .int .i64 x.col] 38))) := Lib.hid (by
    have := (MapKept.heap_alloc ((w.alloc (.cells #[.pointer (some ⟨c, 0, none⟩)] 82)).alloc (.cells #[.pointer ep] 76)) (.cells #[.int .i8 x.kind, .int .i64 x.kids, .int .i64 x.n, .string x.s, .string x.t, .string x.u, .int .i64 x.line, .int .i64 x.col] 38 (0, 0))).1
    have e : ((w.alloc (.cells #[.pointer (some ⟨c, 0, none⟩)] 82)).alloc (.cells #[.pointer ep] 76)).heap.size = w.heap.size + 2 := by simp
    rw [e] at this
    exact this)
  have HK := Lib.hid hk
  have HEF := Lib.hid hEF
  clear hM hNN hE hC hB hk hx hb2 hb3 hEF
  go_enter Tryz.func63, Tryz.ntmps63
  go_wp2_with fail
  refine (HKD.out _ HB3.out).mono ?_
  rintro e w4 ⟨kv, rfl, hown, hb4⟩
  rw [HKS.out, Tr.F.places_len] at hown
  obtain ⟨w3n, hown⟩ : ∃ m, w4.ownsRow m 3 1 kv ks.cnt ((ks.places (p + 1)).map natV) := ⟨_, hown⟩
  have HKW := Lib.hid hown
  obtain ⟨Ak, ck, rfl⟩ := own_shape hown
  have HB4 := Lib.hid (below_later hb4 HB3.out)
  have HOC4 : Hid (One w.heap.size 82 (.pointer (some ⟨c, 0, none⟩)) w4) := Lib.hid ((hb4.block _ (by first | (simp; done) | (simp; omega))).trans ((((Below.refl _ _).alloc (Nat.le_refl _) _).alloc (by simp) _).block _ (by simp)|>.trans HOC0.out))
  have HOI4 : Hid (One (w.heap.size + 1) 76 (.pointer ep) w4) := Lib.hid ((hb4.block _ (by first | (simp; done) | (simp; omega))).trans (((Below.refl _ _).alloc (Nat.le_refl _) _).block _ (by simp)|>.trans (HOI0 ep).out))
  have HBX4 : Hid (Box (w.heap.size + 2) x w4) := Lib.hid ((hb4.block _ HBX.out.lt).trans HBX.out)
  have HL0 : Hid (Loop T (.slice (some ⟨b, off, none⟩) T.length C) c B x ks post p (fun j => Tr.innerT x j env) (fun _ => env) yv w ys a w.heap.size (w.heap.size + 1) (w.heap.size + 2) (.slice Ak ks.cnt ck) w3n 0 ks (pre ++ [x]) (.ok []) ys ep w4) := Lib.hid {
    eq := by rw [HT.out]; simp
    ok := HO.out.2.1
    hgt := Nat.le_refl _
    places := fun j => by rw [List.length_append, HP.out, Nat.zero_add]; rfl
    good := Tr.good_ok _
    rest := by
      rw [List.length_append, HP.out]
      show (Tr.chk false ks _ 0 (p + 1)).map ([] ++ ·) = _
      cases Tr.chk false ks (fun j => Tr.innerT x j env) 0 (p + 1) <;> rfl
    laid := fun K hK => by injection hK with hK; subst hK; exact ⟨fun b hb => by simp at hb, fun b hb => by simp at hb⟩
    same := ⟨rfl, fun _ _ => rfl⟩
    long := by rw [List.length_append, HP.out]; exact Nat.le_refl _
    ck := HC.out.later HB4.out
    kept := KeepN.of c _ HB4.out
    oc := HOC4.out
    oi := HOI4.out
    env := HE.out.later HB4.out
    box := HBX4.out
    kids := HKW.out }
  clear hown hb4 n0 n1 n2 n3 n4 n5 n6 n7 c0 c03 HKD HKS HB3 HBX HOC0 HOI0 HOC4 HOI4 HBX4 HKW
  go_wp2_with fail
  go_loopw [49] (fun i wr => ∃ (k : Nat) (r : Tr.F) (pr : List Nd) (R : Except Tr.Bad (List (Nat × List Ty))) (yr : List ByteArray) (iv : Option Addr), i = .int .i64 k ∧ k + r.cnt = ks.cnt ∧ Hid (Loop T (.slice (some ⟨b, off, none⟩) T.length C) c B x ks post p (fun j => Tr.innerT x j env) (fun _ => env) yv w ys a w.heap.size (w.heap.size + 1) (w.heap.size + 2) (.slice Ak ks.cnt ck) w3n k r pr R yr iv wr)) (fun i _ => ks.cnt - (intOf i).toNat)
  case atStart => exact ⟨0, ks, pre ++ [x], .ok [], ys, ep, rfl, by omega, HL0⟩
  case round =>
    clear HL0 HB4 hown
    obtain ⟨k, r, pr, R, yr, iv, rfl, hk, HL⟩ := hrel
    have HWr := Lib.hid (HL.out.ck.base HL.out.kept HBW.out hcW hBW)
    have HTBr := Lib.hid (HTB.out.later HWr.out)
    have oc := HL.out.oc.cell
    have h56 : ¬ (x.kind = 5 ∨ x.kind = 6) := by omega
    have H56 := Lib.hid h56
    clear h56
    cases r with
    | nil =>
      have hkc : k = ks.cnt := by simp only [Tr.F.cnt] at hk; omega
      subst hkc
      cases R with
      | error bb =>
        have c2 : wr.cell? ⟨c, 2, none⟩ = some (.int .i64 bb.1) := HL.out.ck.c2
        have q : (bb.1 != 0) = true := by
          have := HL.out.good bb rfl
          simpa using this
        have HR := Lib.hid (HL.out.bad (s := ByteArray.empty) H56.out HTL.out)
        clear hk
        go_wp2_with fail
        go_ret
        exact HR.out
      | ok K =>
        have c2 : wr.cell? ⟨c, 2, none⟩ = some (.int .i64 0) := HL.out.ck.c2
        have x0 : wr.cell? ⟨w.heap.size + 1 + 1, 0, none⟩ = some (.int .i8 x.kind) := HL.out.box.cell 0
        have x1 : wr.cell? ⟨w.heap.size + 1 + 1, 1, none⟩ = some (.int .i64 x.kids) := HL.out.box.cell 1
        have x2 : wr.cell? ⟨w.heap.size + 1 + 1, 2, none⟩ = some (.int .i64 x.n) := HL.out.box.cell 2
        have x3 : wr.cell? ⟨w.heap.size + 1 + 1, 3, none⟩ = some (.string x.s) := HL.out.box.cell 3
        have x4 : wr.cell? ⟨w.heap.size + 1 + 1, 4, none⟩ = some (.string x.t) := HL.out.box.cell 4
        have x5 : wr.cell? ⟨w.heap.size + 1 + 1, 5, none⟩ = some (.string x.u) := HL.out.box.cell 5
        have x6 : wr.cell? ⟨w.heap.size + 1 + 1, 6, none⟩ = some (.int .i64 x.line) := HL.out.box.cell 6
        have x7 : wr.cell? ⟨w.heap.size + 1 + 1, 7, none⟩ = some (.int .i64 x.col) := HL.out.box.cell 7
        have HA : Hid (Calls Tryz.prog 113 #[.pointer (some ⟨c, 0, none⟩), .int .i64 (p : Int), .agg #[.int .i8 x.kind, .int .i64 x.kids, .int .i64 x.n, .string x.s, .string x.t, .string x.u, .int .i64 x.line, .int .i64 x.col], .slice Ak ks.cnt ck] wr (RuleP c B (.slice (some ⟨b, off, none⟩) T.length C) yv ys a p (1 + ks.flat.length) (Tr.ruleT x ks env p) w)) := Lib.hid (HL.out.asked hm h0 HO.out.1 HTL.out hTl HTBr.out rfl)
        clear hk
        go_wp2_with fail
        refine HA.out.mono ?_
        rintro E w5 hr
        have HR := Lib.hid hr
        obtain ⟨s, ys', rfl, _⟩ := hr
        clear x0 x1 x2 x3 x4 x5 x6 x7 c2 oc
        go_wp2_with fail
        go_ret
        exact HR.out
    | cons y ky r' =>
      have hkl : k < ks.cnt := by simp only [Tr.F.cnt] at hk; omega
      have hk' : k + 1 + r'.cnt = ks.cnt := by simp only [Tr.F.cnt] at hk; omega
      obtain ⟨gk, _, e1, _, _, _, _, hc⟩ := own_read HL.out.kids (by omega)
      simp only [Value.slice.injEq] at e1
      obtain ⟨rfl, _, rfl⟩ := e1
      have xk : wr.cell? ⟨gk, k, none⟩ = some (.int .i64 ((pr.length : Nat) : Int)) := hc k _ (by
        have h2 : (ks.places (p + 1))[k]? = some pr.length := (HL.out.places 0).symm
        rw [List.getElem?_map, h2]; rfl)
      have oi := HL.out.oi.cell
      have x0 : wr.cell? ⟨w.heap.size + 1 + 1, 0, none⟩ = some (.int .i8 x.kind) := HL.out.box.cell 0
      clear hc hk
      have HNX : Hid (EnvIs wr (.pointer iv) env) := Lib.hid HL.out.env
      have HNY : Hid (EnvIs wr (.pointer iv) env) := HNX
      have HGE : Hid (Tr.innerT x k env = env) := Lib.hid (HIN.out k)
      have HEG := HEF
      cases R with
      | error bb =>
        have HS := Lib.hid (check_skip c B bb.2 (.slice (some ⟨b, off, none⟩) T.length C) yv yr bb.1 (HL.out.good bb rfl) wr HL.out.ck pr.length w.heap.size (w.heap.size + 1) oc)
        have HL2 := Lib.hid (HL.out.skip HNY.out)
        generalize pr.length = pl at *
        go_wp2_with fail
        refine HS.out.mono ?_
        rintro E w5 ⟨rfl, rfl⟩
        clear x0 xk oi oc
        go_wp2_with fail
        go_roundw
        case rel => exact ⟨k + 1, r', _, _, yr, iv, by go_num, hk', id HL2⟩
        case measure => simp [intOf]; omega
      | ok K =>
        have hc2 : wr.cell? ⟨c, 2, none⟩ = some (.int .i64 0) := HL.out.ck.c2
        have hG := HGE.out
        have HP := hup y ky pr (r'.flat ++ post) pr.length (Tr.innerT x k env) (.pointer iv) yv wr yr a (by have := HL.out.hgt; simp only [Tr.F.hgt] at this; omega) (by rw [HL.out.eq]; simp [Tr.F.flat]) rfl ⟨HL.out.ok.1, HL.out.ok.2.1, trivial⟩ HWr.out (by rw [hG]; exact HNX.out) (by rw [hG]; exact HEG.out) (HL.out.same.1.trans HYS.out) HL.out.ck
        have HS := Lib.hid (check_go c _ (fun E w' h => by obtain ⟨s, _, h1, _⟩ := h; exact ⟨s, h1⟩) wr pr.length w.heap.size (w.heap.size + 1) iv oc oi hc2 HP)
        have HL2 := Lib.hid (fun s w' hp => HL.out.step (s := s) (w' := w') hp HNY.out)
        clear HP hc2 hG
        go_wp2_with fail
        refine HS.out.mono ?_
        rintro E w5 ⟨rfl, s, hp⟩
        obtain ⟨yr', HL3⟩ := HL2.out s w5 hp
        have HL3 := Lib.hid HL3
        clear hp HS HL2 x0 xk oi oc
        go_wp2_with fail
        go_roundw
        case rel => exact ⟨k + 1, r', _, _, yr', iv, by go_num, hk', id HL3⟩
        case measure => simp [intOf]; omega
end
end Go.Proofs.YtdfadmhomjcmeaaGreatDoor

/- Walks of the checker: a let's rule. -/
namespace Go.Proofs.YtdfadmhomjcmeaaGreatDoor
set_option linter.unusedSimpArgs false
set_option linter.unusedVariables false
open Go.RowKit Go.Maps Culp
section
variable {T : List Nd} {tv : Value} {c B : Nat} {x : Nd} {ks : Tr.F} {post : List Nd} {p : Nat} {G EB EB' : Nat → Tr.Env} {yv : Value} {w : World} {ys : List ByteArray} {a bc bi bx : Nat} {kv : Value} {C0 k : Nat} {r : Tr.F} {pr : List Nd} {R : Except Tr.Bad (List (Nat × List Ty))} {yr : List ByteArray} {iv iv' : Option Addr} {wr w1 : World}
theorem Loop.cast (h : Loop T tv c B x ks post p G EB yv w ys a bc bi bx kv C0 k r pr R yr iv wr) (e : EB k = EB' k) : Loop T tv c B x ks post p G EB' yv w ys a bc bi bx kv C0 k r pr R yr iv wr := { h with env := by rw [← e]; exact h.env }
theorem put_block {w : World} {g i k : Nat} {v : Value} (h : k ≠ g) : (w.setCell ⟨g, i, none⟩ v).heap[k]? = w.heap[k]? := Below.heap_setCell _ _ _ _ (by simpa using h)
/-- The environment grows. -/
theorem Loop.bind (h : Loop T tv c B x ks post p G EB yv w ys a bc bi bx kv C0 k r pr R yr iv wr) (hb : Below wr.heap.size wr w1) (hbi : w.heap.size ≤ bi) (hE : EnvIs w1 (.pointer iv') (EB' k)) (hcb : bc ≠ bi) (hxb : bx ≠ bi) : Loop T tv c B x ks post p G EB' yv w ys a bc bi bx kv C0 k r pr R yr iv' (w1.setCell ⟨bi, 0, none⟩ (.pointer iv')) := by
  have hoi : One bi 76 (.pointer iv) w1 := (hb.block bi (Array.getElem?_eq_some_iff.1 h.oi).1).trans h.oi
  have hck := h.ck.later hb
  have hkp : KeepN c yv.ownBlock w w1 := h.kept.trans (KeepN.of c _ hb) (.inl rfl)
  have hkids := own_later h.kids hb
  have hci : c ≠ bi := by
    intro e
    have h1 := hck.box
    rw [e] at h1
    unfold One at hoi
    rw [hoi] at h1
    simp only [Option.some.injEq, Obj.cells.injEq] at h1
    exact absurd h1.2.1 (by decide)
  have hne : ∀ {t : TypeId} {v : Value} {n base : Nat} {xs : List Value}, t ≠ 76 → w1.ownsRow base t 1 v n xs → v.ownBlock ≠ some bi := fun {t v n base xs} ht hr => own_ne hr fun cur hcu => by
    unfold One at hoi
    rw [hoi] at hcu
    simp only [Option.some.injEq, Obj.cells.injEq] at hcu
    exact ht hcu.2.1.symm
  have hK : Keep bi w1 (w1.setCell ⟨bi, 0, none⟩ (.pointer iv')) := (Keep.refl _ _).setCell 0 _
  have hKN : KeepN bi none w1 (w1.setCell ⟨bi, 0, none⟩ (.pointer iv')) := ⟨hK.os, hK.tape, hK.output, hK.size, fun i hi hia _ => hK.block i hi hia⟩
  exact {
    eq := h.eq
    ok := h.ok
    hgt := h.hgt
    places := h.places
    good := h.good
    rest := h.rest
    laid := h.laid
    same := h.same
    long := h.long
    ck := ⟨(put_block hci).trans hck.box, own_apart_keep hck.own hK (hne (by decide) hck.own)⟩
    kept := ⟨hkp.os, hkp.tape, hkp.output, by have := hkp.size; simpa [World.setCell] using this, fun i hi hic hio => by
      rw [put_block (by omega)]
      exact hkp.block i hi hic hio⟩
    oc := (put_block hcb).trans ((hb.block bc (Array.getElem?_eq_some_iff.1 h.oc).1).trans h.oc)
    oi := hoi.put _
    env := hE.keepN hKN fun g n t v' hg => ⟨by
      rintro rfl
      unfold One at hoi
      rw [hoi] at hg
      simp only [Option.some.injEq, Obj.cells.injEq] at hg
      exact absurd hg.2.1 (by decide), by simp⟩
    box := (put_block hxb).trans ((hb.block bx h.box.lt).trans h.box)
    kids := own_apart_keep hkids hK (hne (by decide) hkids) }
theorem Loop.kid {gk ck : Nat} {y : Nd} {ky : Tr.F} (h : Loop T tv c B x ks post p G EB yv w ys a bc bi bx (.slice (some ⟨gk, 0, none⟩) ks.cnt ck) C0 k (.cons y ky r) pr R yr iv wr) : wr.cell? ⟨gk, k, none⟩ = some (.int .i64 ((pr.length : Nat) : Int)) := (own_get h.kids (i := k) (by
  have h2 : (ks.places (p + 1))[k]? = some pr.length := (h.places 0).symm
  rw [List.getElem?_map, h2]; rfl)).1
end
section
variable (T : List Nd) (tv : Value) (W : World) (c B n : Nat) (hN : Nodes W tv T) (hTl : T.length ≤ 1000000) (hTab : Tab W) (hcW : W.heap.size ≤ c) (hBW : W.heap.size ≤ B)
  (x : Nd) (ks : Tr.F) (pre post : List Nd) (p : Nat) (env : Tr.Env) (ev yv : Value) (w : World) (ys : List ByteArray) (a : Nat)
  (hT : T = pre ++ x :: (ks.flat ++ post)) (hp : pre.length = p) (hO : (Tr.F.cons x ks .nil).Ok) (hB : Below W.heap.size W w) (hE : EnvIs w ev env) (hEF : EnvFits env) (hys : ys.length = T.length)
  (hC : CkAt c B tv yv ys 0 a w) (hup : PartC T tv W c B n) (hh : ks.hgt ≤ n) (hm : Tr.may x = true)
  (h0 : ¬ (x.kind = 1 ∨ x.kind = 2 ∨ x.kind = 3 ∨ x.kind = 4 ∨ x.kind = 5 ∨ x.kind = 6))
include hN hTl hTab hcW hBW hT hp hO hB hE hEF hys hC hup hh hm h0
set_option maxRecDepth 100000 in
set_option maxHeartbeats 6400000 in
theorem rule_let (hk : x.kind = 8) (h2 : ks.cnt = 2) : Calls Tryz.prog 63 #[.pointer (some ⟨c, 0, none⟩), .int .i64 (p : Int), ev] w
      (RuleP c B tv yv ys a p (1 + ks.flat.length) (Tr.ruleT x ks env p) w) := by
  have e8 : (x.kind == 8) = true := by rw [hk]; rfl
  have HIN0 : Hid (Tr.innerT x 0 env = env) := Lib.hid (by unfold Tr.innerT; rw [if_neg (by omega), if_neg (by omega), if_neg (fun h => absurd h.2 (by decide))])
  have HIN1 : Hid (Tr.innerT x 1 env = (x.s, Tr.noteT x.t) :: env) := Lib.hid (by unfold Tr.innerT; rw [if_neg (by omega), if_neg (by omega), if_pos ⟨hk, rfl⟩])
  have m1 := (may_note hm).1 (.inr (.inr hk))
  have HC2 := Lib.hid h2
  clear h2
  have HU := Lib.hid (unknown_any x.t m1)
  have HMF := Lib.hid m1.fits
  clear m1
  have e1 : (x.kind == 1) = false := beq_no (by omega)
  have e2 : (x.kind == 2) = false := beq_no (by omega)
  have e3 : (x.kind == 3) = false := beq_no (by omega)
  have e4 : (x.kind == 4) = false := beq_no (by omega)
  have e5 : (x.kind == 5) = false := beq_no (by omega)
  have e6 : (x.kind == 6) = false := beq_no (by omega)
  have hx : T[p]? = some x := by rw [hT, ← hp]; simp
  have HTL : Hid (T.length = p + (1 + ks.flat.length) + post.length) := Lib.hid (by rw [hT, ← hp]; simp; omega)
  have HKD := Lib.hid (fun w' (hb : Below w.heap.size w w') => tKids_any T tv (p : Int) w' ((hN.later hB).later hb) hTl)
  have HKS : Hid (Tr.kidsOf T (p : Int) = ks.places (p + 1)) := Lib.hid (by have := Tr.F.kids_at hT hO; rw [hp] at this; exact this)
  have HTB := Lib.hid hTab
  have HT := Lib.hid hT
  have HP := Lib.hid hp
  have HO := Lib.hid hO
  have HYS := Lib.hid hys
  have hcnt := Tr.F.cnt_le ks
  have hcT : ks.cnt ≤ 1000000 := by have := HTL.out; omega
  have HOC0 : Hid (One w.heap.size 82 (.pointer (some ⟨c, 0, none⟩)) (w.alloc (.cells #[.pointer (some ⟨c, 0, none⟩)] 82))) := Lib.hid (one_alloc _ _ _)
  have HOI0 : ∀ ep : Option Addr, Hid (One (w.heap.size + 1) 76 (.pointer ep) ((w.alloc (.cells #[.pointer (some ⟨c, 0, none⟩)] 82)).alloc (.cells #[.pointer ep] 76))) := fun ep => Lib.hid (by
    have := one_alloc (w.alloc (.cells #[.pointer (some ⟨c, 0, none⟩)] 82)) 76 (.pointer ep)
    rw [show (w.alloc (.cells #[.pointer (some ⟨c, 0, none⟩)] 82)).heap.size = w.heap.size + 1 by simp] at this
    exact this)
  have hmf : ∀ (fn : Fn) (first cap : Array Value) (w : World), (Instr.makeFunc fn first cap).run Tryz.prog w = .ok (.func fn first cap) w := fun _ _ _ _ => rfl
  clear hTab hT hp hO hys
  have HND : Hid (Nodes w tv T) := Lib.hid (hN.later hB)
  have hpT : p < T.length := (List.getElem?_eq_some_iff.1 hx).1
  have HC := Lib.hid hC
  have HE := Lib.hid hE
  have HBW := Lib.hid hB
  have HXX := Lib.hid hx
  obtain ⟨ep, rfl⟩ := hE.shape
  have hb2 : Below w.heap.size w ((w.alloc (.cells #[.pointer (some ⟨c, 0, none⟩)] 82)).alloc (.cells #[.pointer ep] 76)) := ((Below.refl _ _).alloc (Nat.le_refl _) _).alloc (by simp) _
  obtain ⟨A, C, rfl, hlc, hNN⟩ := HND.out.later hb2
  obtain ⟨b, off, rfl, hM⟩ := hNN (by omega)
  obtain ⟨n0, n1, n2, n3, n4, n5, n6, n7⟩ := hM.at_ hx
  have c0 := (hC.later hb2).c0
  have hb3 := hb2.alloc (by simp; omega) (.cells #[.int .i8 x.kind, .int .i64 x.kids, .int .i64 x.n, .string x.s, .string x.t, .string x.u, .int .i64 x.line, .int .i64 x.col] 38)
  have HB3 := Lib.hid hb3
  have c03 := (hC.later hb3).c0
  have HBX : Hid (Box (w.heap.size + 2) x (((w.alloc (.cells #[.pointer (some ⟨c, 0, none⟩)] 82)).alloc (.cells #[.pointer ep] 76)).alloc (.cells #[.int .i8 x.kind, .int .i64 x.kids, .int .i64 x.n, .string x.s, .string x.t, .string x.u, .int .i64 x.line, .int .i64 x.col] 38))) := Lib.hid (by
    have := (MapKept.heap_alloc ((w.alloc (.cells #[.pointer (some ⟨c, 0, none⟩)] 82)).alloc (.cells #[.pointer ep] 76)) (.cells #[.int .i8 x.kind, .int .i64 x.kids, .int .i64 x.n, .string x.s, .string x.t, .string x.u, .int .i64 x.line, .int .i64 x.col] 38 (0, 0))).1
    have e : ((w.alloc (.cells #[.pointer (some ⟨c, 0, none⟩)] 82)).alloc (.cells #[.pointer ep] 76)).heap.size = w.heap.size + 2 := by simp
    rw [e] at this
    exact this)
  have HK := Lib.hid hk
  have HEF := Lib.hid hEF
  clear hM hNN hE hC hB hk hx hb2 hb3 hEF
  go_enter Tryz.func63, Tryz.ntmps63
  go_wp2_with fail
  refine (HKD.out _ HB3.out).mono ?_
  rintro e w4 ⟨kv, rfl, hown, hb4⟩
  rw [HKS.out, Tr.F.places_len] at hown
  obtain ⟨w3n, hown⟩ : ∃ m, w4.ownsRow m 3 1 kv ks.cnt ((ks.places (p + 1)).map natV) := ⟨_, hown⟩
  have HKW := Lib.hid hown
  obtain ⟨Ak, ck, rfl⟩ := own_shape hown
  have HB4 := Lib.hid (below_later hb4 HB3.out)
  have HOC4 : Hid (One w.heap.size 82 (.pointer (some ⟨c, 0, none⟩)) w4) := Lib.hid ((hb4.block _ (by first | (simp; done) | (simp; omega))).trans ((((Below.refl _ _).alloc (Nat.le_refl _) _).alloc (by simp) _).block _ (by simp)|>.trans HOC0.out))
  have HOI4 : Hid (One (w.heap.size + 1) 76 (.pointer ep) w4) := Lib.hid ((hb4.block _ (by first | (simp; done) | (simp; omega))).trans (((Below.refl _ _).alloc (Nat.le_refl _) _).block _ (by simp)|>.trans (HOI0 ep).out))
  have HBX4 : Hid (Box (w.heap.size + 2) x w4) := Lib.hid ((hb4.block _ HBX.out.lt).trans HBX.out)
  have HL0 : Hid (Loop T (.slice (some ⟨b, off, none⟩) T.length C) c B x ks post p (fun j => Tr.innerT x j env) (fun k => if k < 2 then env else (x.s, Tr.noteT x.t) :: env) yv w ys a w.heap.size (w.heap.size + 1) (w.heap.size + 2) (.slice Ak ks.cnt ck) w3n 0 ks (pre ++ [x]) (.ok []) ys ep w4) := Lib.hid {
    eq := by rw [HT.out]; simp
    ok := HO.out.2.1
    hgt := Nat.le_refl _
    places := fun j => by rw [List.length_append, HP.out, Nat.zero_add]; rfl
    good := Tr.good_ok _
    rest := by
      rw [List.length_append, HP.out]
      show (Tr.chk false ks _ 0 (p + 1)).map ([] ++ ·) = _
      cases Tr.chk false ks (fun j => Tr.innerT x j env) 0 (p + 1) <;> rfl
    laid := fun K hK => by injection hK with hK; subst hK; exact ⟨fun b hb => by simp at hb, fun b hb => by simp at hb⟩
    same := ⟨rfl, fun _ _ => rfl⟩
    long := by rw [List.length_append, HP.out]; exact Nat.le_refl _
    ck := HC.out.later HB4.out
    kept := KeepN.of c _ HB4.out
    oc := HOC4.out
    oi := HOI4.out
    env := HE.out.later HB4.out
    box := HBX4.out
    kids := HKW.out }
  clear hown hb4 n0 n1 n2 n3 n4 n5 n6 n7 c0 c03 HKD HKS HB3 HBX HOC0 HOI0 HOC4 HOI4 HBX4 HKW
  go_wp2_with fail
  go_loopw [49] (fun i wr => ∃ (k : Nat) (r : Tr.F) (pr : List Nd) (R : Except Tr.Bad (List (Nat × List Ty))) (yr : List ByteArray) (iv : Option Addr), i = .int .i64 k ∧ k + r.cnt = ks.cnt ∧ Hid (Loop T (.slice (some ⟨b, off, none⟩) T.length C) c B x ks post p (fun j => Tr.innerT x j env) (fun k => if k < 2 then env else (x.s, Tr.noteT x.t) :: env) yv w ys a w.heap.size (w.heap.size + 1) (w.heap.size + 2) (.slice Ak ks.cnt ck) w3n k r pr R yr iv wr)) (fun i _ => ks.cnt - (intOf i).toNat)
  case atStart => exact ⟨0, ks, pre ++ [x], .ok [], ys, ep, rfl, by omega, HL0⟩
  case round =>
    clear HL0 HB4 hown
    obtain ⟨k, r, pr, R, yr, iv, rfl, hk, HL⟩ := hrel
    have HWr := Lib.hid (HL.out.ck.base HL.out.kept HBW.out hcW hBW)
    have HTBr := Lib.hid (HTB.out.later HWr.out)
    have oc := HL.out.oc.cell
    have h56 : ¬ (x.kind = 5 ∨ x.kind = 6) := by omega
    have H56 := Lib.hid h56
    clear h56
    cases r with
    | nil =>
      have hkc : k = ks.cnt := by simp only [Tr.F.cnt] at hk; omega
      subst hkc
      cases R with
      | error bb =>
        have c2 : wr.cell? ⟨c, 2, none⟩ = some (.int .i64 bb.1) := HL.out.ck.c2
        have q : (bb.1 != 0) = true := by
          have := HL.out.good bb rfl
          simpa using this
        have HR := Lib.hid (HL.out.bad (s := ByteArray.empty) H56.out HTL.out)
        clear hk
        go_wp2_with fail
        go_ret
        exact HR.out
      | ok K =>
        have c2 : wr.cell? ⟨c, 2, none⟩ = some (.int .i64 0) := HL.out.ck.c2
        have x0 : wr.cell? ⟨w.heap.size + 1 + 1, 0, none⟩ = some (.int .i8 x.kind) := HL.out.box.cell 0
        have x1 : wr.cell? ⟨w.heap.size + 1 + 1, 1, none⟩ = some (.int .i64 x.kids) := HL.out.box.cell 1
        have x2 : wr.cell? ⟨w.heap.size + 1 + 1, 2, none⟩ = some (.int .i64 x.n) := HL.out.box.cell 2
        have x3 : wr.cell? ⟨w.heap.size + 1 + 1, 3, none⟩ = some (.string x.s) := HL.out.box.cell 3
        have x4 : wr.cell? ⟨w.heap.size + 1 + 1, 4, none⟩ = some (.string x.t) := HL.out.box.cell 4
        have x5 : wr.cell? ⟨w.heap.size + 1 + 1, 5, none⟩ = some (.string x.u) := HL.out.box.cell 5
        have x6 : wr.cell? ⟨w.heap.size + 1 + 1, 6, none⟩ = some (.int .i64 x.line) := HL.out.box.cell 6
        have x7 : wr.cell? ⟨w.heap.size + 1 + 1, 7, none⟩ = some (.int .i64 x.col) := HL.out.box.cell 7
        have HA : Hid (Calls Tryz.prog 113 #[.pointer (some ⟨c, 0, none⟩), .int .i64 (p : Int), .agg #[.int .i8 x.kind, .int .i64 x.kids, .int .i64 x.n, .string x.s, .string x.t, .string x.u, .int .i64 x.line, .int .i64 x.col], .slice Ak ks.cnt ck] wr (RuleP c B (.slice (some ⟨b, off, none⟩) T.length C) yv ys a p (1 + ks.flat.length) (Tr.ruleT x ks env p) w)) := Lib.hid (HL.out.asked hm h0 HO.out.1 HTL.out hTl HTBr.out rfl)
        clear hk
        go_wp2_with fail
        refine HA.out.mono ?_
        rintro E w5 hr
        have HR := Lib.hid hr
        obtain ⟨s, ys', rfl, _⟩ := hr
        clear x0 x1 x2 x3 x4 x5 x6 x7 c2 oc
        go_wp2_with fail
        go_ret
        exact HR.out
    | cons y ky r' =>
      have hkl : k < ks.cnt := by simp only [Tr.F.cnt] at hk; omega
      have hk' : k + 1 + r'.cnt = ks.cnt := by simp only [Tr.F.cnt] at hk; omega
      obtain ⟨gk, _, e1, _, _, _, _, hc⟩ := own_read HL.out.kids (by omega)
      simp only [Value.slice.injEq] at e1
      obtain ⟨rfl, _, rfl⟩ := e1
      have xk : wr.cell? ⟨gk, k, none⟩ = some (.int .i64 ((pr.length : Nat) : Int)) := hc k _ (by
        have h2 : (ks.places (p + 1))[k]? = some pr.length := (HL.out.places 0).symm
        rw [List.getElem?_map, h2]; rfl)
      have oi := HL.out.oi.cell
      have x0 : wr.cell? ⟨w.heap.size + 1 + 1, 0, none⟩ = some (.int .i8 x.kind) := HL.out.box.cell 0
      clear hc hk
      by_cases hk1 : k = 1
      ·
        have q1 : ((k : Int) == 1) = true := by rw [hk1]; rfl
        have HK1 := Lib.hid hk1
        have x3 : wr.cell? ⟨w.heap.size + 1 + 1, 3, none⟩ = some (.string x.s) := HL.out.box.cell 3
        have x4 : wr.cell? ⟨w.heap.size + 1 + 1, 4, none⟩ = some (.string x.t) := HL.out.box.cell 4
        have HEK : Hid (EnvIs wr (.pointer iv) env) := Lib.hid (by have := HL.out.env; rw [if_pos (by omega)] at this; exact this)
        have HOI := Lib.hid HL.out.oi
        have hoiL := (Array.getElem?_eq_some_iff.1 HL.out.oi).1
        clear hk1
        go_wp2_with fail
        have HWT := Lib.hid (fun w' h => with_any (.pointer iv) env x.s (Tr.noteT x.t) w' h)
        refine wp_region_still_tail 6 (by kernel_rfl) (by kernel_rfl) ?_
        simp only [List.take_succ_cons, List.take_zero, List.drop_succ_cons, List.drop_zero]
        repeat still_step
        still_call ((HU.out _).mono fun e w' h => ⟨h.1, h.2.symm⟩)
        refine wpStill_nil ?_
        change wpList _ _ _ _ _ wr.drew
        go_wp2_with fail
        refine (HWT.out _ (HEK.out.later (below_dn wr 1))).mono ?_
        rintro E w5 ⟨v5, rfl, hE5, hb5⟩
        obtain ⟨iv5, rfl⟩ := hE5.shape
        have hb7 : Below wr.heap.size wr w5 := below_later hb5 (below_dn wr 1)
        have HOI5 : One (w.heap.size + 1) 76 (.pointer iv) w5 := (hb7.block _ hoiL).trans HOI.out
        have HLN := Lib.hid (HL.out.bind (EB' := fun _ => (x.s, Tr.noteT x.t) :: env) hb7 (by omega) hE5 (by omega) (by omega))
        have oi5 := HOI5.cell
        have of5 := HOI5.free
        clear hE5 hb5 hb7 HOI5 x0 x3 x4 xk oi oc HL HEK HOI hoiL HWr HTBr
        go_wp2_with fail
        clear oi5 of5
        generalize w5.setCell ⟨w.heap.size + 1, 0, none⟩ (.pointer iv5) = w6 at *
        have HW6 := Lib.hid (HLN.out.ck.base HLN.out.kept HBW.out hcW hBW)
        have oc := HLN.out.oc.cell
        have oi := HLN.out.oi.cell
        have xk := HLN.out.kid
        have x0 := xk
        have HNX : Hid (EnvIs w6 (.pointer iv5) ((x.s, Tr.noteT x.t) :: env)) := Lib.hid HLN.out.env
        have HNY := HNX
        have HGE : Hid (Tr.innerT x k env = (x.s, Tr.noteT x.t) :: env) := Lib.hid (by rw [HK1.out]; exact HIN1.out)
        have HEG : Hid (EnvFits ((x.s, Tr.noteT x.t) :: env)) := Lib.hid (HEF.out.cons HMF.out)
        have HCS : ∀ {R : Except Tr.Bad (List (Nat × List Ty))} {pr : List Nd} {yr : List ByteArray} {iv : Option Addr} {wr : World}, Hid (Loop T (.slice (some ⟨b, off, none⟩) T.length C) c B x ks post p (fun j => Tr.innerT x j env) (fun _ => (x.s, Tr.noteT x.t) :: env) yv w ys a w.heap.size (w.heap.size + 1) (w.heap.size + 2) (.slice (some ⟨gk, 0, none⟩) ks.cnt ck) w3n (k + 1) r' pr R yr iv wr) → Hid (Loop T (.slice (some ⟨b, off, none⟩) T.length C) c B x ks post p (fun j => Tr.innerT x j env) (fun k => if k < 2 then env else (x.s, Tr.noteT x.t) :: env) yv w ys a w.heap.size (w.heap.size + 1) (w.heap.size + 2) (.slice (some ⟨gk, 0, none⟩) ks.cnt ck) w3n (k + 1) r' pr R yr iv wr) := fun h => Lib.hid (h.out.cast (by rw [if_neg (by have := HK1.out; omega)]))
        cases R with
        | error bb =>
          have HS := Lib.hid (check_skip c B bb.2 (.slice (some ⟨b, off, none⟩) T.length C) yv yr bb.1 (HLN.out.good bb rfl) w6 HLN.out.ck pr.length w.heap.size (w.heap.size + 1) oc)
          have HL2 := Lib.hid (HLN.out.skip HNY.out)
          generalize pr.length = pl at *
          go_wp2_with fail
          refine HS.out.mono ?_
          rintro E w5 ⟨rfl, rfl⟩
          clear x0 xk oi oc
          go_wp2_with fail
          go_roundw
          case rel => exact ⟨k + 1, r', _, _, yr, iv5, by go_num, hk', HCS HL2⟩
          case measure => simp [intOf]; omega
        | ok K =>
          have hc2 : w6.cell? ⟨c, 2, none⟩ = some (.int .i64 0) := HLN.out.ck.c2
          have hG := HGE.out
          have HP := hup y ky pr (r'.flat ++ post) pr.length (Tr.innerT x k env) (.pointer iv5) yv w6 yr a (by have := HLN.out.hgt; simp only [Tr.F.hgt] at this; omega) (by rw [HLN.out.eq]; simp [Tr.F.flat]) rfl ⟨HLN.out.ok.1, HLN.out.ok.2.1, trivial⟩ HW6.out (by rw [hG]; exact HNX.out) (by rw [hG]; exact HEG.out) (HLN.out.same.1.trans HYS.out) HLN.out.ck
          have HS := Lib.hid (check_go c _ (fun E w' h => by obtain ⟨s, _, h1, _⟩ := h; exact ⟨s, h1⟩) w6 pr.length w.heap.size (w.heap.size + 1) iv5 oc oi hc2 HP)
          have HL2 := Lib.hid (fun s w' hp => HLN.out.step (s := s) (w' := w') hp HNY.out)
          clear HP hc2 hG
          go_wp2_with fail
          refine HS.out.mono ?_
          rintro E w5 ⟨rfl, s, hp⟩
          obtain ⟨yr', HL3⟩ := HL2.out s w5 hp
          have HL3 := Lib.hid HL3
          clear hp HS HL2 x0 xk oi oc
          go_wp2_with fail
          go_roundw
          case rel => exact ⟨k + 1, r', _, _, yr', iv5, by go_num, hk', HCS HL3⟩
          case measure => simp [intOf]; omega
      ·
        have q1 : ((k : Int) == 1) = false := beq_no (by omega)
        have hk0 : k = 0 := by have := HC2.out; omega
        have HNX : Hid (EnvIs wr (.pointer iv) env) := Lib.hid (by have := HL.out.env; rw [if_pos (by omega)] at this; exact this)
        have HNY : Hid (EnvIs wr (.pointer iv) ((fun k => if k < 2 then env else (x.s, Tr.noteT x.t) :: env) (k + 1))) := Lib.hid (by show EnvIs wr _ (if k + 1 < 2 then env else _); rw [if_pos (by omega)]; exact HNX.out)
        have HGE : Hid (Tr.innerT x k env = env) := Lib.hid (by rw [hk0]; exact HIN0.out)
        have HEG := HEF
        clear hk1 hk0
        cases R with
        | error bb =>
          have HS := Lib.hid (check_skip c B bb.2 (.slice (some ⟨b, off, none⟩) T.length C) yv yr bb.1 (HL.out.good bb rfl) wr HL.out.ck pr.length w.heap.size (w.heap.size + 1) oc)
          have HL2 := Lib.hid (HL.out.skip HNY.out)
          generalize pr.length = pl at *
          go_wp2_with fail
          refine HS.out.mono ?_
          rintro E w5 ⟨rfl, rfl⟩
          clear x0 xk oi oc
          go_wp2_with fail
          go_roundw
          case rel => exact ⟨k + 1, r', _, _, yr, iv, by go_num, hk', id HL2⟩
          case measure => simp [intOf]; omega
        | ok K =>
          have hc2 : wr.cell? ⟨c, 2, none⟩ = some (.int .i64 0) := HL.out.ck.c2
          have hG := HGE.out
          have HP := hup y ky pr (r'.flat ++ post) pr.length (Tr.innerT x k env) (.pointer iv) yv wr yr a (by have := HL.out.hgt; simp only [Tr.F.hgt] at this; omega) (by rw [HL.out.eq]; simp [Tr.F.flat]) rfl ⟨HL.out.ok.1, HL.out.ok.2.1, trivial⟩ HWr.out (by rw [hG]; exact HNX.out) (by rw [hG]; exact HEG.out) (HL.out.same.1.trans HYS.out) HL.out.ck
          have HS := Lib.hid (check_go c _ (fun E w' h => by obtain ⟨s, _, h1, _⟩ := h; exact ⟨s, h1⟩) wr pr.length w.heap.size (w.heap.size + 1) iv oc oi hc2 HP)
          have HL2 := Lib.hid (fun s w' hp => HL.out.step (s := s) (w' := w') hp HNY.out)
          clear HP hc2 hG
          go_wp2_with fail
          refine HS.out.mono ?_
          rintro E w5 ⟨rfl, s, hp⟩
          obtain ⟨yr', HL3⟩ := HL2.out s w5 hp
          have HL3 := Lib.hid HL3
          clear hp HS HL2 x0 xk oi oc
          go_wp2_with fail
          go_roundw
          case rel => exact ⟨k + 1, r', _, _, yr', iv, by go_num, hk', id HL3⟩
          case measure => simp [intOf]; omega
end
end Go.Proofs.YtdfadmhomjcmeaaGreatDoor
