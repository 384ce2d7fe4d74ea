
/- Walks of the document's checker: any part. -/
import Derived.Test.YtdobaililmkkcaaGreatDoorMg
import Derived.Test.YtdobaililmkkcaaGreatDoorTrW
import Derived.Test.YtdobaililmkkcaaGreatDoorKx
import Derived.Test.YtdobaililmkkcaaGreatDoorKz
import Derived.Test.YtdobaililmkkcaaGreatDoorTrK
import Derived.StillTailTactics
namespace Culp.Tr
set_option linter.unusedSimpArgs false
set_option linter.unusedVariables false
open Go
theorem F.hgt_le : ∀ f : F, f.hgt ≤ f.flat.length
  | .nil => Nat.le_refl _
  | .cons x ks r => by
    have h1 := F.hgt_le ks
    have h2 := F.hgt_le r
    simp only [F.hgt, F.flat, List.length_cons, List.length_append]
    omega
theorem innerT_len (x : Nd) (k : Nat) (env : Env) : (innerT x k env).length ≤ env.length + 2 := by
  unfold innerT
  split
  · simp
  · split
    · split <;> simp
    · split <;> simp
/-- One part, step by step. -/
theorem chk1_steps (same : Bool) (x : Nd) (ks : F) (env : Env) (p : Nat) : chk1 same x ks env p =
  match (if x.kind = 5 ∨ x.kind = 6 then (sizeT p (.fn (noteT x.t) (noteT x.u))).map fun _ => () else .ok ()) with
    | .error b => .error b
    | .ok _ => match chk same ks (fun j => innerT x j env) 0 (p + 1) with
      | .error b => .error b
      | .ok K => match nodeT same x env p (K.map fun a => (a.1, a.2.headD .dyn)) with
        | .error b => .error b
        | .ok t => (sizeT p t).map fun t => t :: (K.map Prod.snd).flatten := by
  unfold chk1
  simp only [chk]
  generalize (if x.kind = 5 ∨ x.kind = 6 then (sizeT p (.fn (noteT x.t) (noteT x.u))).map fun _ => () else .ok () : Except Bad Unit) = A
  cases A with
  | error b => rfl
  | ok _ =>
    simp only []
    generalize chk same ks (fun j => innerT x j env) 0 (p + 1) = K
    cases K with
    | error b => rfl
    | ok K =>
      simp only []
      generalize nodeT same x env p (K.map fun a => (a.1, a.2.headD .dyn)) = t
      cases t with
      | error b => rfl
      | ok t =>
        simp only []
        cases sizeT p t with
        | error b => rfl
        | ok u => simp [Except.map]
theorem chk_firstG (same : Bool) (y : Nd) (ky r : F) (g : Nat → Env) (k q : Nat) : chk same (.cons y ky r) g k q = match chk1 same y ky (g k) q with
    | .error b => .error b
    | .ok ts => (chk same r g (k + 1) (q + 1 + ky.flat.length)).map fun R => (q, ts) :: R := by
  unfold chk1
  simp only [chk]
  generalize (if y.kind = 5 ∨ y.kind = 6 then (sizeT q (.fn (noteT y.t) (noteT y.u))).map fun _ => () else .ok () : Except Bad Unit) = A
  cases A with
  | error b => rfl
  | ok _ =>
    simp only []
    generalize chk same ky (fun j => innerT y j (g k)) 0 (q + 1) = K
    cases K with
    | error b => rfl
    | ok K =>
      simp only []
      generalize nodeT same y (g k) q (K.map fun a => (a.1, a.2.headD .dyn)) = t
      cases t with
      | error b => rfl
      | ok t =>
        simp only []
        cases sizeT q t with
        | error b => rfl
        | ok u =>
          simp only [List.map_cons, List.map_nil, List.flatten_cons, List.flatten_nil, List.append_nil]
          cases chk same r g (k + 1) (q + 1 + ky.flat.length) <;> rfl
def restG (same : Bool) (R : Except Bad (List (Nat × List Ty))) (r : F) (G : Nat → Env) (k q : Nat) : Except Bad (List (Nat × List Ty)) := match R with
  | .error b => .error b
  | .ok K => (chk same r G k q).map (K ++ ·)
theorem restG_cons {same : Bool} {R : Except Bad (List (Nat × List Ty))} {y : Nd} {ky r : F} {G : Nat → Env} {k q : Nat} : restG same R (.cons y ky r) G k q = restG same (nextR R q (chk1 same y ky (G k) q)) r G (k + 1) (q + 1 + ky.flat.length) := by
  cases R with
  | error b => rfl
  | ok K =>
    unfold restG nextR
    rw [chk_firstG]
    cases chk1 same y ky (G k) q with
    | error b => rfl
    | ok ts =>
      simp only []
      cases chk same r G (k + 1) (q + 1 + ky.flat.length) <;> simp [Except.map]
theorem restG_nil {same : Bool} {R : Except Bad (List (Nat × List Ty))} {G : Nat → Env} {k q : Nat} : restG same R .nil G k q = R := by
  cases R with
  | error b => rfl
  | ok K => simp [restG, chk, Except.map]
end Culp.Tr
namespace Go.Proofs.YtdobaililmkkcaaGreatDoor
set_option linter.unusedSimpArgs false
set_option linter.unusedVariables false
open Go.RowKit Go.Maps Culp
/-- What a part's check does. -/
def RkPart (c B : Nat) (sm : Bool) (tv yv : Value) (ys : List ByteArray) (a p m : Nat) (R : Except Tr.Bad (List Ty)) (w : World) (E : Ending) (w' : World) : Prop :=
  ∃ (ys' : List ByteArray), E = .returned (.tuple #[]) ∧ RkAt c B sm tv yv ys' (Tr.stE R) (Tr.stA a R) w' ∧ KeepN c yv.ownBlock w w' ∧ Tr.Good R ∧ Tr.SameB p (p + m) ys ys' ∧ ∀ ts, R = .ok ts → Tr.LaidK ys' [(p, ts)] ∧ ts.length = m
def RPartC (T : List Nd) (tv : Value) (W : World) (c B : Nat) (sm : Bool) (n : Nat) : Prop := ∀ (x : Nd) (ks : Tr.F) (pre post : List Nd) (p : Nat) (env : Tr.Env) (iv yv : Value) (Be : Nat) (w : World) (ys : List ByteArray) (a : Nat), ks.hgt < n → T = pre ++ x :: (ks.flat ++ post) → pre.length = p → (Tr.F.cons x ks .nil).Ok → Below W.heap.size W w → RkEnv Be w iv env → env.length + 2 * n ≤ 1000000000 → ys.length = T.length → RkAt c B sm tv yv ys 0 a w →
  Calls Tryz.prog 59 #[.pointer (some ⟨c, 0, none⟩), .int .i64 (p : Int), iv] w (RkPart c B sm tv yv ys a p (1 + ks.flat.length) (Tr.chk1 sm x ks env p) w)
theorem RkAt.write {c B a i g C n : Nat} {sm : Bool} {tv : Value} {ys : List ByteArray} {e : Int} {w : World} (h : RkAt c B sm tv (.slice (some ⟨g, 0, none⟩) n C) ys e a w) (hn : n = ys.length) (s : ByteArray) : RkAt c B sm tv (.slice (some ⟨g, 0, none⟩) n C) (ys.set i s) e a (w.setCell ⟨g, i, none⟩ (.string s)) := by
  subst hn
  refine ⟨?_, ?_⟩
  · rw [Below.heap_setCell _ _ _ _ (by intro e; exact h.ne (by rw [e]; rfl))]
    exact h.box
  · have := own_setv h.own i (.string s)
    rw [List.length_set, List.map_set]
    exact this
section
variable {c B a : Nat} {sm : Bool} {tv yv : Value} {ys : List ByteArray} {e : Int} {w w0 w1 W : World}
theorem RkAt.blk {g : Nat} {cs : Array Value} {t : TypeId} {fr : Nat × Nat} (h : RkAt c B sm tv yv ys e a w) (k : KeepN c yv.ownBlock w w1) (hg : w.heap[g]? = some (.cells cs t fr)) (h1 : t ≠ 91) (h2 : t ≠ 9) : w1.heap[g]? = some (.cells cs t fr) := by
  refine (k.block g (Array.getElem?_eq_some_iff.1 hg).1 ?_ ?_).trans hg
  · rintro rfl
    have := h.box
    rw [hg] at this
    simp only [Option.some.injEq, Obj.cells.injEq] at this
    exact h1 this.2.1
  · exact own_ne h.own fun cur hc => by
      rw [hg] at hc
      simp only [Option.some.injEq, Obj.cells.injEq] at hc
      exact h2 hc.2.1
theorem RkEnv.own {B : Nat} {w : World} {v : Value} {l : Tr.Env} (h : RkEnv B w v l) : RkEnv B w v l := h
theorem RkAt.rows {C m n : Nat} {v : Value} {t : TypeId} {xs : List Value} (h : RkAt c B sm tv yv ys e a w) (k : KeepN c yv.ownBlock w w1) (hk : w.ownsRow C t n v m xs) (h1 : t ≠ 91) (h2 : t ≠ 9) : w1.ownsRow C t n v m xs := by
  refine k.own hk (own_ne hk fun cur hc => ?_) fun g hg he => own_apart_type hk h.own h2 g hg he
  have := h.box
  rw [hc] at this
  simp only [Option.some.injEq, Obj.cells.injEq] at this
  exact h1 this.2.1
theorem RkAt.base (h : RkAt c B sm tv yv ys e a w0) (k : KeepN c yv.ownBlock w w1) (hb : Below W.heap.size W w) (hc : W.heap.size ≤ c) (hB : W.heap.size ≤ B) : Below W.heap.size W w1 :=
  k.below hb hb.size hc fun g hg => Nat.le_trans hB (h.own.lt g hg).1
end
/-- What is so ahead of a kid's check. -/
structure RLoop (T : List Nd) (tv : Value) (c B : Nat) (sm : Bool) (x : Nd) (ks : Tr.F) (post : List Nd) (p : Nat) (G : Nat → Tr.Env) (env : Tr.Env) (iv : Value) (Be : Nat) (yv : Value) (w : World) (ys : List ByteArray) (a bx : Nat) (kv : Value) (C0 : Nat) (k : Nat) (r : Tr.F) (pr : List Nd) (R : Except Tr.Bad (List (Nat × List Ty))) (yr : List ByteArray) (wr : World) : Prop where
  eq : T = pr ++ (r.flat ++ post)
  ok : r.Ok
  hgt : r.hgt ≤ ks.hgt
  places : ∀ j, (r.places pr.length)[j]? = (ks.places (p + 1))[k + j]?
  good : Tr.Good R
  rest : Tr.restG sm R r G k pr.length = Tr.chk sm ks G 0 (p + 1)
  laid : ∀ K, R = .ok K → Tr.LaidK yr K ∧ ∀ b ∈ K, b.1 + b.2.length ≤ pr.length
  same : Tr.SameB (p + 1) pr.length ys yr
  long : p + 1 ≤ pr.length
  ck : RkAt c B sm tv yv yr (Tr.stE R) (Tr.stA a R) wr
  kept : KeepN c yv.ownBlock w wr
  box : Box bx x wr
  kids : wr.ownsRow C0 3 1 kv ks.cnt ((ks.places (p + 1)).map natV)
  env : RkEnv Be wr iv env
section
variable {T : List Nd} {tv : Value} {c B : Nat} {sm : Bool} {x : Nd} {ks : Tr.F} {post : List Nd} {p : Nat} {G : Nat → Tr.Env} {env : Tr.Env} {iv : Value} {Be : Nat} {yv : Value} {w : World} {ys : List ByteArray} {a bx : Nat} {kv : Value} {C0 k : Nat} {y : Nd} {ky r : Tr.F} {pr : List Nd} {R : Except Tr.Bad (List (Nat × List Ty))} {yr : List ByteArray} {wr w' : World} {E : Ending}
theorem RLoop.later (h : RLoop T tv c B sm x ks post p G env iv Be yv w ys a bx kv C0 k r pr R yr wr) (hb : Below wr.heap.size wr w') : RLoop T tv c B sm x ks post p G env iv Be yv w ys a bx kv C0 k r pr R yr w' :=
  { h with
    ck := h.ck.later hb
    kept := h.kept.trans (KeepN.of c _ hb) (.inl rfl)
    box := h.box.later hb
    kids := own_later h.kids hb
    env := own_later h.env hb }
/-- A kid was not looked at. -/
theorem RLoop.skip {b : Tr.Bad} (h : RLoop T tv c B sm x ks post p G env iv Be yv w ys a bx kv C0 k (.cons y ky r) pr (.error b) yr wr) : RLoop T tv c B sm x ks post p G env iv Be yv w ys a bx kv C0 (k + 1) r (pr ++ y :: ky.flat) (.error b) yr wr where
  eq := by rw [h.eq]; simp [Tr.F.flat]
  ok := h.ok.2.2
  hgt := by have := h.hgt; simp only [Tr.F.hgt] at this; omega
  places := fun j => by
    have := h.places (j + 1)
    rw [show k + 1 + j = k + (j + 1) by omega, ← this, List.length_append, List.length_cons, show pr.length + (ky.flat.length + 1) = pr.length + 1 + ky.flat.length by omega]
    rfl
  good := h.good
  rest := h.rest
  laid := fun K hK => by cases hK
  same := ⟨h.same.1, fun i hi => h.same.2 i (by rw [List.length_append] at hi; omega)⟩
  long := by have := h.long; rw [List.length_append]; omega
  ck := h.ck
  kept := h.kept
  box := h.box
  kids := h.kids
  env := h.env
/-- A kid was checked. -/
theorem RLoop.step {K : List (Nat × List Ty)} (h : RLoop T tv c B sm x ks post p G env iv Be yv w ys a bx kv C0 k (.cons y ky r) pr (.ok K) yr wr)
    (hp : RkPart c B sm tv yv yr a pr.length (1 + ky.flat.length) (Tr.chk1 sm y ky (G k) pr.length) wr E w') : E = .returned (.tuple #[]) ∧ ∃ R' yr', RLoop T tv c B sm x ks post p G env iv Be yv w ys a bx kv C0 (k + 1) r (pr ++ y :: ky.flat) R' yr' w' := by
  have hr := h.rest
  rw [Tr.restG_cons] at hr
  obtain ⟨yr', hE, hC, hK, hG, hS, hL⟩ := hp
  have hlen : (pr ++ y :: ky.flat).length = pr.length + 1 + ky.flat.length := by rw [List.length_append, List.length_cons]; omega
  have hst : ∀ (S : Except Tr.Bad (List Ty)), Tr.stE (Tr.nextR (.ok K) pr.length S) = Tr.stE S ∧ Tr.stA a (Tr.nextR (.ok K) pr.length S) = Tr.stA a S := fun S => by cases S <;> exact ⟨rfl, rfl⟩
  generalize Tr.chk1 sm y ky (G k) pr.length = S at *
  refine ⟨hE, Tr.nextR (.ok K) pr.length S, yr', ?_⟩
  exact {
    eq := by rw [h.eq]; simp [Tr.F.flat]
    ok := h.ok.2.2
    hgt := by have := h.hgt; simp only [Tr.F.hgt] at this; omega
    places := fun j => by
      have := h.places (j + 1)
      rw [show k + 1 + j = k + (j + 1) by omega, ← this, List.length_append, List.length_cons, show pr.length + (ky.flat.length + 1) = pr.length + 1 + ky.flat.length by omega]
      rfl
    good := by
      cases S with
      | ok ts => exact Tr.good_ok _
      | error b => exact fun b' hb => hG b' (by injection hb with hb; rw [hb])
    rest := by rw [hlen]; exact hr
    laid := fun K' hK' => by
      cases S with
      | error b => cases hK'
      | ok ts =>
        injection hK' with hK'
        subst hK'
        obtain ⟨l1, l2⟩ := h.laid K rfl
        obtain ⟨h1, h2⟩ := hL ts rfl
        refine ⟨(l1.keep hS fun b hb => .inl (l2 b hb)).append h1, fun b hb => ?_⟩
        rw [hlen]
        rcases List.mem_append.1 hb with hb | hb
        · have := l2 b hb; omega
        · simp only [List.mem_singleton] at hb
          subst hb
          show pr.length + ts.length ≤ _
          omega
    same := by
      rw [hlen]
      have := h.long
      exact ⟨hS.1.trans h.same.1, fun i hi => (hS.2 i (by omega)).trans (h.same.2 i (by omega))⟩
    long := by have := h.long; rw [hlen]; omega
    ck := by rw [(hst S).1, (hst S).2]; exact hC
    kept := h.kept.trans hK (.inl rfl)
    box := h.ck.blk hK h.box (by decide) (by decide)
    kids := h.ck.rows hK h.kids (by decide) (by decide)
    env := h.ck.rows hK h.env (by decide) (by decide) }
end
theorem rPart_skip (c B : Nat) (sm : Bool) (tv yv : Value) (ys : List ByteArray) (a : Nat) (w : World) (e : Int) (he : e ≠ 0) (p : Nat) (iv : Value) (h : RkAt c B sm tv yv ys e a w) :
    Calls Tryz.prog 59 #[.pointer (some ⟨c, 0, none⟩), .int .i64 (p : Int), iv] w (Gives (.tuple #[]) w) := by
  have c2 := h.c2
  have q : (e != 0) = true := by rw [bne, beq_eq_false_iff_ne.2 he]; rfl
  clear h he
  go_enter Tryz.func59, Tryz.ntmps59
  go_wp2_with fail
  exact bodyPost_end (v := .tuple #[]) (by simp [results, Tryz.results59, go_sem]) rfl ⟨rfl, rfl⟩
section
variable {T : List Nd} {tv : Value} {c B : Nat} {sm : Bool} {x : Nd} {ks : Tr.F} {post : List Nd} {p m : Nat} {env : Tr.Env} {iv : Value} {Be : Nat} {yv : Value} {w : World} {ys : List ByteArray} {a bx : Nat} {kv : Value} {C0 k : Nat} {pr : List Nd} {K : List (Nat × List Ty)} {yr : List ByteArray} {wr w6 : World} {g C : Nat} {b : Tr.Bad} {t : Ty} {L : List Ty}
/-- Does a function's type pass? -/
def okFn (x : Nd) (p : Nat) : Except Tr.Bad Unit := if x.kind = 5 ∨ x.kind = 6 then (Tr.sizeT p (.fn (Tr.noteT x.t) (Tr.noteT x.u))).map fun _ => () else .ok ()
theorem chk1_go (hg : okFn x p = .ok ()) : Tr.chk1 sm x ks env p = match Tr.chk sm ks (fun j => Tr.innerT x j env) 0 (p + 1) with
      | .error b => .error b
      | .ok K => match Tr.nodeT sm x env p (K.map fun a => (a.1, a.2.headD .dyn)) with
        | .error b => .error b
        | .ok t => (Tr.sizeT p t).map fun t => t :: (K.map Prod.snd).flatten := by
  rw [Tr.chk1_steps]
  unfold okFn at hg
  rw [hg]
theorem chk1_stop (hg : okFn x p = .error b) : Tr.chk1 sm x ks env p = .error b := by
  rw [Tr.chk1_steps]
  unfold okFn at hg
  rw [hg]
theorem RLoop.bad (h : RLoop T tv c B sm x ks post p (fun j => Tr.innerT x j env) env iv Be yv w ys a bx kv C0 k .nil pr (.error b) yr wr) (hg : okFn x p = .ok ()) (hT : T.length = p + (1 + ks.flat.length) + post.length) : RkPart c B sm tv yv ys a p (1 + ks.flat.length) (Tr.chk1 sm x ks env p) w (.returned (.tuple #[])) wr := by
  have hr := h.rest
  rw [Tr.restG_nil] at hr
  rw [chk1_go hg, ← hr]
  have hl := congrArg List.length h.eq
  simp only [Tr.F.flat, List.nil_append, List.length_append] at hl
  exact ⟨yr, rfl, h.ck, h.kept, fun b' hb => h.good b' (by injection hb with hb; rw [hb]), ⟨h.same.1, fun i hi => h.same.2 i (by omega)⟩, fun ts hL => by cases hL⟩
theorem RLoop.ends (h : RLoop T tv c B sm x ks post p (fun j => Tr.innerT x j env) env iv Be yv w ys a bx kv C0 k .nil pr (.ok K) yr wr) (hT : T.length = p + (1 + ks.flat.length) + post.length) :
    Tr.chk sm ks (fun j => Tr.innerT x j env) 0 (p + 1) = .ok K ∧ Tr.SameB (p + 1) (p + (1 + ks.flat.length)) ys yr ∧ (∀ (j : Nat) (u : Ty), ((K.map Prod.snd).flatten)[j]? = some u → yr[p + 1 + j]? = some u.str ∧ u.fits) ∧ ((K.map Prod.snd).flatten).length + 1 = 1 + ks.flat.length := by
  have hc := h.rest
  rw [Tr.restG_nil] at hc
  have hl := congrArg List.length h.eq
  simp only [Tr.F.flat, List.nil_append, List.length_append] at hl
  have hS : Tr.SameB (p + 1) (p + (1 + ks.flat.length)) ys yr := by have := h.same; rw [show pr.length = p + (1 + ks.flat.length) by omega] at this; exact this
  have hln := Tr.F.chk_len sm ks _ 0 (p + 1) K hc.symm
  exact ⟨hc.symm, hS, Tr.laid_flat ks _ 0 (p + 1) K hc.symm (h.laid K rfl).1, by omega⟩
theorem RLoop.rule (h : RLoop T tv c B sm x ks post p (fun j => Tr.innerT x j env) env iv Be yv w ys a bx kv C0 k .nil pr (.ok K) yr wr) (hm : Tr.may x = true) (hO : (ks.cnt : Int) = x.kids) (hT : T.length = p + (1 + ks.flat.length) + post.length) (hTl : T.length ≤ 1000000) {Ak : Option Addr} {ck : Nat} (hkv : kv = .slice Ak ks.cnt ck) :
    Calls Tryz.prog 87 #[.pointer (some ⟨c, 0, none⟩), .int .i64 (p : Int), x.val, kv, iv] wr (RkRule c B sm tv yv yr a (Tr.nodeT sm x env p (K.map fun a => (a.1, a.2.headD .dyn))) wr) := by
  have hc := h.rest
  rw [Tr.restG_nil] at hc
  have hp := Tr.chk_places ks _ 0 (p + 1) K hc.symm
  have hpl := congrArg List.length hp
  rw [Tr.F.places_len, List.length_map] at hpl
  have hcl := ks.cnt_le
  have hK1 : (K.map fun a => (a.1, a.2.headD .dyn)).map Prod.fst = ks.places (p + 1) := by rw [← hp, List.map_map]; rfl
  refine rrule_any c B sm tv yv yr a wr p x env _ kv iv Be hm (by rw [List.length_map, hpl]; exact hO) h.env ?_ (h.laid K rfl).1.told (by rw [List.length_map]; omega) h.ck
  rw [hK1]
  subst hkv
  exact kids_v h.kids fun cur hcu => by
    have := h.ck.box
    rw [hcu] at this
    simp only [Option.some.injEq, Obj.cells.injEq] at this
    exact absurd this.2.1 (by decide)
theorem fin_bad (hR : Tr.chk1 sm x ks env p = .error b) (hb : b.1 ≠ 0) (hm : 1 ≤ m) (hS : Tr.SameB (p + 1) (p + m) ys yr) (h6 : RkAt c B sm tv (.slice (some ⟨g, 0, none⟩) yr.length C) yr b.1 b.2 w6) (hk : KeepN c (some g) w w6) (X : ByteArray) :
    RkPart c B sm tv (.slice (some ⟨g, 0, none⟩) yr.length C) ys a p m (Tr.chk1 sm x ks env p) w (.returned (.tuple #[])) (w6.setCell ⟨g, p, none⟩ (.string X)) := by
  rw [hR]
  refine ⟨yr.set p X, rfl, h6.write rfl X, hk.set rfl p _, fun b' h => by injection h with h; rw [← h]; exact hb, ?_, fun ts h => by cases h⟩
  have := Tr.same_set (s := X) hS
  rw [show max (p + m) (p + 1) = p + m by omega] at this
  exact this
theorem fin_ok (hR : Tr.chk1 sm x ks env p = .ok (t :: L)) (h64 : t.enc.length ≤ 64) (hS : Tr.SameB (p + 1) (p + m) ys yr) (h6 : RkAt c B sm tv (.slice (some ⟨g, 0, none⟩) yr.length C) yr 0 a w6) (hk : KeepN c (some g) w w6) (hlt : p < yr.length) (hL : ∀ (j : Nat) (u : Ty), L[j]? = some u → yr[p + 1 + j]? = some u.str ∧ u.fits) (hl : L.length + 1 = m) :
    RkPart c B sm tv (.slice (some ⟨g, 0, none⟩) yr.length C) ys a p m (Tr.chk1 sm x ks env p) w (.returned (.tuple #[])) (w6.setCell ⟨g, p, none⟩ (.string t.str)) := by
  rw [hR]
  refine ⟨yr.set p t.str, rfl, h6.write rfl _, hk.set rfl p _, Tr.good_ok _, ?_, fun ts h => ?_⟩
  · have := Tr.same_set (s := t.str) hS
    rw [show max (p + m) (p + 1) = p + m by omega] at this
    exact this
  · injection h with h
    subst h
    exact ⟨Tr.laid_set hlt h64 hL, by rw [List.length_cons]; exact hl⟩
end
section
variable (T : List Nd) (tv : Value) (W : World) (c B : Nat) (sm : Bool) (n : Nat) (hN : Nodes W tv T) (hTl : T.length ≤ 1000000) (hcW : W.heap.size ≤ c) (hBW : W.heap.size ≤ B) (hm : ∀ y ∈ T, Tr.may y = true)
include hN hTl hcW hBW hm
set_option maxRecDepth 100000 in
set_option maxHeartbeats 6400000 in
theorem rpart_plain (ih : RPartC T tv W c B sm n) : ∀ (x : Nd) (ks : Tr.F) (pre post : List Nd) (p : Nat) (env : Tr.Env) (iv yv : Value) (Be : Nat) (w : World) (ys : List ByteArray) (a : Nat), ¬ (x.kind = 5 ∨ x.kind = 6) → ks.hgt < n + 1 → T = pre ++ x :: (ks.flat ++ post) → pre.length = p → (Tr.F.cons x ks .nil).Ok → Below W.heap.size W w → RkEnv Be w iv env → env.length + 2 * (n + 1) ≤ 1000000000 → ys.length = T.length → RkAt c B sm tv yv ys 0 a w →
  Calls Tryz.prog 59 #[.pointer (some ⟨c, 0, none⟩), .int .i64 (p : Int), iv] w (RkPart c B sm tv yv ys a p (1 + ks.flat.length) (Tr.chk1 sm x ks env p) w) := by
  intro x ks pre post p env iv yv Be w ys a h56 hh hT hp hO hB hE hlen hys hC
  have HGD : Hid (okFn x p = .ok ()) := Lib.hid (by unfold okFn; rw [if_neg h56])
  have e5 : (x.kind == 5) = false := beq_eq_false_iff_ne.2 (by omega)
  have e6 : (x.kind == 6) = false := beq_eq_false_iff_ne.2 (by omega)
  have hb0 : Below w.heap.size w (w.alloc (.cells #[.int .i8 x.kind, .int .i64 x.kids, .int .i64 x.n, .string x.s, .string x.t, .string x.u, .int .i64 x.line, .int .i64 x.col] 64)) := (Below.refl _ _).alloc (Nat.le_refl _) _
  have HX1 : Hid (Box w.heap.size x (w.alloc (.cells #[.int .i8 x.kind, .int .i64 x.kids, .int .i64 x.n, .string x.s, .string x.t, .string x.u, .int .i64 x.line, .int .i64 x.col] 64))) := Lib.hid (MapKept.heap_alloc w _).1
  have HC1 := Lib.hid (hC.later hb0)
  have HE1 : Hid (RkEnv Be (w.alloc (.cells #[.int .i8 x.kind, .int .i64 x.kids, .int .i64 x.n, .string x.s, .string x.t, .string x.u, .int .i64 x.line, .int .i64 x.col] 64)) iv env) := Lib.hid (own_later hE hb0)
  have HB1 := Lib.hid hb0
  clear h56 hb0
  have hx : T[p]? = some x := by rw [hT, ← hp]; simp
  have hpT : p < T.length := (List.getElem?_eq_some_iff.1 hx).1
  have HND : Hid (Nodes w tv T) := Lib.hid (hN.later hB)
  have HC := Lib.hid hC
  have HE := Lib.hid hE
  have HBW := Lib.hid hB
  have HXX := Lib.hid hx
  have hmx : Tr.may x = true := hm x (by rw [hT]; simp)
  have HTL : Hid (T.length = p + (1 + ks.flat.length) + post.length) := Lib.hid (by rw [hT, ← hp]; simp; omega)
  have HKD := Lib.hid (fun w' (hb : Below w.heap.size w w') => rKids_any T tv (p : Int) w' ((hN.later hB).later hb) hTl)
  have HKS : Hid (Tr.kidsOf T (p : Int) = ks.places (p + 1)) := Lib.hid (by have := Tr.F.kids_at hT hO; rw [hp] at this; exact this)
  have HT := Lib.hid hT
  have HP := Lib.hid hp
  have HO := Lib.hid hO
  have HYS := Lib.hid hys
  have HLEN := Lib.hid hlen
  have hcnt := Tr.F.cnt_le ks
  have hcT : ks.cnt ≤ 1000000 := by have := HTL.out; omega
  obtain ⟨Ai, Ci, rfl⟩ := own_shape hE
  obtain ⟨A, C, rfl, hlc, hNN⟩ := HND.out
  obtain ⟨b, off, rfl, hM⟩ := hNN (by omega)
  obtain ⟨n0, n1, n2, n3, n4, n5, n6, n7⟩ := hM.at_ hx
  have c0 := hC.c0
  have c2 := hC.c2
  clear hM hNN hE hC hB hx hT hp hO hys hlen
  go_enter Tryz.func59, Tryz.ntmps59
  have c0' := HC1.out.c0
  go_wp2_with fail
  generalize (w.alloc (.cells #[.int .i8 x.kind, .int .i64 x.kids, .int .i64 x.n, .string x.s, .string x.t, .string x.u, .int .i64 x.line, .int .i64 x.col] 64)) = w1 at *
  clear n0 n1 n2 n3 n4 n5 n6 n7 c0 c2
  refine (HKD.out _ HB1.out).mono ?_
  rintro e w4 ⟨kv, rfl, hown, hb4⟩
  rw [HKS.out, Tr.F.places_len] at hown
  obtain ⟨C0, hown⟩ : ∃ m, w4.ownsRow m 3 1 kv ks.cnt ((ks.places (p + 1)).map natV) := ⟨_, hown⟩
  obtain ⟨Ak, ck, rfl⟩ := own_shape hown
  have HL0 : Hid (RLoop T (.slice (some ⟨b, off, none⟩) T.length C) c B sm x ks post p (fun j => Tr.innerT x j env) env (.slice Ai env.length Ci) Be yv w ys a w.heap.size (.slice Ak ks.cnt ck) C0 0 ks (pre ++ [x]) (.ok []) ys w4) := Lib.hid {
    eq := by rw [HT.out]; simp
    ok := HO.out.2.1
    hgt := Nat.le_refl _
    places := fun j => by rw [List.length_append, HP.out, Nat.zero_add]; rfl
    good := Tr.good_ok _
    rest := by
      rw [List.length_append, HP.out]
      show (Tr.chk sm ks _ 0 (p + 1)).map ([] ++ ·) = _
      cases Tr.chk sm ks (fun j => Tr.innerT x j env) 0 (p + 1) <;> rfl
    laid := fun K hK => by injection hK with hK; subst hK; exact ⟨fun b hb => by simp at hb, fun b hb => by simp at hb⟩
    same := ⟨rfl, fun _ _ => rfl⟩
    long := by rw [List.length_append, HP.out]; exact Nat.le_refl _
    ck := HC1.out.later hb4
    kept := KeepN.of c _ (below_later hb4 HB1.out)
    box := HX1.out.later hb4
    kids := hown
    env := own_later HE1.out hb4 }
  have hx0 : w4.cell? ⟨w.heap.size, 0, none⟩ = some (.int .i8 x.kind) := HL0.out.box.cell 0
  clear hown hb4 c0' HKD HKS HC1 HE1 HX1 HB1 hx0
  go_wp2_with fail
  go_loopw [9] (fun i wr => ∃ (k : Nat) (r : Tr.F) (pr : List Nd) (R : Except Tr.Bad (List (Nat × List Ty))) (yr : List ByteArray), i = .int .i64 k ∧ k + r.cnt = ks.cnt ∧ Hid (RLoop T (.slice (some ⟨b, off, none⟩) T.length C) c B sm x ks post p (fun j => Tr.innerT x j env) env (.slice Ai env.length Ci) Be yv w ys a w.heap.size (.slice Ak ks.cnt ck) C0 k r pr R yr wr)) (fun i _ => ks.cnt - (intOf i).toNat)
  case atStart => exact ⟨0, ks, _, _, _, by go_num, by omega, HL0⟩
  case round =>
    clear HL0
    obtain ⟨k, r, pr, R, yr, rfl, hk, HL⟩ := hrel
    have x0 : wr.cell? ⟨w.heap.size, 0, none⟩ = some (.int .i8 x.kind) := HL.out.box.cell 0
    have x1 : wr.cell? ⟨w.heap.size, 1, none⟩ = some (.int .i64 x.kids) := HL.out.box.cell 1
    have x2 : wr.cell? ⟨w.heap.size, 2, none⟩ = some (.int .i64 x.n) := HL.out.box.cell 2
    have x3 : wr.cell? ⟨w.heap.size, 3, none⟩ = some (.string x.s) := HL.out.box.cell 3
    have x4 : wr.cell? ⟨w.heap.size, 4, none⟩ = some (.string x.t) := HL.out.box.cell 4
    have x5 : wr.cell? ⟨w.heap.size, 5, none⟩ = some (.string x.u) := HL.out.box.cell 5
    have x6 : wr.cell? ⟨w.heap.size, 6, none⟩ = some (.int .i64 x.line) := HL.out.box.cell 6
    have x7 : wr.cell? ⟨w.heap.size, 7, none⟩ = some (.int .i64 x.col) := HL.out.box.cell 7
    cases r with
    | nil =>
      have hkc : k = ks.cnt := by simp only [Tr.F.cnt] at hk; omega
      subst hkc
      cases R with
      | error bb =>
        have c2 : wr.cell? ⟨c, 2, none⟩ = some (.int .i64 bb.1) := HL.out.ck.c2
        have q : (bb.1 != 0) = true := by
          have := HL.out.good bb rfl
          simpa using this
        have HR := Lib.hid (HL.out.bad HGD.out HTL.out)
        clear hk
        go_wp2_with fail
        exact bodyPost_end (v := .tuple #[]) (by simp [results, Tryz.results59, go_sem]) rfl HR.out
      | ok K =>
        have c2 : wr.cell? ⟨c, 2, none⟩ = some (.int .i64 0) := HL.out.ck.c2
        have HA : Hid (Calls Tryz.prog 87 #[.pointer (some ⟨c, 0, none⟩), .int .i64 (p : Int), .agg #[.int .i8 x.kind, .int .i64 x.kids, .int .i64 x.n, .string x.s, .string x.t, .string x.u, .int .i64 x.line, .int .i64 x.col], .slice Ak ks.cnt ck, .slice Ai env.length Ci] wr (RkRule c B sm (.slice (some ⟨b, off, none⟩) T.length C) yv yr a (Tr.nodeT sm x env p (K.map fun a => (a.1, a.2.headD .dyn))) wr)) := Lib.hid (HL.out.rule hmx HO.out.1 HTL.out hTl rfl)
        have HEN := Lib.hid (HL.out.ends HTL.out)
        have HKW := Lib.hid HL.out.kept
        have hyl : p < yr.length := by have := HL.out.same.1; have := HYS.out; omega
        have HCG := Lib.hid (chk1_go (sm := sm) (ks := ks) (env := env) HGD.out)
        rw [HEN.out.1] at HCG
        clear hk HL
        go_wp2_with fail
        refine HA.out.mono ?_
        rintro E w5 ⟨X, ⟨rfl, h5, k5⟩, hG, hX⟩
        have HK5 := Lib.hid (HKW.out.keep k5)
        have HC5 := Lib.hid h5
        clear x0 x1 x2 x3 x4 x5 x6 x7 c2 HA HKW k5
        obtain ⟨s0, hs0⟩ : ∃ s0, yr[p]? = some s0 := ⟨_, List.getElem?_eq_getElem hyl⟩
        obtain ⟨g, Cy, rfl, r0, hlt, fz⟩ := h5.read hs0
        have c1 := h5.c1
        generalize Tr.nodeT sm x env p (K.map fun a => (a.1, a.2.headD .dyn)) = NT at *
        cases NT with
        | error bb =>
          have c2 : w5.cell? ⟨c, 2, none⟩ = some (.int .i64 bb.1) := HC5.out.c2
          have q : (bb.1 == 0) = false := beq_eq_false_iff_ne.2 (hG bb rfl)
          have HR := Lib.hid (fin_bad HCG.out (hG bb rfl) (by omega) HEN.out.2.1 HC5.out HK5.out X (a := a))
          clear h5 hG hX hs0
          go_wp2_with fail
          exact bodyPost_end (v := .tuple #[]) (by simp [results, Tryz.results59, go_sem]) rfl HR.out
        | ok t =>
          have c2 : w5.cell? ⟨c, 2, none⟩ = some (.int .i64 0) := HC5.out.c2
          obtain rfl := hX t rfl
          by_cases h64 : t.enc.length ≤ 64
          · have hz : ¬ (64 < t.str.size) := by rw [str_size]; omega
            have HR := Lib.hid (fin_ok (by rw [HCG.out]; simp [Tr.sizeT, h64, Except.map]) h64 HEN.out.2.1 HC5.out HK5.out hyl HEN.out.2.2.1 HEN.out.2.2.2)
            clear h5 hG hX hs0 h64
            go_wp2_with fail
            exact bodyPost_end (v := .tuple #[]) (by simp [results, Tryz.results59, go_sem]) rfl HR.out
          · have hz : 64 < t.str.size := by rw [str_size]; omega
            have HRF := Lib.hid (rno_any c B sm _ _ yr a w5 21 p HC5.out)
            have HRS := Lib.hid (fun w6 (h6 : RkAt c B sm (.slice (some ⟨b, off, none⟩) T.length C) (.slice (some ⟨g, 0, none⟩) yr.length Cy) yr 21 p w6) (k6 : Keep c w5 w6) => fin_bad (b := (21, p)) (a := a) (by rw [HCG.out]; simp [Tr.sizeT, h64, Except.map]) (show (21 : Int) ≠ 0 by decide) (by omega) HEN.out.2.1 h6 (HK5.out.keep k6) t.str)
            have HS0 := Lib.hid hs0
            clear h5 hG hX hs0 h64 r0 fz c1
            go_wp2_with fail
            refine HRF.out.mono ?_
            rintro E w6 ⟨rfl, h6, k6⟩
            have HR := Lib.hid (HRS.out _ h6 k6)
            have c1 := h6.c1
            obtain ⟨g', Cy', e1, r0, _, fz⟩ := h6.read HS0.out
            simp only [Value.slice.injEq, Option.some.injEq, Addr.mk.injEq] at e1
            obtain ⟨⟨rfl, _, _⟩, _, rfl⟩ := e1
            clear h6 k6 HRS HRF
            go_wp2_with fail
            exact bodyPost_end (v := .tuple #[]) (by simp [results, Tryz.results59, go_sem]) rfl HR.out
    | cons y ky r' =>
      have hkl : k < ks.cnt := by simp only [Tr.F.cnt] at hk; omega
      have hk' : k + 1 + r'.cnt = ks.cnt := by simp only [Tr.F.cnt] at hk; omega
      obtain ⟨gk, _, e1, _, _, _, _, hc⟩ := own_read HL.out.kids (by omega)
      simp only [Value.slice.injEq] at e1
      obtain ⟨rfl, _, rfl⟩ := e1
      have xk : wr.cell? ⟨gk, k, none⟩ = some (.int .i64 ((pr.length : Nat) : Int)) := hc k _ (by
        have h2 : (ks.places (p + 1))[k]? = some pr.length := (HL.out.places 0).symm
        rw [List.getElem?_map, h2]; rfl)
      have HIN : Hid (∀ w', RkEnv Be w' (.slice Ai env.length Ci) env → Calls Tryz.prog 86 #[.pointer (some ⟨c, 0, none⟩), .agg #[.int .i8 x.kind, .int .i64 x.kids, .int .i64 x.n, .string x.s, .string x.t, .string x.u, .int .i64 x.line, .int .i64 x.col], .int .i64 (k : Int), .slice Ai env.length Ci] w' (InnerRes (Tr.innerT x k env) w')) := Lib.hid (fun w' h' => rinner_any c w' x k env _ Be hmx h' (by have := HLEN.out; omega))
      have HLD := Lib.hid (HL.out.later (below_dn wr 1))
      clear hc hk HL
      go_wp2_with fail
      refine wp_region_plan (S := fun w' => w'.cell? ⟨gk, k, none⟩ = some (.int .i64 ((pr.length : Nat) : Int)) ∧ w'.cell? ⟨w.heap.size, 0, none⟩ = some (.int .i8 x.kind) ∧ w'.cell? ⟨w.heap.size, 1, none⟩ = some (.int .i64 x.kids) ∧ w'.cell? ⟨w.heap.size, 2, none⟩ = some (.int .i64 x.n) ∧ w'.cell? ⟨w.heap.size, 3, none⟩ = some (.string x.s) ∧ w'.cell? ⟨w.heap.size, 4, none⟩ = some (.string x.t) ∧ w'.cell? ⟨w.heap.size, 5, none⟩ = some (.string x.u) ∧ w'.cell? ⟨w.heap.size, 6, none⟩ = some (.int .i64 x.line) ∧ w'.cell? ⟨w.heap.size, 7, none⟩ = some (.int .i64 x.col)) [(0, true), (1, true), (2, true), (3, true), (4, true), (5, true), (6, true), (7, true), (8, true), (9, false), (10, false)] (by kernel_rfl) (by kernel_rfl) (by kernel_rfl) (fun _ _ _ _ _ h => h) ⟨xk, x0, x1, x2, x3, x4, x5, x6, x7⟩ ?_
      intro HS
      repeat (first | (apply wpPlan_look; rfl; rfl; (intro wq hq; (try dsimp only at hq); go_split_ands; go_simp; (try rw [if_neg (by omega)]); (try rw [if_pos (by omega)]); try with_reducible rfl); simp only [Act.put, List.setIfInBounds_toArray, List.set_cons_zero, List.set_cons_succ]) | (apply wpPlan_skip; rfl; rfl; simp only [Act.put, List.setIfInBounds_toArray, List.set_cons_zero, List.set_cons_succ]) | (apply wpPlan_pass; rfl; rfl; assumption; simp only [Act.put, List.setIfInBounds_toArray, List.set_cons_zero, List.set_cons_succ]))
      apply wpPlan_call; rfl; rfl; rfl; rfl; kernel_rfl; exact HIN.out _ HLD.out.env; rfl; rintro E w5 ⟨v5, rfl, hE5, hb5⟩
      have HL5 := Lib.hid (HLD.out.later hb5)
      have y0 := HL5.out.box.cell 0
      have y1 := HL5.out.box.cell 1
      have y2 := HL5.out.box.cell 2
      have y3 := HL5.out.box.cell 3
      have y4 := HL5.out.box.cell 4
      have y5 := HL5.out.box.cell 5
      have y6 := HL5.out.box.cell 6
      have y7 := HL5.out.box.cell 7
      refine ⟨_, rfl, as_S ⟨cell_later hb5 HS.1, y0, y1, y2, y3, y4, y5, y6, y7⟩ ?_⟩
      have yk := cell_later hb5 HS.1
      have HE5 := Lib.hid hE5
      clear HS x0 x1 x2 x3 x4 x5 x6 x7 xk HIN HLD hb5 hE5
      intro HS
      obtain ⟨A5, C5, rfl⟩ := own_shape HE5.out
      simp only [Act.put, List.setIfInBounds_toArray, List.set_cons_zero, List.set_cons_succ]
      repeat (first | (apply wpPlan_look; rfl; rfl; (intro wq hq; (try dsimp only at hq); go_split_ands; go_simp; (try rw [if_neg (by omega)]); (try rw [if_pos (by omega)]); try with_reducible rfl); simp only [Act.put, List.setIfInBounds_toArray, List.set_cons_zero, List.set_cons_succ]) | (apply wpPlan_skip; rfl; rfl; simp only [Act.put, List.setIfInBounds_toArray, List.set_cons_zero, List.set_cons_succ]) | (apply wpPlan_pass; rfl; rfl; assumption; simp only [Act.put, List.setIfInBounds_toArray, List.set_cons_zero, List.set_cons_succ]))
      cases R with
      | error bb =>
        have HSK := Lib.hid (rPart_skip c B sm _ yv yr bb.2 w5 bb.1 (HL5.out.good bb rfl) pr.length (.slice A5 (Tr.innerT x k env).length C5) HL5.out.ck)
        have HLN := Lib.hid HL5.out.skip
        apply wpPlan_call; rfl; rfl; rfl; rfl; kernel_rfl; exact HSK.out; rfl; rintro E w6 ⟨rfl, rfl⟩
        refine ⟨_, rfl, as_S HS ?_⟩
        intro _
        clear HS HSK yk y0 y1 y2 y3 y4 y5 y6 y7 HL5 HE5
        simp only [Act.put, List.setIfInBounds_toArray, List.set_cons_zero, List.set_cons_succ]
        apply wpPlan_done
        go_wp2_with fail
        go_roundw
        case rel => exact ⟨k + 1, r', _, _, yr, by go_num, hk', HLN⟩
        case measure => simp [intOf]; omega
      | ok K =>
        have hil := Tr.innerT_len x k env
        have HP := Lib.hid (ih y ky pr (r'.flat ++ post) pr.length (Tr.innerT x k env) _ yv _ w5 yr a (by have := HL5.out.hgt; simp only [Tr.F.hgt] at this; omega) (by rw [HL5.out.eq]; simp [Tr.F.flat]) rfl ⟨HL5.out.ok.1, HL5.out.ok.2.1, trivial⟩ (HC.out.base HL5.out.kept HBW.out hcW hBW) (RkEnv.own HE5.out) (by have := HLEN.out; omega) (HL5.out.same.1.trans HYS.out) HL5.out.ck)
        have HST := Lib.hid (fun E w' hp => HL5.out.step (E := E) (w' := w') hp)
        clear hil
        apply wpPlan_call; rfl; rfl; rfl; rfl; kernel_rfl; exact HP.out; rfl; rintro E w6 hp
        obtain ⟨rfl, R', yr', hl⟩ := HST.out E w6 hp
        have HLN := Lib.hid hl
        have z0 := HLN.out.box.cell 0
        have z1 := HLN.out.box.cell 1
        have z2 := HLN.out.box.cell 2
        have z3 := HLN.out.box.cell 3
        have z4 := HLN.out.box.cell 4
        have z5 := HLN.out.box.cell 5
        have z6 := HLN.out.box.cell 6
        have z7 := HLN.out.box.cell 7
        have zk : w6.cell? ⟨gk, k, none⟩ = some (.int .i64 ((pr.length : Nat) : Int)) := by
          have h9 := own_get HLN.out.kids (i := k) (v := .int .i64 ((pr.length : Nat) : Int)) (by
            have h2 : (ks.places (p + 1))[k]? = some pr.length := (HL5.out.places 0).symm
            rw [List.getElem?_map, h2]; rfl)
          exact h9.1
        refine ⟨_, rfl, as_S ⟨zk, z0, z1, z2, z3, z4, z5, z6, z7⟩ ?_⟩
        intro _
        clear HS HP HST hp hl yk y0 y1 y2 y3 y4 y5 y6 y7 z0 z1 z2 z3 z4 z5 z6 z7 zk HL5 HE5
        simp only [Act.put, List.setIfInBounds_toArray, List.set_cons_zero, List.set_cons_succ]
        apply wpPlan_done
        go_wp2_with fail
        go_roundw
        case rel => exact ⟨k + 1, r', _, R', yr', by go_num, hk', HLN⟩
        case measure => simp [intOf]; omega
set_option maxRecDepth 100000 in
set_option maxHeartbeats 6400000 in
theorem rpart_5 (ih : RPartC T tv W c B sm n) : ∀ (x : Nd) (ks : Tr.F) (pre post : List Nd) (p : Nat) (env : Tr.Env) (iv yv : Value) (Be : Nat) (w : World) (ys : List ByteArray) (a : Nat), x.kind = 5 → ks.hgt < n + 1 → T = pre ++ x :: (ks.flat ++ post) → pre.length = p → (Tr.F.cons x ks .nil).Ok → Below W.heap.size W w → RkEnv Be w iv env → env.length + 2 * (n + 1) ≤ 1000000000 → ys.length = T.length → RkAt c B sm tv yv ys 0 a w →
  Calls Tryz.prog 59 #[.pointer (some ⟨c, 0, none⟩), .int .i64 (p : Int), iv] w (RkPart c B sm tv yv ys a p (1 + ks.flat.length) (Tr.chk1 sm x ks env p) w) := by
  intro x ks pre post p env iv yv Be w ys a h hh hT hp hO hB hE hlen hys hC
  have h56 : x.kind = 5 ∨ x.kind = 6 := .inl h
  have hmx0 : Tr.may x = true := hm x (by rw [hT]; simp)
  have m1 := (may_note hmx0).1 (by omega)
  have m2 := (may_note hmx0).2.1 (by omega)
  have HU1 := Lib.hid (r8Note_any x.t m1)
  have HU2 := Lib.hid (r8Note_any x.u m2)
  have z1 : (Tr.noteT x.t).str.size ≤ 64 := by rw [str_size]; exact m1.fits
  have z2 : (Tr.noteT x.u).str.size ≤ 64 := by rw [str_size]; exact m2.fits
  have HGO : Hid (okFn x p = (Tr.sizeT p (.fn (Tr.noteT x.t) (Tr.noteT x.u))).map fun _ => ()) := Lib.hid (by unfold okFn; rw [if_pos h56])
  have e5 : (x.kind == 5) = decide (x.kind = 5) := rfl
  rw [h] at e5
  have e5' : (x.kind == 5) = decide ((5 : Int) = 5) := by rw [h]; rfl
  have e6 : (x.kind == 6) = decide ((5 : Int) = 6) := by rw [h]; rfl
  simp only [Int.reduceEq, decide_true, decide_false] at e5' e6
  have hb0 : Below w.heap.size w (w.alloc (.cells #[.int .i8 x.kind, .int .i64 x.kids, .int .i64 x.n, .string x.s, .string x.t, .string x.u, .int .i64 x.line, .int .i64 x.col] 64)) := (Below.refl _ _).alloc (Nat.le_refl _) _
  have HX0 : Hid (Box w.heap.size x (w.alloc (.cells #[.int .i8 x.kind, .int .i64 x.kids, .int .i64 x.n, .string x.s, .string x.t, .string x.u, .int .i64 x.line, .int .i64 x.col] 64))) := Lib.hid (MapKept.heap_alloc w _).1
  have HC0 := Lib.hid (hC.later hb0)
  have HE0 : Hid (RkEnv Be (w.alloc (.cells #[.int .i8 x.kind, .int .i64 x.kids, .int .i64 x.n, .string x.s, .string x.t, .string x.u, .int .i64 x.line, .int .i64 x.col] 64)) iv env) := Lib.hid (own_later hE hb0)
  have HB0 := Lib.hid hb0
  have x4 : ((w.alloc (.cells #[.int .i8 x.kind, .int .i64 x.kids, .int .i64 x.n, .string x.s, .string x.t, .string x.u, .int .i64 x.line, .int .i64 x.col] 64))).cell? ⟨w.heap.size, 4, none⟩ = some (.string x.t) := HX0.out.cell 4
  have x5 : ((w.alloc (.cells #[.int .i8 x.kind, .int .i64 x.kids, .int .i64 x.n, .string x.s, .string x.t, .string x.u, .int .i64 x.line, .int .i64 x.col] 64))).cell? ⟨w.heap.size, 5, none⟩ = some (.string x.u) := HX0.out.cell 5
  clear h56 hb0 h e5 m1 m2 hmx0
  have hx : T[p]? = some x := by rw [hT, ← hp]; simp
  have hpT : p < T.length := (List.getElem?_eq_some_iff.1 hx).1
  have HND : Hid (Nodes w tv T) := Lib.hid (hN.later hB)
  have HC := Lib.hid hC
  have HE := Lib.hid hE
  have HBW := Lib.hid hB
  have HXX := Lib.hid hx
  have hmx : Tr.may x = true := hm x (by rw [hT]; simp)
  have HTL : Hid (T.length = p + (1 + ks.flat.length) + post.length) := Lib.hid (by rw [hT, ← hp]; simp; omega)
  have HKD := Lib.hid (fun w' (hb : Below w.heap.size w w') => rKids_any T tv (p : Int) w' ((hN.later hB).later hb) hTl)
  have HKS : Hid (Tr.kidsOf T (p : Int) = ks.places (p + 1)) := Lib.hid (by have := Tr.F.kids_at hT hO; rw [hp] at this; exact this)
  have HT := Lib.hid hT
  have HP := Lib.hid hp
  have HO := Lib.hid hO
  have HYS := Lib.hid hys
  have HLEN := Lib.hid hlen
  have hcnt := Tr.F.cnt_le ks
  have hcT : ks.cnt ≤ 1000000 := by have := HTL.out; omega
  obtain ⟨Ai, Ci, rfl⟩ := own_shape hE
  obtain ⟨A, C, rfl, hlc, hNN⟩ := HND.out
  obtain ⟨b, off, rfl, hM⟩ := hNN (by omega)
  obtain ⟨n0, n1, n2, n3, n4, n5, n6, n7⟩ := hM.at_ hx
  have c0 := hC.c0
  have c2 := hC.c2
  clear hM hNN hE hC hB hx hT hp hO hys hlen
  go_enter Tryz.func59, Tryz.ntmps59
  go_wp2_with fail
  generalize (w.alloc (.cells #[.int .i8 x.kind, .int .i64 x.kids, .int .i64 x.n, .string x.s, .string x.t, .string x.u, .int .i64 x.line, .int .i64 x.col] 64)) = wx at *
  generalize Tr.noteT x.t = S1 at *
  generalize Tr.noteT x.u = S2 at *
  have hfz : (Ty.fn S1 S2).str.size ≤ 200 := by
    have := str_size (Ty.fn S1 S2)
    rw [str_size] at z1 z2
    simp only [Ty.enc, List.length_cons, List.length_append] at this
    omega
  have hfs := fn_str S1 S2
  clear n0 n1 n2 n3 n4 n5 n6 n7 c0 c2
  refine wp_region_plan (S := fun w' => w'.cell? ⟨w.heap.size, 4, none⟩ = some (.string x.t) ∧ w'.cell? ⟨w.heap.size, 5, none⟩ = some (.string x.u)) [(0, true), (1, true), (4, true), (5, true), (2, false), (3, true), (6, false), (7, true), (8, true)] (by kernel_rfl) (by kernel_rfl) (by kernel_rfl) (fun _ _ _ _ _ h => h) ⟨x4, x5⟩ ?_
  intro HS
  repeat (first | (apply wpPlan_look; rfl; rfl; (intro wq hq; (try dsimp only at hq); go_split_ands; go_simp; (try rw [if_neg (by omega)]); (try rw [if_pos (by omega)]); try with_reducible rfl); simp only [Act.put, List.setIfInBounds_toArray, List.set_cons_zero, List.set_cons_succ]) | (apply wpPlan_skip; rfl; rfl; simp only [Act.put, List.setIfInBounds_toArray, List.set_cons_zero, List.set_cons_succ]) | (apply wpPlan_pass; rfl; rfl; assumption; simp only [Act.put, List.setIfInBounds_toArray, List.set_cons_zero, List.set_cons_succ]))
  apply wpPlan_call; rfl; rfl; rfl; rfl; kernel_rfl; exact HU1.out _; rfl; rintro E w5 ⟨rfl, rfl⟩
  refine ⟨_, rfl, as_S HS ?_⟩
  intro HS
  simp only [Act.put, List.setIfInBounds_toArray, List.set_cons_zero, List.set_cons_succ]
  repeat (first | (apply wpPlan_look; rfl; rfl; (intro wq hq; (try dsimp only at hq); go_split_ands; go_simp; (try rw [if_neg (by omega)]); (try rw [if_pos (by omega)]); try with_reducible rfl); simp only [Act.put, List.setIfInBounds_toArray, List.set_cons_zero, List.set_cons_succ]) | (apply wpPlan_skip; rfl; rfl; simp only [Act.put, List.setIfInBounds_toArray, List.set_cons_zero, List.set_cons_succ]) | (apply wpPlan_pass; rfl; rfl; assumption; simp only [Act.put, List.setIfInBounds_toArray, List.set_cons_zero, List.set_cons_succ]))
  apply wpPlan_call; rfl; rfl; rfl; rfl; kernel_rfl; exact HU2.out _; rfl; rintro E w5 ⟨rfl, rfl⟩
  refine ⟨_, rfl, as_S HS ?_⟩
  intro HS
  simp only [Act.put, List.setIfInBounds_toArray, List.set_cons_zero, List.set_cons_succ]
  repeat (first | (apply wpPlan_look; rfl; rfl; (intro wq hq; (try dsimp only at hq); go_split_ands; go_simp; (try rw [if_neg (by omega)]); (try rw [if_pos (by omega)]); try with_reducible rfl); simp only [Act.put, List.setIfInBounds_toArray, List.set_cons_zero, List.set_cons_succ]) | (apply wpPlan_skip; rfl; rfl; simp only [Act.put, List.setIfInBounds_toArray, List.set_cons_zero, List.set_cons_succ]) | (apply wpPlan_pass; rfl; rfl; assumption; simp only [Act.put, List.setIfInBounds_toArray, List.set_cons_zero, List.set_cons_succ]))
  apply wpPlan_done
  have HX1 : Hid (Box w.heap.size x wx.drew) := Lib.hid (HX0.out.later (below_dn wx 1))
  have HC1 : Hid (RkAt c B sm (.slice (some ⟨b, off, none⟩) T.length C) yv ys 0 a wx.drew) := Lib.hid (HC0.out.later (below_dn wx 1))
  have HE1 : Hid (RkEnv Be wx.drew (.slice Ai env.length Ci) env) := Lib.hid (own_later HE0.out (below_dn wx 1))
  have HB1 : Hid (Below w.heap.size w wx.drew) := Lib.hid (below_later (below_dn wx 1) HB0.out)
  clear HS HX0 HC0 HE0 HB0 x4 x5
  generalize wx.drew = w1 at *
  have c0' := HC1.out.c0
  by_cases h64 : (Ty.fn S1 S2).enc.length ≤ 64
  · have hz : ¬ (64 < (Ty.fn S1 S2).str.size) := by rw [str_size]; omega
    have HGD : Hid (okFn x p = .ok ()) := Lib.hid (by rw [HGO.out]; simp [Tr.sizeT, h64, Except.map])
    clear HGO h64
    go_wp2_with fail
    refine (HKD.out _ HB1.out).mono ?_
    rintro e w4 ⟨kv, rfl, hown, hb4⟩
    rw [HKS.out, Tr.F.places_len] at hown
    obtain ⟨C0, hown⟩ : ∃ m, w4.ownsRow m 3 1 kv ks.cnt ((ks.places (p + 1)).map natV) := ⟨_, hown⟩
    obtain ⟨Ak, ck, rfl⟩ := own_shape hown
    have HL0 : Hid (RLoop T (.slice (some ⟨b, off, none⟩) T.length C) c B sm x ks post p (fun j => Tr.innerT x j env) env (.slice Ai env.length Ci) Be yv w ys a w.heap.size (.slice Ak ks.cnt ck) C0 0 ks (pre ++ [x]) (.ok []) ys w4) := Lib.hid {
      eq := by rw [HT.out]; simp
      ok := HO.out.2.1
      hgt := Nat.le_refl _
      places := fun j => by rw [List.length_append, HP.out, Nat.zero_add]; rfl
      good := Tr.good_ok _
      rest := by
        rw [List.length_append, HP.out]
        show (Tr.chk sm ks _ 0 (p + 1)).map ([] ++ ·) = _
        cases Tr.chk sm ks (fun j => Tr.innerT x j env) 0 (p + 1) <;> rfl
      laid := fun K hK => by injection hK with hK; subst hK; exact ⟨fun b hb => by simp at hb, fun b hb => by simp at hb⟩
      same := ⟨rfl, fun _ _ => rfl⟩
      long := by rw [List.length_append, HP.out]; exact Nat.le_refl _
      ck := HC1.out.later hb4
      kept := KeepN.of c _ (below_later hb4 HB1.out)
      box := HX1.out.later hb4
      kids := hown
      env := own_later HE1.out hb4 }
    have hx0 : w4.cell? ⟨w.heap.size, 0, none⟩ = some (.int .i8 x.kind) := HL0.out.box.cell 0
    clear hown hb4 c0' HKD HKS HC1 HE1 HX1 HB1 hx0
    go_wp2_with fail
    go_loopw [9] (fun i wr => ∃ (k : Nat) (r : Tr.F) (pr : List Nd) (R : Except Tr.Bad (List (Nat × List Ty))) (yr : List ByteArray), i = .int .i64 k ∧ k + r.cnt = ks.cnt ∧ Hid (RLoop T (.slice (some ⟨b, off, none⟩) T.length C) c B sm x ks post p (fun j => Tr.innerT x j env) env (.slice Ai env.length Ci) Be yv w ys a w.heap.size (.slice Ak ks.cnt ck) C0 k r pr R yr wr)) (fun i _ => ks.cnt - (intOf i).toNat)
    case atStart => exact ⟨0, ks, _, _, _, by go_num, by omega, HL0⟩
    case round =>
      clear HL0
      obtain ⟨k, r, pr, R, yr, rfl, hk, HL⟩ := hrel
      have x0 : wr.cell? ⟨w.heap.size, 0, none⟩ = some (.int .i8 x.kind) := HL.out.box.cell 0
      have x1 : wr.cell? ⟨w.heap.size, 1, none⟩ = some (.int .i64 x.kids) := HL.out.box.cell 1
      have x2 : wr.cell? ⟨w.heap.size, 2, none⟩ = some (.int .i64 x.n) := HL.out.box.cell 2
      have x3 : wr.cell? ⟨w.heap.size, 3, none⟩ = some (.string x.s) := HL.out.box.cell 3
      have x4 : wr.cell? ⟨w.heap.size, 4, none⟩ = some (.string x.t) := HL.out.box.cell 4
      have x5 : wr.cell? ⟨w.heap.size, 5, none⟩ = some (.string x.u) := HL.out.box.cell 5
      have x6 : wr.cell? ⟨w.heap.size, 6, none⟩ = some (.int .i64 x.line) := HL.out.box.cell 6
      have x7 : wr.cell? ⟨w.heap.size, 7, none⟩ = some (.int .i64 x.col) := HL.out.box.cell 7
      cases r with
      | nil =>
        have hkc : k = ks.cnt := by simp only [Tr.F.cnt] at hk; omega
        subst hkc
        cases R with
        | error bb =>
          have c2 : wr.cell? ⟨c, 2, none⟩ = some (.int .i64 bb.1) := HL.out.ck.c2
          have q : (bb.1 != 0) = true := by
            have := HL.out.good bb rfl
            simpa using this
          have HR := Lib.hid (HL.out.bad HGD.out HTL.out)
          clear hk
          go_wp2_with fail
          exact bodyPost_end (v := .tuple #[]) (by simp [results, Tryz.results59, go_sem]) rfl HR.out
        | ok K =>
          have c2 : wr.cell? ⟨c, 2, none⟩ = some (.int .i64 0) := HL.out.ck.c2
          have HA : Hid (Calls Tryz.prog 87 #[.pointer (some ⟨c, 0, none⟩), .int .i64 (p : Int), .agg #[.int .i8 x.kind, .int .i64 x.kids, .int .i64 x.n, .string x.s, .string x.t, .string x.u, .int .i64 x.line, .int .i64 x.col], .slice Ak ks.cnt ck, .slice Ai env.length Ci] wr (RkRule c B sm (.slice (some ⟨b, off, none⟩) T.length C) yv yr a (Tr.nodeT sm x env p (K.map fun a => (a.1, a.2.headD .dyn))) wr)) := Lib.hid (HL.out.rule hmx HO.out.1 HTL.out hTl rfl)
          have HEN := Lib.hid (HL.out.ends HTL.out)
          have HKW := Lib.hid HL.out.kept
          have hyl : p < yr.length := by have := HL.out.same.1; have := HYS.out; omega
          have HCG := Lib.hid (chk1_go (sm := sm) (ks := ks) (env := env) HGD.out)
          rw [HEN.out.1] at HCG
          clear hk HL
          go_wp2_with fail
          refine HA.out.mono ?_
          rintro E w5 ⟨X, ⟨rfl, h5, k5⟩, hG, hX⟩
          have HK5 := Lib.hid (HKW.out.keep k5)
          have HC5 := Lib.hid h5
          clear x0 x1 x2 x3 x4 x5 x6 x7 c2 HA HKW k5
          obtain ⟨s0, hs0⟩ : ∃ s0, yr[p]? = some s0 := ⟨_, List.getElem?_eq_getElem hyl⟩
          obtain ⟨g, Cy, rfl, r0, hlt, fz⟩ := h5.read hs0
          have c1 := h5.c1
          generalize Tr.nodeT sm x env p (K.map fun a => (a.1, a.2.headD .dyn)) = NT at *
          cases NT with
          | error bb =>
            have c2 : w5.cell? ⟨c, 2, none⟩ = some (.int .i64 bb.1) := HC5.out.c2
            have q : (bb.1 == 0) = false := beq_eq_false_iff_ne.2 (hG bb rfl)
            have HR := Lib.hid (fin_bad HCG.out (hG bb rfl) (by omega) HEN.out.2.1 HC5.out HK5.out X (a := a))
            clear h5 hG hX hs0
            go_wp2_with fail
            exact bodyPost_end (v := .tuple #[]) (by simp [results, Tryz.results59, go_sem]) rfl HR.out
          | ok t =>
            have c2 : w5.cell? ⟨c, 2, none⟩ = some (.int .i64 0) := HC5.out.c2
            obtain rfl := hX t rfl
            by_cases h64 : t.enc.length ≤ 64
            · have hz : ¬ (64 < t.str.size) := by rw [str_size]; omega
              have HR := Lib.hid (fin_ok (by rw [HCG.out]; simp [Tr.sizeT, h64, Except.map]) h64 HEN.out.2.1 HC5.out HK5.out hyl HEN.out.2.2.1 HEN.out.2.2.2)
              clear h5 hG hX hs0 h64
              go_wp2_with fail
              exact bodyPost_end (v := .tuple #[]) (by simp [results, Tryz.results59, go_sem]) rfl HR.out
            · have hz : 64 < t.str.size := by rw [str_size]; omega
              have HRF := Lib.hid (rno_any c B sm _ _ yr a w5 21 p HC5.out)
              have HRS := Lib.hid (fun w6 (h6 : RkAt c B sm (.slice (some ⟨b, off, none⟩) T.length C) (.slice (some ⟨g, 0, none⟩) yr.length Cy) yr 21 p w6) (k6 : Keep c w5 w6) => fin_bad (b := (21, p)) (a := a) (by rw [HCG.out]; simp [Tr.sizeT, h64, Except.map]) (show (21 : Int) ≠ 0 by decide) (by omega) HEN.out.2.1 h6 (HK5.out.keep k6) t.str)
              have HS0 := Lib.hid hs0
              clear h5 hG hX hs0 h64 r0 fz c1
              go_wp2_with fail
              refine HRF.out.mono ?_
              rintro E w6 ⟨rfl, h6, k6⟩
              have HR := Lib.hid (HRS.out _ h6 k6)
              have c1 := h6.c1
              obtain ⟨g', Cy', e1, r0, _, fz⟩ := h6.read HS0.out
              simp only [Value.slice.injEq, Option.some.injEq, Addr.mk.injEq] at e1
              obtain ⟨⟨rfl, _, _⟩, _, rfl⟩ := e1
              clear h6 k6 HRS HRF
              go_wp2_with fail
              exact bodyPost_end (v := .tuple #[]) (by simp [results, Tryz.results59, go_sem]) rfl HR.out
      | cons y ky r' =>
        have hkl : k < ks.cnt := by simp only [Tr.F.cnt] at hk; omega
        have hk' : k + 1 + r'.cnt = ks.cnt := by simp only [Tr.F.cnt] at hk; omega
        obtain ⟨gk, _, e1, _, _, _, _, hc⟩ := own_read HL.out.kids (by omega)
        simp only [Value.slice.injEq] at e1
        obtain ⟨rfl, _, rfl⟩ := e1
        have xk : wr.cell? ⟨gk, k, none⟩ = some (.int .i64 ((pr.length : Nat) : Int)) := hc k _ (by
          have h2 : (ks.places (p + 1))[k]? = some pr.length := (HL.out.places 0).symm
          rw [List.getElem?_map, h2]; rfl)
        have HIN : Hid (∀ w', RkEnv Be w' (.slice Ai env.length Ci) env → Calls Tryz.prog 86 #[.pointer (some ⟨c, 0, none⟩), .agg #[.int .i8 x.kind, .int .i64 x.kids, .int .i64 x.n, .string x.s, .string x.t, .string x.u, .int .i64 x.line, .int .i64 x.col], .int .i64 (k : Int), .slice Ai env.length Ci] w' (InnerRes (Tr.innerT x k env) w')) := Lib.hid (fun w' h' => rinner_any c w' x k env _ Be hmx h' (by have := HLEN.out; omega))
        have HLD := Lib.hid (HL.out.later (below_dn wr 1))
        clear hc hk HL
        go_wp2_with fail
        refine wp_region_plan (S := fun w' => w'.cell? ⟨gk, k, none⟩ = some (.int .i64 ((pr.length : Nat) : Int)) ∧ w'.cell? ⟨w.heap.size, 0, none⟩ = some (.int .i8 x.kind) ∧ w'.cell? ⟨w.heap.size, 1, none⟩ = some (.int .i64 x.kids) ∧ w'.cell? ⟨w.heap.size, 2, none⟩ = some (.int .i64 x.n) ∧ w'.cell? ⟨w.heap.size, 3, none⟩ = some (.string x.s) ∧ w'.cell? ⟨w.heap.size, 4, none⟩ = some (.string x.t) ∧ w'.cell? ⟨w.heap.size, 5, none⟩ = some (.string x.u) ∧ w'.cell? ⟨w.heap.size, 6, none⟩ = some (.int .i64 x.line) ∧ w'.cell? ⟨w.heap.size, 7, none⟩ = some (.int .i64 x.col)) [(0, true), (1, true), (2, true), (3, true), (4, true), (5, true), (6, true), (7, true), (8, true), (9, false), (10, false)] (by kernel_rfl) (by kernel_rfl) (by kernel_rfl) (fun _ _ _ _ _ h => h) ⟨xk, x0, x1, x2, x3, x4, x5, x6, x7⟩ ?_
        intro HS
        repeat (first | (apply wpPlan_look; rfl; rfl; (intro wq hq; (try dsimp only at hq); go_split_ands; go_simp; (try rw [if_neg (by omega)]); (try rw [if_pos (by omega)]); try with_reducible rfl); simp only [Act.put, List.setIfInBounds_toArray, List.set_cons_zero, List.set_cons_succ]) | (apply wpPlan_skip; rfl; rfl; simp only [Act.put, List.setIfInBounds_toArray, List.set_cons_zero, List.set_cons_succ]) | (apply wpPlan_pass; rfl; rfl; assumption; simp only [Act.put, List.setIfInBounds_toArray, List.set_cons_zero, List.set_cons_succ]))
        apply wpPlan_call; rfl; rfl; rfl; rfl; kernel_rfl; exact HIN.out _ HLD.out.env; rfl; rintro E w5 ⟨v5, rfl, hE5, hb5⟩
        have HL5 := Lib.hid (HLD.out.later hb5)
        have y0 := HL5.out.box.cell 0
        have y1 := HL5.out.box.cell 1
        have y2 := HL5.out.box.cell 2
        have y3 := HL5.out.box.cell 3
        have y4 := HL5.out.box.cell 4
        have y5 := HL5.out.box.cell 5
        have y6 := HL5.out.box.cell 6
        have y7 := HL5.out.box.cell 7
        refine ⟨_, rfl, as_S ⟨cell_later hb5 HS.1, y0, y1, y2, y3, y4, y5, y6, y7⟩ ?_⟩
        have yk := cell_later hb5 HS.1
        have HE5 := Lib.hid hE5
        clear HS x0 x1 x2 x3 x4 x5 x6 x7 xk HIN HLD hb5 hE5
        intro HS
        obtain ⟨A5, C5, rfl⟩ := own_shape HE5.out
        simp only [Act.put, List.setIfInBounds_toArray, List.set_cons_zero, List.set_cons_succ]
        repeat (first | (apply wpPlan_look; rfl; rfl; (intro wq hq; (try dsimp only at hq); go_split_ands; go_simp; (try rw [if_neg (by omega)]); (try rw [if_pos (by omega)]); try with_reducible rfl); simp only [Act.put, List.setIfInBounds_toArray, List.set_cons_zero, List.set_cons_succ]) | (apply wpPlan_skip; rfl; rfl; simp only [Act.put, List.setIfInBounds_toArray, List.set_cons_zero, List.set_cons_succ]) | (apply wpPlan_pass; rfl; rfl; assumption; simp only [Act.put, List.setIfInBounds_toArray, List.set_cons_zero, List.set_cons_succ]))
        cases R with
        | error bb =>
          have HSK := Lib.hid (rPart_skip c B sm _ yv yr bb.2 w5 bb.1 (HL5.out.good bb rfl) pr.length (.slice A5 (Tr.innerT x k env).length C5) HL5.out.ck)
          have HLN := Lib.hid HL5.out.skip
          apply wpPlan_call; rfl; rfl; rfl; rfl; kernel_rfl; exact HSK.out; rfl; rintro E w6 ⟨rfl, rfl⟩
          refine ⟨_, rfl, as_S HS ?_⟩
          intro _
          clear HS HSK yk y0 y1 y2 y3 y4 y5 y6 y7 HL5 HE5
          simp only [Act.put, List.setIfInBounds_toArray, List.set_cons_zero, List.set_cons_succ]
          apply wpPlan_done
          go_wp2_with fail
          go_roundw
          case rel => exact ⟨k + 1, r', _, _, yr, by go_num, hk', HLN⟩
          case measure => simp [intOf]; omega
        | ok K =>
          have hil := Tr.innerT_len x k env
          have HP := Lib.hid (ih y ky pr (r'.flat ++ post) pr.length (Tr.innerT x k env) _ yv _ w5 yr a (by have := HL5.out.hgt; simp only [Tr.F.hgt] at this; omega) (by rw [HL5.out.eq]; simp [Tr.F.flat]) rfl ⟨HL5.out.ok.1, HL5.out.ok.2.1, trivial⟩ (HC.out.base HL5.out.kept HBW.out hcW hBW) (RkEnv.own HE5.out) (by have := HLEN.out; omega) (HL5.out.same.1.trans HYS.out) HL5.out.ck)
          have HST := Lib.hid (fun E w' hp => HL5.out.step (E := E) (w' := w') hp)
          clear hil
          apply wpPlan_call; rfl; rfl; rfl; rfl; kernel_rfl; exact HP.out; rfl; rintro E w6 hp
          obtain ⟨rfl, R', yr', hl⟩ := HST.out E w6 hp
          have HLN := Lib.hid hl
          have z0 := HLN.out.box.cell 0
          have z1 := HLN.out.box.cell 1
          have z2 := HLN.out.box.cell 2
          have z3 := HLN.out.box.cell 3
          have z4 := HLN.out.box.cell 4
          have z5 := HLN.out.box.cell 5
          have z6 := HLN.out.box.cell 6
          have z7 := HLN.out.box.cell 7
          have zk : w6.cell? ⟨gk, k, none⟩ = some (.int .i64 ((pr.length : Nat) : Int)) := by
            have h9 := own_get HLN.out.kids (i := k) (v := .int .i64 ((pr.length : Nat) : Int)) (by
              have h2 : (ks.places (p + 1))[k]? = some pr.length := (HL5.out.places 0).symm
              rw [List.getElem?_map, h2]; rfl)
            exact h9.1
          refine ⟨_, rfl, as_S ⟨zk, z0, z1, z2, z3, z4, z5, z6, z7⟩ ?_⟩
          intro _
          clear HS HP HST hp hl yk y0 y1 y2 y3 y4 y5 y6 y7 z0 z1 z2 z3 z4 z5 z6 z7 zk HL5 HE5
          simp only [Act.put, List.setIfInBounds_toArray, List.set_cons_zero, List.set_cons_succ]
          apply wpPlan_done
          go_wp2_with fail
          go_roundw
          case rel => exact ⟨k + 1, r', _, R', yr', by go_num, hk', HLN⟩
          case measure => simp [intOf]; omega
  · have hz : 64 < (Ty.fn S1 S2).str.size := by rw [str_size]; omega
    have HGE := Lib.hid (chk1_stop (sm := sm) (ks := ks) (env := env) (b := (21, p)) (x := x) (p := p) (by rw [HGO.out]; simp [Tr.sizeT, h64, Except.map]))
    have HRF := Lib.hid (rno_any c B sm _ yv ys a w1 21 p HC1.out)
    clear HGO h64
    go_wp2_with fail
    refine HRF.out.mono ?_
    rintro E w6 ⟨rfl, h6, k6⟩
    have HR : Hid (RkPart c B sm (.slice (some ⟨b, off, none⟩) T.length C) yv ys a p (1 + ks.flat.length) (Tr.chk1 sm x ks env p) w (.returned (.tuple #[])) w6) := Lib.hid (by
      rw [HGE.out]
      exact ⟨ys, rfl, h6, (KeepN.of c _ HB1.out).keep k6, fun b' h => by injection h with h; subst h; show (21 : Int) ≠ 0; decide, Tr.SameB.refl _ _ _, fun ts h => by cases h⟩)
    clear h6 k6
    go_wp2_with fail
    exact bodyPost_end (v := .tuple #[]) (by simp [results, Tryz.results59, go_sem]) rfl HR.out
set_option maxRecDepth 100000 in
set_option maxHeartbeats 6400000 in
theorem rpart_6 (ih : RPartC T tv W c B sm n) : ∀ (x : Nd) (ks : Tr.F) (pre post : List Nd) (p : Nat) (env : Tr.Env) (iv yv : Value) (Be : Nat) (w : World) (ys : List ByteArray) (a : Nat), x.kind = 6 → ks.hgt < n + 1 → T = pre ++ x :: (ks.flat ++ post) → pre.length = p → (Tr.F.cons x ks .nil).Ok → Below W.heap.size W w → RkEnv Be w iv env → env.length + 2 * (n + 1) ≤ 1000000000 → ys.length = T.length → RkAt c B sm tv yv ys 0 a w →
  Calls Tryz.prog 59 #[.pointer (some ⟨c, 0, none⟩), .int .i64 (p : Int), iv] w (RkPart c B sm tv yv ys a p (1 + ks.flat.length) (Tr.chk1 sm x ks env p) w) := by
  intro x ks pre post p env iv yv Be w ys a h hh hT hp hO hB hE hlen hys hC
  have h56 : x.kind = 5 ∨ x.kind = 6 := .inr h
  have hmx0 : Tr.may x = true := hm x (by rw [hT]; simp)
  have m1 := (may_note hmx0).1 (by omega)
  have m2 := (may_note hmx0).2.1 (by omega)
  have HU1 := Lib.hid (r8Note_any x.t m1)
  have HU2 := Lib.hid (r8Note_any x.u m2)
  have z1 : (Tr.noteT x.t).str.size ≤ 64 := by rw [str_size]; exact m1.fits
  have z2 : (Tr.noteT x.u).str.size ≤ 64 := by rw [str_size]; exact m2.fits
  have HGO : Hid (okFn x p = (Tr.sizeT p (.fn (Tr.noteT x.t) (Tr.noteT x.u))).map fun _ => ()) := Lib.hid (by unfold okFn; rw [if_pos h56])
  have e5 : (x.kind == 5) = decide (x.kind = 5) := rfl
  rw [h] at e5
  have e5' : (x.kind == 5) = decide ((6 : Int) = 5) := by rw [h]; rfl
  have e6 : (x.kind == 6) = decide ((6 : Int) = 6) := by rw [h]; rfl
  simp only [Int.reduceEq, decide_true, decide_false] at e5' e6
  have hb0 : Below w.heap.size w (w.alloc (.cells #[.int .i8 x.kind, .int .i64 x.kids, .int .i64 x.n, .string x.s, .string x.t, .string x.u, .int .i64 x.line, .int .i64 x.col] 64)) := (Below.refl _ _).alloc (Nat.le_refl _) _
  have HX0 : Hid (Box w.heap.size x (w.alloc (.cells #[.int .i8 x.kind, .int .i64 x.kids, .int .i64 x.n, .string x.s, .string x.t, .string x.u, .int .i64 x.line, .int .i64 x.col] 64))) := Lib.hid (MapKept.heap_alloc w _).1
  have HC0 := Lib.hid (hC.later hb0)
  have HE0 : Hid (RkEnv Be (w.alloc (.cells #[.int .i8 x.kind, .int .i64 x.kids, .int .i64 x.n, .string x.s, .string x.t, .string x.u, .int .i64 x.line, .int .i64 x.col] 64)) iv env) := Lib.hid (own_later hE hb0)
  have HB0 := Lib.hid hb0
  have x4 : ((w.alloc (.cells #[.int .i8 x.kind, .int .i64 x.kids, .int .i64 x.n, .string x.s, .string x.t, .string x.u, .int .i64 x.line, .int .i64 x.col] 64))).cell? ⟨w.heap.size, 4, none⟩ = some (.string x.t) := HX0.out.cell 4
  have x5 : ((w.alloc (.cells #[.int .i8 x.kind, .int .i64 x.kids, .int .i64 x.n, .string x.s, .string x.t, .string x.u, .int .i64 x.line, .int .i64 x.col] 64))).cell? ⟨w.heap.size, 5, none⟩ = some (.string x.u) := HX0.out.cell 5
  clear h56 hb0 h e5 m1 m2 hmx0
  have hx : T[p]? = some x := by rw [hT, ← hp]; simp
  have hpT : p < T.length := (List.getElem?_eq_some_iff.1 hx).1
  have HND : Hid (Nodes w tv T) := Lib.hid (hN.later hB)
  have HC := Lib.hid hC
  have HE := Lib.hid hE
  have HBW := Lib.hid hB
  have HXX := Lib.hid hx
  have hmx : Tr.may x = true := hm x (by rw [hT]; simp)
  have HTL : Hid (T.length = p + (1 + ks.flat.length) + post.length) := Lib.hid (by rw [hT, ← hp]; simp; omega)
  have HKD := Lib.hid (fun w' (hb : Below w.heap.size w w') => rKids_any T tv (p : Int) w' ((hN.later hB).later hb) hTl)
  have HKS : Hid (Tr.kidsOf T (p : Int) = ks.places (p + 1)) := Lib.hid (by have := Tr.F.kids_at hT hO; rw [hp] at this; exact this)
  have HT := Lib.hid hT
  have HP := Lib.hid hp
  have HO := Lib.hid hO
  have HYS := Lib.hid hys
  have HLEN := Lib.hid hlen
  have hcnt := Tr.F.cnt_le ks
  have hcT : ks.cnt ≤ 1000000 := by have := HTL.out; omega
  obtain ⟨Ai, Ci, rfl⟩ := own_shape hE
  obtain ⟨A, C, rfl, hlc, hNN⟩ := HND.out
  obtain ⟨b, off, rfl, hM⟩ := hNN (by omega)
  obtain ⟨n0, n1, n2, n3, n4, n5, n6, n7⟩ := hM.at_ hx
  have c0 := hC.c0
  have c2 := hC.c2
  clear hM hNN hE hC hB hx hT hp hO hys hlen
  go_enter Tryz.func59, Tryz.ntmps59
  go_wp2_with fail
  generalize (w.alloc (.cells #[.int .i8 x.kind, .int .i64 x.kids, .int .i64 x.n, .string x.s, .string x.t, .string x.u, .int .i64 x.line, .int .i64 x.col] 64)) = wx at *
  generalize Tr.noteT x.t = S1 at *
  generalize Tr.noteT x.u = S2 at *
  have hfz : (Ty.fn S1 S2).str.size ≤ 200 := by
    have := str_size (Ty.fn S1 S2)
    rw [str_size] at z1 z2
    simp only [Ty.enc, List.length_cons, List.length_append] at this
    omega
  have hfs := fn_str S1 S2
  clear n0 n1 n2 n3 n4 n5 n6 n7 c0 c2
  refine wp_region_plan (S := fun w' => w'.cell? ⟨w.heap.size, 4, none⟩ = some (.string x.t) ∧ w'.cell? ⟨w.heap.size, 5, none⟩ = some (.string x.u)) [(0, true), (1, true), (4, true), (5, true), (2, false), (3, true), (6, false), (7, true), (8, true)] (by kernel_rfl) (by kernel_rfl) (by kernel_rfl) (fun _ _ _ _ _ h => h) ⟨x4, x5⟩ ?_
  intro HS
  repeat (first | (apply wpPlan_look; rfl; rfl; (intro wq hq; (try dsimp only at hq); go_split_ands; go_simp; (try rw [if_neg (by omega)]); (try rw [if_pos (by omega)]); try with_reducible rfl); simp only [Act.put, List.setIfInBounds_toArray, List.set_cons_zero, List.set_cons_succ]) | (apply wpPlan_skip; rfl; rfl; simp only [Act.put, List.setIfInBounds_toArray, List.set_cons_zero, List.set_cons_succ]) | (apply wpPlan_pass; rfl; rfl; assumption; simp only [Act.put, List.setIfInBounds_toArray, List.set_cons_zero, List.set_cons_succ]))
  apply wpPlan_call; rfl; rfl; rfl; rfl; kernel_rfl; exact HU1.out _; rfl; rintro E w5 ⟨rfl, rfl⟩
  refine ⟨_, rfl, as_S HS ?_⟩
  intro HS
  simp only [Act.put, List.setIfInBounds_toArray, List.set_cons_zero, List.set_cons_succ]
  repeat (first | (apply wpPlan_look; rfl; rfl; (intro wq hq; (try dsimp only at hq); go_split_ands; go_simp; (try rw [if_neg (by omega)]); (try rw [if_pos (by omega)]); try with_reducible rfl); simp only [Act.put, List.setIfInBounds_toArray, List.set_cons_zero, List.set_cons_succ]) | (apply wpPlan_skip; rfl; rfl; simp only [Act.put, List.setIfInBounds_toArray, List.set_cons_zero, List.set_cons_succ]) | (apply wpPlan_pass; rfl; rfl; assumption; simp only [Act.put, List.setIfInBounds_toArray, List.set_cons_zero, List.set_cons_succ]))
  apply wpPlan_call; rfl; rfl; rfl; rfl; kernel_rfl; exact HU2.out _; rfl; rintro E w5 ⟨rfl, rfl⟩
  refine ⟨_, rfl, as_S HS ?_⟩
  intro HS
  simp only [Act.put, List.setIfInBounds_toArray, List.set_cons_zero, List.set_cons_succ]
  repeat (first | (apply wpPlan_look; rfl; rfl; (intro wq hq; (try dsimp only at hq); go_split_ands; go_simp; (try rw [if_neg (by omega)]); (try rw [if_pos (by omega)]); try with_reducible rfl); simp only [Act.put, List.setIfInBounds_toArray, List.set_cons_zero, List.set_cons_succ]) | (apply wpPlan_skip; rfl; rfl; simp only [Act.put, List.setIfInBounds_toArray, List.set_cons_zero, List.set_cons_succ]) | (apply wpPlan_pass; rfl; rfl; assumption; simp only [Act.put, List.setIfInBounds_toArray, List.set_cons_zero, List.set_cons_succ]))
  apply wpPlan_done
  have HX1 : Hid (Box w.heap.size x wx.drew) := Lib.hid (HX0.out.later (below_dn wx 1))
  have HC1 : Hid (RkAt c B sm (.slice (some ⟨b, off, none⟩) T.length C) yv ys 0 a wx.drew) := Lib.hid (HC0.out.later (below_dn wx 1))
  have HE1 : Hid (RkEnv Be wx.drew (.slice Ai env.length Ci) env) := Lib.hid (own_later HE0.out (below_dn wx 1))
  have HB1 : Hid (Below w.heap.size w wx.drew) := Lib.hid (below_later (below_dn wx 1) HB0.out)
  clear HS HX0 HC0 HE0 HB0 x4 x5
  generalize wx.drew = w1 at *
  have c0' := HC1.out.c0
  by_cases h64 : (Ty.fn S1 S2).enc.length ≤ 64
  · have hz : ¬ (64 < (Ty.fn S1 S2).str.size) := by rw [str_size]; omega
    have HGD : Hid (okFn x p = .ok ()) := Lib.hid (by rw [HGO.out]; simp [Tr.sizeT, h64, Except.map])
    clear HGO h64
    go_wp2_with fail
    refine (HKD.out _ HB1.out).mono ?_
    rintro e w4 ⟨kv, rfl, hown, hb4⟩
    rw [HKS.out, Tr.F.places_len] at hown
    obtain ⟨C0, hown⟩ : ∃ m, w4.ownsRow m 3 1 kv ks.cnt ((ks.places (p + 1)).map natV) := ⟨_, hown⟩
    obtain ⟨Ak, ck, rfl⟩ := own_shape hown
    have HL0 : Hid (RLoop T (.slice (some ⟨b, off, none⟩) T.length C) c B sm x ks post p (fun j => Tr.innerT x j env) env (.slice Ai env.length Ci) Be yv w ys a w.heap.size (.slice Ak ks.cnt ck) C0 0 ks (pre ++ [x]) (.ok []) ys w4) := Lib.hid {
      eq := by rw [HT.out]; simp
      ok := HO.out.2.1
      hgt := Nat.le_refl _
      places := fun j => by rw [List.length_append, HP.out, Nat.zero_add]; rfl
      good := Tr.good_ok _
      rest := by
        rw [List.length_append, HP.out]
        show (Tr.chk sm ks _ 0 (p + 1)).map ([] ++ ·) = _
        cases Tr.chk sm ks (fun j => Tr.innerT x j env) 0 (p + 1) <;> rfl
      laid := fun K hK => by injection hK with hK; subst hK; exact ⟨fun b hb => by simp at hb, fun b hb => by simp at hb⟩
      same := ⟨rfl, fun _ _ => rfl⟩
      long := by rw [List.length_append, HP.out]; exact Nat.le_refl _
      ck := HC1.out.later hb4
      kept := KeepN.of c _ (below_later hb4 HB1.out)
      box := HX1.out.later hb4
      kids := hown
      env := own_later HE1.out hb4 }
    have hx0 : w4.cell? ⟨w.heap.size, 0, none⟩ = some (.int .i8 x.kind) := HL0.out.box.cell 0
    clear hown hb4 c0' HKD HKS HC1 HE1 HX1 HB1 hx0
    go_wp2_with fail
    go_loopw [9] (fun i wr => ∃ (k : Nat) (r : Tr.F) (pr : List Nd) (R : Except Tr.Bad (List (Nat × List Ty))) (yr : List ByteArray), i = .int .i64 k ∧ k + r.cnt = ks.cnt ∧ Hid (RLoop T (.slice (some ⟨b, off, none⟩) T.length C) c B sm x ks post p (fun j => Tr.innerT x j env) env (.slice Ai env.length Ci) Be yv w ys a w.heap.size (.slice Ak ks.cnt ck) C0 k r pr R yr wr)) (fun i _ => ks.cnt - (intOf i).toNat)
    case atStart => exact ⟨0, ks, _, _, _, by go_num, by omega, HL0⟩
    case round =>
      clear HL0
      obtain ⟨k, r, pr, R, yr, rfl, hk, HL⟩ := hrel
      have x0 : wr.cell? ⟨w.heap.size, 0, none⟩ = some (.int .i8 x.kind) := HL.out.box.cell 0
      have x1 : wr.cell? ⟨w.heap.size, 1, none⟩ = some (.int .i64 x.kids) := HL.out.box.cell 1
      have x2 : wr.cell? ⟨w.heap.size, 2, none⟩ = some (.int .i64 x.n) := HL.out.box.cell 2
      have x3 : wr.cell? ⟨w.heap.size, 3, none⟩ = some (.string x.s) := HL.out.box.cell 3
      have x4 : wr.cell? ⟨w.heap.size, 4, none⟩ = some (.string x.t) := HL.out.box.cell 4
      have x5 : wr.cell? ⟨w.heap.size, 5, none⟩ = some (.string x.u) := HL.out.box.cell 5
      have x6 : wr.cell? ⟨w.heap.size, 6, none⟩ = some (.int .i64 x.line) := HL.out.box.cell 6
      have x7 : wr.cell? ⟨w.heap.size, 7, none⟩ = some (.int .i64 x.col) := HL.out.box.cell 7
      cases r with
      | nil =>
        have hkc : k = ks.cnt := by simp only [Tr.F.cnt] at hk; omega
        subst hkc
        cases R with
        | error bb =>
          have c2 : wr.cell? ⟨c, 2, none⟩ = some (.int .i64 bb.1) := HL.out.ck.c2
          have q : (bb.1 != 0) = true := by
            have := HL.out.good bb rfl
            simpa using this
          have HR := Lib.hid (HL.out.bad HGD.out HTL.out)
          clear hk
          go_wp2_with fail
          exact bodyPost_end (v := .tuple #[]) (by simp [results, Tryz.results59, go_sem]) rfl HR.out
        | ok K =>
          have c2 : wr.cell? ⟨c, 2, none⟩ = some (.int .i64 0) := HL.out.ck.c2
          have HA : Hid (Calls Tryz.prog 87 #[.pointer (some ⟨c, 0, none⟩), .int .i64 (p : Int), .agg #[.int .i8 x.kind, .int .i64 x.kids, .int .i64 x.n, .string x.s, .string x.t, .string x.u, .int .i64 x.line, .int .i64 x.col], .slice Ak ks.cnt ck, .slice Ai env.length Ci] wr (RkRule c B sm (.slice (some ⟨b, off, none⟩) T.length C) yv yr a (Tr.nodeT sm x env p (K.map fun a => (a.1, a.2.headD .dyn))) wr)) := Lib.hid (HL.out.rule hmx HO.out.1 HTL.out hTl rfl)
          have HEN := Lib.hid (HL.out.ends HTL.out)
          have HKW := Lib.hid HL.out.kept
          have hyl : p < yr.length := by have := HL.out.same.1; have := HYS.out; omega
          have HCG := Lib.hid (chk1_go (sm := sm) (ks := ks) (env := env) HGD.out)
          rw [HEN.out.1] at HCG
          clear hk HL
          go_wp2_with fail
          refine HA.out.mono ?_
          rintro E w5 ⟨X, ⟨rfl, h5, k5⟩, hG, hX⟩
          have HK5 := Lib.hid (HKW.out.keep k5)
          have HC5 := Lib.hid h5
          clear x0 x1 x2 x3 x4 x5 x6 x7 c2 HA HKW k5
          obtain ⟨s0, hs0⟩ : ∃ s0, yr[p]? = some s0 := ⟨_, List.getElem?_eq_getElem hyl⟩
          obtain ⟨g, Cy, rfl, r0, hlt, fz⟩ := h5.read hs0
          have c1 := h5.c1
          generalize Tr.nodeT sm x env p (K.map fun a => (a.1, a.2.headD .dyn)) = NT at *
          cases NT with
          | error bb =>
            have c2 : w5.cell? ⟨c, 2, none⟩ = some (.int .i64 bb.1) := HC5.out.c2
            have q : (bb.1 == 0) = false := beq_eq_false_iff_ne.2 (hG bb rfl)
            have HR := Lib.hid (fin_bad HCG.out (hG bb rfl) (by omega) HEN.out.2.1 HC5.out HK5.out X (a := a))
            clear h5 hG hX hs0
            go_wp2_with fail
            exact bodyPost_end (v := .tuple #[]) (by simp [results, Tryz.results59, go_sem]) rfl HR.out
          | ok t =>
            have c2 : w5.cell? ⟨c, 2, none⟩ = some (.int .i64 0) := HC5.out.c2
            obtain rfl := hX t rfl
            by_cases h64 : t.enc.length ≤ 64
            · have hz : ¬ (64 < t.str.size) := by rw [str_size]; omega
              have HR := Lib.hid (fin_ok (by rw [HCG.out]; simp [Tr.sizeT, h64, Except.map]) h64 HEN.out.2.1 HC5.out HK5.out hyl HEN.out.2.2.1 HEN.out.2.2.2)
              clear h5 hG hX hs0 h64
              go_wp2_with fail
              exact bodyPost_end (v := .tuple #[]) (by simp [results, Tryz.results59, go_sem]) rfl HR.out
            · have hz : 64 < t.str.size := by rw [str_size]; omega
              have HRF := Lib.hid (rno_any c B sm _ _ yr a w5 21 p HC5.out)
              have HRS := Lib.hid (fun w6 (h6 : RkAt c B sm (.slice (some ⟨b, off, none⟩) T.length C) (.slice (some ⟨g, 0, none⟩) yr.length Cy) yr 21 p w6) (k6 : Keep c w5 w6) => fin_bad (b := (21, p)) (a := a) (by rw [HCG.out]; simp [Tr.sizeT, h64, Except.map]) (show (21 : Int) ≠ 0 by decide) (by omega) HEN.out.2.1 h6 (HK5.out.keep k6) t.str)
              have HS0 := Lib.hid hs0
              clear h5 hG hX hs0 h64 r0 fz c1
              go_wp2_with fail
              refine HRF.out.mono ?_
              rintro E w6 ⟨rfl, h6, k6⟩
              have HR := Lib.hid (HRS.out _ h6 k6)
              have c1 := h6.c1
              obtain ⟨g', Cy', e1, r0, _, fz⟩ := h6.read HS0.out
              simp only [Value.slice.injEq, Option.some.injEq, Addr.mk.injEq] at e1
              obtain ⟨⟨rfl, _, _⟩, _, rfl⟩ := e1
              clear h6 k6 HRS HRF
              go_wp2_with fail
              exact bodyPost_end (v := .tuple #[]) (by simp [results, Tryz.results59, go_sem]) rfl HR.out
      | cons y ky r' =>
        have hkl : k < ks.cnt := by simp only [Tr.F.cnt] at hk; omega
        have hk' : k + 1 + r'.cnt = ks.cnt := by simp only [Tr.F.cnt] at hk; omega
        obtain ⟨gk, _, e1, _, _, _, _, hc⟩ := own_read HL.out.kids (by omega)
        simp only [Value.slice.injEq] at e1
        obtain ⟨rfl, _, rfl⟩ := e1
        have xk : wr.cell? ⟨gk, k, none⟩ = some (.int .i64 ((pr.length : Nat) : Int)) := hc k _ (by
          have h2 : (ks.places (p + 1))[k]? = some pr.length := (HL.out.places 0).symm
          rw [List.getElem?_map, h2]; rfl)
        have HIN : Hid (∀ w', RkEnv Be w' (.slice Ai env.length Ci) env → Calls Tryz.prog 86 #[.pointer (some ⟨c, 0, none⟩), .agg #[.int .i8 x.kind, .int .i64 x.kids, .int .i64 x.n, .string x.s, .string x.t, .string x.u, .int .i64 x.line, .int .i64 x.col], .int .i64 (k : Int), .slice Ai env.length Ci] w' (InnerRes (Tr.innerT x k env) w')) := Lib.hid (fun w' h' => rinner_any c w' x k env _ Be hmx h' (by have := HLEN.out; omega))
        have HLD := Lib.hid (HL.out.later (below_dn wr 1))
        clear hc hk HL
        go_wp2_with fail
        refine wp_region_plan (S := fun w' => w'.cell? ⟨gk, k, none⟩ = some (.int .i64 ((pr.length : Nat) : Int)) ∧ w'.cell? ⟨w.heap.size, 0, none⟩ = some (.int .i8 x.kind) ∧ w'.cell? ⟨w.heap.size, 1, none⟩ = some (.int .i64 x.kids) ∧ w'.cell? ⟨w.heap.size, 2, none⟩ = some (.int .i64 x.n) ∧ w'.cell? ⟨w.heap.size, 3, none⟩ = some (.string x.s) ∧ w'.cell? ⟨w.heap.size, 4, none⟩ = some (.string x.t) ∧ w'.cell? ⟨w.heap.size, 5, none⟩ = some (.string x.u) ∧ w'.cell? ⟨w.heap.size, 6, none⟩ = some (.int .i64 x.line) ∧ w'.cell? ⟨w.heap.size, 7, none⟩ = some (.int .i64 x.col)) [(0, true), (1, true), (2, true), (3, true), (4, true), (5, true), (6, true), (7, true), (8, true), (9, false), (10, false)] (by kernel_rfl) (by kernel_rfl) (by kernel_rfl) (fun _ _ _ _ _ h => h) ⟨xk, x0, x1, x2, x3, x4, x5, x6, x7⟩ ?_
        intro HS
        repeat (first | (apply wpPlan_look; rfl; rfl; (intro wq hq; (try dsimp only at hq); go_split_ands; go_simp; (try rw [if_neg (by omega)]); (try rw [if_pos (by omega)]); try with_reducible rfl); simp only [Act.put, List.setIfInBounds_toArray, List.set_cons_zero, List.set_cons_succ]) | (apply wpPlan_skip; rfl; rfl; simp only [Act.put, List.setIfInBounds_toArray, List.set_cons_zero, List.set_cons_succ]) | (apply wpPlan_pass; rfl; rfl; assumption; simp only [Act.put, List.setIfInBounds_toArray, List.set_cons_zero, List.set_cons_succ]))
        apply wpPlan_call; rfl; rfl; rfl; rfl; kernel_rfl; exact HIN.out _ HLD.out.env; rfl; rintro E w5 ⟨v5, rfl, hE5, hb5⟩
        have HL5 := Lib.hid (HLD.out.later hb5)
        have y0 := HL5.out.box.cell 0
        have y1 := HL5.out.box.cell 1
        have y2 := HL5.out.box.cell 2
        have y3 := HL5.out.box.cell 3
        have y4 := HL5.out.box.cell 4
        have y5 := HL5.out.box.cell 5
        have y6 := HL5.out.box.cell 6
        have y7 := HL5.out.box.cell 7
        refine ⟨_, rfl, as_S ⟨cell_later hb5 HS.1, y0, y1, y2, y3, y4, y5, y6, y7⟩ ?_⟩
        have yk := cell_later hb5 HS.1
        have HE5 := Lib.hid hE5
        clear HS x0 x1 x2 x3 x4 x5 x6 x7 xk HIN HLD hb5 hE5
        intro HS
        obtain ⟨A5, C5, rfl⟩ := own_shape HE5.out
        simp only [Act.put, List.setIfInBounds_toArray, List.set_cons_zero, List.set_cons_succ]
        repeat (first | (apply wpPlan_look; rfl; rfl; (intro wq hq; (try dsimp only at hq); go_split_ands; go_simp; (try rw [if_neg (by omega)]); (try rw [if_pos (by omega)]); try with_reducible rfl); simp only [Act.put, List.setIfInBounds_toArray, List.set_cons_zero, List.set_cons_succ]) | (apply wpPlan_skip; rfl; rfl; simp only [Act.put, List.setIfInBounds_toArray, List.set_cons_zero, List.set_cons_succ]) | (apply wpPlan_pass; rfl; rfl; assumption; simp only [Act.put, List.setIfInBounds_toArray, List.set_cons_zero, List.set_cons_succ]))
        cases R with
        | error bb =>
          have HSK := Lib.hid (rPart_skip c B sm _ yv yr bb.2 w5 bb.1 (HL5.out.good bb rfl) pr.length (.slice A5 (Tr.innerT x k env).length C5) HL5.out.ck)
          have HLN := Lib.hid HL5.out.skip
          apply wpPlan_call; rfl; rfl; rfl; rfl; kernel_rfl; exact HSK.out; rfl; rintro E w6 ⟨rfl, rfl⟩
          refine ⟨_, rfl, as_S HS ?_⟩
          intro _
          clear HS HSK yk y0 y1 y2 y3 y4 y5 y6 y7 HL5 HE5
          simp only [Act.put, List.setIfInBounds_toArray, List.set_cons_zero, List.set_cons_succ]
          apply wpPlan_done
          go_wp2_with fail
          go_roundw
          case rel => exact ⟨k + 1, r', _, _, yr, by go_num, hk', HLN⟩
          case measure => simp [intOf]; omega
        | ok K =>
          have hil := Tr.innerT_len x k env
          have HP := Lib.hid (ih y ky pr (r'.flat ++ post) pr.length (Tr.innerT x k env) _ yv _ w5 yr a (by have := HL5.out.hgt; simp only [Tr.F.hgt] at this; omega) (by rw [HL5.out.eq]; simp [Tr.F.flat]) rfl ⟨HL5.out.ok.1, HL5.out.ok.2.1, trivial⟩ (HC.out.base HL5.out.kept HBW.out hcW hBW) (RkEnv.own HE5.out) (by have := HLEN.out; omega) (HL5.out.same.1.trans HYS.out) HL5.out.ck)
          have HST := Lib.hid (fun E w' hp => HL5.out.step (E := E) (w' := w') hp)
          clear hil
          apply wpPlan_call; rfl; rfl; rfl; rfl; kernel_rfl; exact HP.out; rfl; rintro E w6 hp
          obtain ⟨rfl, R', yr', hl⟩ := HST.out E w6 hp
          have HLN := Lib.hid hl
          have z0 := HLN.out.box.cell 0
          have z1 := HLN.out.box.cell 1
          have z2 := HLN.out.box.cell 2
          have z3 := HLN.out.box.cell 3
          have z4 := HLN.out.box.cell 4
          have z5 := HLN.out.box.cell 5
          have z6 := HLN.out.box.cell 6
          have z7 := HLN.out.box.cell 7
          have zk : w6.cell? ⟨gk, k, none⟩ = some (.int .i64 ((pr.length : Nat) : Int)) := by
            have h9 := own_get HLN.out.kids (i := k) (v := .int .i64 ((pr.length : Nat) : Int)) (by
              have h2 : (ks.places (p + 1))[k]? = some pr.length := (HL5.out.places 0).symm
              rw [List.getElem?_map, h2]; rfl)
            exact h9.1
          refine ⟨_, rfl, as_S ⟨zk, z0, z1, z2, z3, z4, z5, z6, z7⟩ ?_⟩
          intro _
          clear HS HP HST hp hl yk y0 y1 y2 y3 y4 y5 y6 y7 z0 z1 z2 z3 z4 z5 z6 z7 zk HL5 HE5
          simp only [Act.put, List.setIfInBounds_toArray, List.set_cons_zero, List.set_cons_succ]
          apply wpPlan_done
          go_wp2_with fail
          go_roundw
          case rel => exact ⟨k + 1, r', _, R', yr', by go_num, hk', HLN⟩
          case measure => simp [intOf]; omega
  · have hz : 64 < (Ty.fn S1 S2).str.size := by rw [str_size]; omega
    have HGE := Lib.hid (chk1_stop (sm := sm) (ks := ks) (env := env) (b := (21, p)) (x := x) (p := p) (by rw [HGO.out]; simp [Tr.sizeT, h64, Except.map]))
    have HRF := Lib.hid (rno_any c B sm _ yv ys a w1 21 p HC1.out)
    clear HGO h64
    go_wp2_with fail
    refine HRF.out.mono ?_
    rintro E w6 ⟨rfl, h6, k6⟩
    have HR : Hid (RkPart c B sm (.slice (some ⟨b, off, none⟩) T.length C) yv ys a p (1 + ks.flat.length) (Tr.chk1 sm x ks env p) w (.returned (.tuple #[])) w6) := Lib.hid (by
      rw [HGE.out]
      exact ⟨ys, rfl, h6, (KeepN.of c _ HB1.out).keep k6, fun b' h => by injection h with h; subst h; show (21 : Int) ≠ 0; decide, Tr.SameB.refl _ _ _, fun ts h => by cases h⟩)
    clear h6 k6
    go_wp2_with fail
    exact bodyPost_end (v := .tuple #[]) (by simp [results, Tryz.results59, go_sem]) rfl HR.out
theorem rpart_all : ∀ n, RPartC T tv W c B sm n
  | 0 => fun x ks pre post p env iv yv Be w ys a hh => absurd hh (Nat.not_lt_zero _)
  | n + 1 => fun x ks pre post p env iv yv Be w ys a hh hT hp hO hB hE hlen hys hC => by
    have ih := rpart_all n
    by_cases h5 : x.kind = 5
    · exact rpart_5 (T := T) (tv := tv) (W := W) (c := c) (B := B) (sm := sm) (n := n) (hN := hN) (hTl := hTl) (hcW := hcW) (hBW := hBW) (hm := hm) ih x ks pre post p env iv yv Be w ys a h5 hh hT hp hO hB hE hlen hys hC
    by_cases h6 : x.kind = 6
    · exact rpart_6 (T := T) (tv := tv) (W := W) (c := c) (B := B) (sm := sm) (n := n) (hN := hN) (hTl := hTl) (hcW := hcW) (hBW := hBW) (hm := hm) ih x ks pre post p env iv yv Be w ys a h6 hh hT hp hO hB hE hlen hys hC
    · exact rpart_plain (T := T) (tv := tv) (W := W) (c := c) (B := B) (sm := sm) (n := n) (hN := hN) (hTl := hTl) (hcW := hcW) (hBW := hBW) (hm := hm) ih x ks pre post p env iv yv Be w ys a (by omega) hh hT hp hO hB hE hlen hys hC
end
end Go.Proofs.YtdobaililmkkcaaGreatDoor

/- Walks of the document's checker: Expr, Plain. -/
namespace Go.Proofs.YtdobaililmkkcaaGreatDoor
set_option linter.unusedSimpArgs false
set_option linter.unusedVariables false
open Go.RowKit Go.Maps Culp
theorem cell_blk {w : World} {a : Addr} {v : Value} (h : w.cell? a = some v) : a.block < w.heap.size := by
  by_cases hl : a.block < w.heap.size
  · exact hl
  · have : w.heap[a.block]? = none := Array.getElem?_eq_none (by omega)
    simp [World.cell?, this] at h
theorem envTo_len (N S : List ByteArray) : ∀ k, (envTo N S k).length = k
  | 0 => rfl
  | k + 1 => by unfold envTo; rw [List.length_cons, envTo_len N S k]
section
variable (T : List Nd) (tv nv sv : Value) (N S : List ByteArray) (w : World) (sm : Bool) (hn : Nodes w tv T) (hN : Txts w nv N) (hS : Txts w sv S) (hSp : Sp w) (hz : ∀ s ∈ N, s.size ≤ 140737488351232) (hNl : N.length ≤ 500000000)
include hn hN hS hSp hz hNl
omit hn hSp hz hNl in
theorem read_short (h : N.length ≠ S.length) : Calls Tryz.prog 26 #[tv, nv, sv, .bool sm] w (Makes (.tuple #[.slice none 0 0, .int .i64 1, .int .i64 0]) w) := by
  obtain ⟨A1, c1, rfl, _, _⟩ := hN
  obtain ⟨A2, c2, rfl, _, _⟩ := hS
  have q : (((N.length : Nat) : Int) != ((S.length : Nat) : Int)) = true := neq_lit (by omega)
  clear h
  go_enter Tryz.func26, Tryz.ntmps26
  go_wp2_with fail
  refine bodyPost_ret (v := .tuple #[.slice none 0 0, .int .i64 1, .int .i64 0]) (by simp [results, Tryz.results26, go_sem]) rfl ?_
  exact Makes.mk rfl (Below.refl _ _)
set_option maxRecDepth 100000 in
set_option maxHeartbeats 3200000 in
theorem read_args (hlen : N.length = S.length) (hbad : ¬ ∀ j, j < N.length → argOk N S j) : Calls Tryz.prog 26 #[tv, nv, sv, .bool sm] w (Makes (.tuple #[.slice none 0 0, .int .i64 1, .int .i64 0]) w) := by
  have HN := Lib.hid hN
  have HS := Lib.hid hS
  have HSP := Lib.hid hSp
  have HZ := Lib.hid hz
  have HND := Lib.hid hn
  obtain ⟨i0, hi, hz0, hz1, hz2⟩ := info_parts bind_info
  obtain ⟨A1, c1, rfl, hc1, hN1⟩ := HN.out
  obtain ⟨A2, c2, rfl, hc2, hS1⟩ := HS.out
  have q : (((N.length : Nat) : Int) != ((S.length : Nat) : Int)) = false := neq_lit0 (by rw [hlen])
  have HLEN := Lib.hid hlen
  have HN1 := Lib.hid hN1
  have HS1 := Lib.hid hS1
  clear hn hN hS hSp hz hlen hN1 hS1
  go_enter Tryz.func26, Tryz.ntmps26
  go_wp2_with fail
  go_loopw [11, 12] (fun v i wr => ∃ k : Nat, k ≤ N.length ∧ i = .int .i64 k ∧ Hid (∀ j, j < k → argOk N S j) ∧ Hid (RkEnv w.heap.size wr v (envTo N S k)) ∧ Hid (Below w.heap.size w wr)) (fun _ i _ => N.length - (intOf i).toNat)
  case atStart => exact ⟨0, Nat.zero_le _, rfl, Lib.hid (fun j hj => absurd hj (Nat.not_lt_zero _)), Lib.hid (World.ownsRow_nil _ _ _ _), Lib.hid (Below.refl _ _)⟩
  case round =>
    obtain ⟨k, hk, rfl, HG, HE, HB⟩ := hrel
    obtain ⟨Av, Cv, hv⟩ := own_shape HE.out
    rw [envTo_len] at hv
    subst hv
    by_cases hlt : k < N.length
    ·
      have hlt2 : (k : Int) < (S.length : Int) := by have := HLEN.out; omega
      obtain ⟨g1, o1, rfl, k1⟩ := HN1.out (by omega)
      obtain ⟨g2, o2, rfl, k2⟩ := HS1.out (by have := HLEN.out; omega)
      have x1 : wr.cell? ⟨g1, o1 + k, none⟩ = some (.string (N.getD k ByteArray.empty)) := cell_later HB.out (k1 k _ (getD_of hlt))
      have x2 : wr.cell? ⟨g2, o2 + k, none⟩ = some (.string (S.getD k ByteArray.empty)) := cell_later HB.out (k2 k _ (getD_of (by have := HLEN.out; omega)))
      have hsz : (N.getD k ByteArray.empty).size ≤ 140737488351232 := HZ.out _ (List.mem_of_getElem? (getD_of hlt))
      have HIS := Lib.hid (fun w' => rIsName_any (N.getD k ByteArray.empty) w' hsz)
      have HTY := Lib.hid (fun w' => rType_any (S.getD k ByteArray.empty) w')
      clear k1 k2
      cases hnm : Tx.isName (N.getD k ByteArray.empty).data.toList with
      | false =>
        have HNB : Hid (¬ argOk N S k) := Lib.hid (fun h => by rw [h.2] at hnm; cases hnm)
        rw [hnm] at HIS
        generalize N.getD k ByteArray.empty = nk at *
        clear hnm
        go_wp2_with fail
        refine (HIS.out _).mono ?_
        rintro E w3 ⟨rfl, hb3⟩
        have HB3 := Lib.hid (below_later hb3 HB.out)
        clear hb3
        clear x1 x2 HB HG HE HNB
        go_wp2_with fail
        refine bodyPost_ret (v := .tuple #[.slice none 0 0, .int .i64 1, .int .i64 0]) (by simp [results, Tryz.results26, go_sem]) rfl ?_
        exact Makes.mk rfl HB3.out
      | true =>
        rw [hnm] at HIS
        cases ht : isTy (S.getD k ByteArray.empty).data.toList with
        | false =>
          have HNB : Hid (¬ argOk N S k) := Lib.hid (fun h => by rw [h.1] at ht; cases ht)
          rw [ht] at HTY
          generalize S.getD k ByteArray.empty = sk at *
          generalize N.getD k ByteArray.empty = nk at *
          clear ht hnm
          go_wp2_with fail
          refine (HIS.out _).mono ?_
          rintro E w3 ⟨rfl, hb3⟩
          have HB3 := Lib.hid (below_later hb3 HB.out)
          have y2 := cell_later hb3 x2
          clear hb3
          go_wp2_with fail
          refine (HTY.out _).mono ?_
          rintro E w4 ⟨rfl, rfl⟩
          clear y2
          clear x1 x2 HB HG HE HNB
          go_wp2_with fail
          refine bodyPost_ret (v := .tuple #[.slice none 0 0, .int .i64 1, .int .i64 0]) (by simp [results, Tryz.results26, go_sem]) rfl ?_
          exact Makes.mk rfl HB3.out
        | true =>
          rw [ht] at HTY
          obtain ⟨Tk, e1, hTf, e2⟩ := argOk_ty' ht
          have HEV : Hid (envTo N S (k + 1) = (N.getD k ByteArray.empty, Tk) :: envTo N S k) := Lib.hid (by show (_, _) :: _ = _; rw [e2])
          have HG2 : Hid (∀ j, j < k + 1 → argOk N S j) := Lib.hid (fun j hj => by
            rcases Nat.lt_succ_iff_lt_or_eq.1 hj with h | rfl
            · exact HG.out j h
            · exact ⟨ht, hnm⟩)
          rw [e1] at x2 HTY
          generalize N.getD k ByteArray.empty = nk at *
          clear ht e1 e2 hnm
          go_wp2_with fail
          refine (HIS.out _).mono ?_
          rintro E w3 ⟨rfl, hb3⟩
          have HB3 := Lib.hid (below_later hb3 HB.out)
          have y1 := cell_later hb3 x1
          have y2 := cell_later hb3 x2
          have HE3 : Hid (RkEnv w.heap.size w3 (.slice Av k Cv) (envTo N S k)) := Lib.hid (own_later HE.out hb3)
          clear hb3 x1 x2 HE HB HG
          go_wp2_with fail
          refine (HTY.out _).mono ?_
          rintro E w4 ⟨rfl, rfl⟩
          go_wp2_with fail
          refine wp_region_plan (S := fun w' => w'.cell? ⟨g1, o1 + k, none⟩ = some (.string nk) ∧ w'.cell? ⟨g2, o2 + k, none⟩ = some (.string Tk.str)) [(0, true), (1, true), (2, true), (3, true), (4, true), (5, true), (6, true), (7, true), (8, true), (9, true), (10, false), (11, false), (12, true)] (by kernel_rfl) (by kernel_rfl) (by kernel_rfl) (fun _ _ _ _ _ h => h) ⟨y1, y2⟩ ?_
          intro HS0
          repeat (first | (apply wpPlan_look; rfl; rfl; (intro wq hq; (try dsimp only at hq); go_split_ands; go_simp; (try rw [if_neg (by omega)]); (try rw [if_pos (by omega)]); try with_reducible rfl); simp only [Act.put, List.setIfInBounds_toArray, List.set_cons_zero, List.set_cons_succ]) | (apply wpPlan_skip; rfl; rfl; simp only [Act.put, List.setIfInBounds_toArray, List.set_cons_zero, List.set_cons_succ]) | (apply wpPlan_pass; rfl; rfl; assumption; simp only [Act.put, List.setIfInBounds_toArray, List.set_cons_zero, List.set_cons_succ]))
          have hb5 : Below w3.heap.size w3 (w3.drew.alloc (.cells #[.string nk, .string Tk.str] 88)) := (Below.refl _ _).drew.alloc (Nat.le_refl _) _
          have q1 := cell_later hb5 y1
          have q2 := cell_later hb5 y2
          refine wpPlan_run rfl rfl (by simp [execOp, go_sem, build_bind]; (first | exact ⟨rfl, rfl⟩ | rfl)) _ (fun _ h => h) ⟨q1, q2⟩ ?_
          simp only [Act.put, List.setIfInBounds_toArray, List.set_cons_zero, List.set_cons_succ]
          refine wpPlan_actS rfl rfl fun K hK => ?_
          have hown5 : (w3.drew.alloc (.cells #[.string nk, .string Tk.str] 88)).ownsRow w.heap.size 88 2 (.slice Av k Cv) k ((envTo N S k).reverse.flatMap bcells) := by
            have := own_later HE3.out hb5
            rw [envTo_len] at this
            exact this
          have hnews : ∀ (j : Nat) (v : Value), [Value.string nk, Value.string Tk.str][j]? = some v → (w3.drew.alloc (.cells #[.string nk, .string Tk.str] 88)).cell? ((⟨w3.heap.size, 0, none⟩ : Addr).add j) = some v := by
            intro j v hv
            rw [add_zero_addr]
            change (w3.drew.alloc (.cells #[.string nk, .string Tk.str] 88)).cell? ⟨w3.drew.heap.size, j, none⟩ = some v
            rw [World.cell?_alloc_at _ _ _ _ rfl]
            simpa using hv
          have hsz5 : w.heap.size ≤ (w3.drew.alloc (.cells #[.string nk, .string Tk.str] 88)).heap.size := (below_later hb5 HB3.out).size
          refine wp_append_own _ (.tmp 41) (.tmp 51) 86 rfl w.heap.size 88 i0 _ 2 32 Tryz.underlying86 hi hz0 hz1 hz2 rfl (by decide) _ k ((envTo N S k).reverse.flatMap bcells) rfl hown5 ⟨w3.heap.size, 0, none⟩ 1 1 [.string nk, .string Tk.str] rfl rfl hnews (by intro v hv; simp at hv; rcases hv with rfl | rfl <;> rfl) (by unfold maxLen; omega) (by omega) hsz5 ?_
          intro v' w6 hown' hg _
          have hb6 : Below w.heap.size (w3.drew.alloc (.cells #[.string nk, .string Tk.str] 88)) w6 := (Below.refl _ _).grown hg hsz5 fun k hk => (hown5.lt k hk).1
          have HB6 : Hid (Below w.heap.size w w6) := Lib.hid ((below_later hb5 HB3.out).trans hb6)
          have r1 : w6.cell? ⟨g1, o1 + k, none⟩ = some (.string nk) := below_cell hb6 q1 (by
            have := HN1.out (by omega)
            obtain ⟨g', o', e, kk⟩ := this
            simp only [Option.some.injEq, Addr.mk.injEq] at e
            obtain ⟨rfl, rfl, _⟩ := e
            have h0 := kk k _ (getD_of hlt)
            exact cell_blk h0)
          have r2 : w6.cell? ⟨g2, o2 + k, none⟩ = some (.string Tk.str) := below_cell hb6 q2 (by
            have := HS1.out (by have := HLEN.out; omega)
            obtain ⟨g', o', e, kk⟩ := this
            simp only [Option.some.injEq, Addr.mk.injEq] at e
            obtain ⟨rfl, rfl, _⟩ := e
            have h0 := kk k _ (getD_of (by have := HLEN.out; omega))
            exact cell_blk h0)
          rw [show (envTo N S k).reverse.flatMap bcells ++ [Value.string nk, Value.string Tk.str] = ((nk, Tk) :: envTo N S k).reverse.flatMap bcells from (rev_cons (nk, Tk) (envTo N S k)).symm] at hown'
          have HO6 : Hid (RkEnv w.heap.size w6 v' (envTo N S (k + 1))) := Lib.hid (by
            rw [HEV.out]
            unfold RkEnv
            rw [List.length_cons, envTo_len]
            exact hown')
          refine hK _ _ ⟨_, fun _ h => h, ⟨r1, r2⟩, ?_⟩
          clear HS0 q1 q2 hown5 hnews hown' hg hb5 hb6 hsz5 y1 y2 r1 r2 HB3 HE3
          simp only [Act.put, List.setIfInBounds_toArray, List.set_cons_zero, List.set_cons_succ]
          repeat (first | (apply wpPlan_look; rfl; rfl; (intro wq hq; (try dsimp only at hq); go_split_ands; go_simp; (try rw [if_neg (by omega)]); (try rw [if_pos (by omega)]); try with_reducible rfl); simp only [Act.put, List.setIfInBounds_toArray, List.set_cons_zero, List.set_cons_succ]) | (apply wpPlan_skip; rfl; rfl; simp only [Act.put, List.setIfInBounds_toArray, List.set_cons_zero, List.set_cons_succ]) | (apply wpPlan_pass; rfl; rfl; assumption; simp only [Act.put, List.setIfInBounds_toArray, List.set_cons_zero, List.set_cons_succ]))
          apply wpPlan_done
          go_wp2_with fail
          go_roundw
          case rel => exact ⟨k + 1, by omega, by go_num, HG2, HO6, HB6⟩
          case measure => simp [intOf]; omega
    ·
      obtain rfl : k = N.length := by omega
      exact absurd HG.out hbad
set_option maxRecDepth 100000 in
set_option maxHeartbeats 3200000 in
theorem read_tree (hok : ArgsOk N S) (hzT : ∀ x ∈ T, x.s.size ≤ 140737488351232) (hkT : ∀ x ∈ T, x.kids ≤ 9223372036854775807) (hc : (Tr.check T).1 ≠ 0) : Calls Tryz.prog 26 #[tv, nv, sv, .bool sm] w (Makes (.tuple #[.slice none 0 0, .int .i64 (Tr.check T).1, .int .i64 (Tr.check T).2]) w) := by
  have hlen := hok.1
  have HOK := Lib.hid hok.2
  have HN := Lib.hid hN
  have HS := Lib.hid hS
  have HSP := Lib.hid hSp
  have HZ := Lib.hid hz
  have HND := Lib.hid hn
  obtain ⟨i0, hi, hz0, hz1, hz2⟩ := info_parts bind_info
  obtain ⟨A1, c1, rfl, hc1, hN1⟩ := HN.out
  obtain ⟨A2, c2, rfl, hc2, hS1⟩ := HS.out
  have q : (((N.length : Nat) : Int) != ((S.length : Nat) : Int)) = false := neq_lit0 (by rw [hlen])
  have HLEN := Lib.hid hlen
  have HN1 := Lib.hid hN1
  have HS1 := Lib.hid hS1
  clear hn hN hS hSp hz hlen hN1 hS1
  go_enter Tryz.func26, Tryz.ntmps26
  go_wp2_with fail
  go_loopw [11, 12] (fun v i wr => ∃ k : Nat, k ≤ N.length ∧ i = .int .i64 k ∧ Hid (∀ j, j < k → argOk N S j) ∧ Hid (RkEnv w.heap.size wr v (envTo N S k)) ∧ Hid (Below w.heap.size w wr)) (fun _ i _ => N.length - (intOf i).toNat)
  case atStart => exact ⟨0, Nat.zero_le _, rfl, Lib.hid (fun j hj => absurd hj (Nat.not_lt_zero _)), Lib.hid (World.ownsRow_nil _ _ _ _), Lib.hid (Below.refl _ _)⟩
  case round =>
    obtain ⟨k, hk, rfl, HG, HE, HB⟩ := hrel
    obtain ⟨Av, Cv, hv⟩ := own_shape HE.out
    rw [envTo_len] at hv
    subst hv
    by_cases hlt : k < N.length
    ·
      have hlt2 : (k : Int) < (S.length : Int) := by have := HLEN.out; omega
      obtain ⟨g1, o1, rfl, k1⟩ := HN1.out (by omega)
      obtain ⟨g2, o2, rfl, k2⟩ := HS1.out (by have := HLEN.out; omega)
      have x1 : wr.cell? ⟨g1, o1 + k, none⟩ = some (.string (N.getD k ByteArray.empty)) := cell_later HB.out (k1 k _ (getD_of hlt))
      have x2 : wr.cell? ⟨g2, o2 + k, none⟩ = some (.string (S.getD k ByteArray.empty)) := cell_later HB.out (k2 k _ (getD_of (by have := HLEN.out; omega)))
      have hsz : (N.getD k ByteArray.empty).size ≤ 140737488351232 := HZ.out _ (List.mem_of_getElem? (getD_of hlt))
      have HIS := Lib.hid (fun w' => rIsName_any (N.getD k ByteArray.empty) w' hsz)
      have HTY := Lib.hid (fun w' => rType_any (S.getD k ByteArray.empty) w')
      clear k1 k2
      cases hnm : Tx.isName (N.getD k ByteArray.empty).data.toList with
      | false =>
        have HNB : Hid (¬ argOk N S k) := Lib.hid (fun h => by rw [h.2] at hnm; cases hnm)
        rw [hnm] at HIS
        generalize N.getD k ByteArray.empty = nk at *
        clear hnm
        go_wp2_with fail
        refine (HIS.out _).mono ?_
        rintro E w3 ⟨rfl, hb3⟩
        have HB3 := Lib.hid (below_later hb3 HB.out)
        clear hb3
        exact absurd (HOK.out k (by omega)) HNB.out
      | true =>
        rw [hnm] at HIS
        cases ht : isTy (S.getD k ByteArray.empty).data.toList with
        | false =>
          have HNB : Hid (¬ argOk N S k) := Lib.hid (fun h => by rw [h.1] at ht; cases ht)
          rw [ht] at HTY
          generalize S.getD k ByteArray.empty = sk at *
          generalize N.getD k ByteArray.empty = nk at *
          clear ht hnm
          go_wp2_with fail
          refine (HIS.out _).mono ?_
          rintro E w3 ⟨rfl, hb3⟩
          have HB3 := Lib.hid (below_later hb3 HB.out)
          have y2 := cell_later hb3 x2
          clear hb3
          go_wp2_with fail
          refine (HTY.out _).mono ?_
          rintro E w4 ⟨rfl, rfl⟩
          clear y2
          exact absurd (HOK.out k (by omega)) HNB.out
        | true =>
          rw [ht] at HTY
          obtain ⟨Tk, e1, hTf, e2⟩ := argOk_ty' ht
          have HEV : Hid (envTo N S (k + 1) = (N.getD k ByteArray.empty, Tk) :: envTo N S k) := Lib.hid (by show (_, _) :: _ = _; rw [e2])
          have HG2 : Hid (∀ j, j < k + 1 → argOk N S j) := Lib.hid (fun j hj => by
            rcases Nat.lt_succ_iff_lt_or_eq.1 hj with h | rfl
            · exact HG.out j h
            · exact ⟨ht, hnm⟩)
          rw [e1] at x2 HTY
          generalize N.getD k ByteArray.empty = nk at *
          clear ht e1 e2 hnm
          go_wp2_with fail
          refine (HIS.out _).mono ?_
          rintro E w3 ⟨rfl, hb3⟩
          have HB3 := Lib.hid (below_later hb3 HB.out)
          have y1 := cell_later hb3 x1
          have y2 := cell_later hb3 x2
          have HE3 : Hid (RkEnv w.heap.size w3 (.slice Av k Cv) (envTo N S k)) := Lib.hid (own_later HE.out hb3)
          clear hb3 x1 x2 HE HB HG
          go_wp2_with fail
          refine (HTY.out _).mono ?_
          rintro E w4 ⟨rfl, rfl⟩
          go_wp2_with fail
          refine wp_region_plan (S := fun w' => w'.cell? ⟨g1, o1 + k, none⟩ = some (.string nk) ∧ w'.cell? ⟨g2, o2 + k, none⟩ = some (.string Tk.str)) [(0, true), (1, true), (2, true), (3, true), (4, true), (5, true), (6, true), (7, true), (8, true), (9, true), (10, false), (11, false), (12, true)] (by kernel_rfl) (by kernel_rfl) (by kernel_rfl) (fun _ _ _ _ _ h => h) ⟨y1, y2⟩ ?_
          intro HS0
          repeat (first | (apply wpPlan_look; rfl; rfl; (intro wq hq; (try dsimp only at hq); go_split_ands; go_simp; (try rw [if_neg (by omega)]); (try rw [if_pos (by omega)]); try with_reducible rfl); simp only [Act.put, List.setIfInBounds_toArray, List.set_cons_zero, List.set_cons_succ]) | (apply wpPlan_skip; rfl; rfl; simp only [Act.put, List.setIfInBounds_toArray, List.set_cons_zero, List.set_cons_succ]) | (apply wpPlan_pass; rfl; rfl; assumption; simp only [Act.put, List.setIfInBounds_toArray, List.set_cons_zero, List.set_cons_succ]))
          have hb5 : Below w3.heap.size w3 (w3.drew.alloc (.cells #[.string nk, .string Tk.str] 88)) := (Below.refl _ _).drew.alloc (Nat.le_refl _) _
          have q1 := cell_later hb5 y1
          have q2 := cell_later hb5 y2
          refine wpPlan_run rfl rfl (by simp [execOp, go_sem, build_bind]; (first | exact ⟨rfl, rfl⟩ | rfl)) _ (fun _ h => h) ⟨q1, q2⟩ ?_
          simp only [Act.put, List.setIfInBounds_toArray, List.set_cons_zero, List.set_cons_succ]
          refine wpPlan_actS rfl rfl fun K hK => ?_
          have hown5 : (w3.drew.alloc (.cells #[.string nk, .string Tk.str] 88)).ownsRow w.heap.size 88 2 (.slice Av k Cv) k ((envTo N S k).reverse.flatMap bcells) := by
            have := own_later HE3.out hb5
            rw [envTo_len] at this
            exact this
          have hnews : ∀ (j : Nat) (v : Value), [Value.string nk, Value.string Tk.str][j]? = some v → (w3.drew.alloc (.cells #[.string nk, .string Tk.str] 88)).cell? ((⟨w3.heap.size, 0, none⟩ : Addr).add j) = some v := by
            intro j v hv
            rw [add_zero_addr]
            change (w3.drew.alloc (.cells #[.string nk, .string Tk.str] 88)).cell? ⟨w3.drew.heap.size, j, none⟩ = some v
            rw [World.cell?_alloc_at _ _ _ _ rfl]
            simpa using hv
          have hsz5 : w.heap.size ≤ (w3.drew.alloc (.cells #[.string nk, .string Tk.str] 88)).heap.size := (below_later hb5 HB3.out).size
          refine wp_append_own _ (.tmp 41) (.tmp 51) 86 rfl w.heap.size 88 i0 _ 2 32 Tryz.underlying86 hi hz0 hz1 hz2 rfl (by decide) _ k ((envTo N S k).reverse.flatMap bcells) rfl hown5 ⟨w3.heap.size, 0, none⟩ 1 1 [.string nk, .string Tk.str] rfl rfl hnews (by intro v hv; simp at hv; rcases hv with rfl | rfl <;> rfl) (by unfold maxLen; omega) (by omega) hsz5 ?_
          intro v' w6 hown' hg _
          have hb6 : Below w.heap.size (w3.drew.alloc (.cells #[.string nk, .string Tk.str] 88)) w6 := (Below.refl _ _).grown hg hsz5 fun k hk => (hown5.lt k hk).1
          have HB6 : Hid (Below w.heap.size w w6) := Lib.hid ((below_later hb5 HB3.out).trans hb6)
          have r1 : w6.cell? ⟨g1, o1 + k, none⟩ = some (.string nk) := below_cell hb6 q1 (by
            have := HN1.out (by omega)
            obtain ⟨g', o', e, kk⟩ := this
            simp only [Option.some.injEq, Addr.mk.injEq] at e
            obtain ⟨rfl, rfl, _⟩ := e
            have h0 := kk k _ (getD_of hlt)
            exact cell_blk h0)
          have r2 : w6.cell? ⟨g2, o2 + k, none⟩ = some (.string Tk.str) := below_cell hb6 q2 (by
            have := HS1.out (by have := HLEN.out; omega)
            obtain ⟨g', o', e, kk⟩ := this
            simp only [Option.some.injEq, Addr.mk.injEq] at e
            obtain ⟨rfl, rfl, _⟩ := e
            have h0 := kk k _ (getD_of (by have := HLEN.out; omega))
            exact cell_blk h0)
          rw [show (envTo N S k).reverse.flatMap bcells ++ [Value.string nk, Value.string Tk.str] = ((nk, Tk) :: envTo N S k).reverse.flatMap bcells from (rev_cons (nk, Tk) (envTo N S k)).symm] at hown'
          have HO6 : Hid (RkEnv w.heap.size w6 v' (envTo N S (k + 1))) := Lib.hid (by
            rw [HEV.out]
            unfold RkEnv
            rw [List.length_cons, envTo_len]
            exact hown')
          refine hK _ _ ⟨_, fun _ h => h, ⟨r1, r2⟩, ?_⟩
          clear HS0 q1 q2 hown5 hnews hown' hg hb5 hb6 hsz5 y1 y2 r1 r2 HB3 HE3
          simp only [Act.put, List.setIfInBounds_toArray, List.set_cons_zero, List.set_cons_succ]
          repeat (first | (apply wpPlan_look; rfl; rfl; (intro wq hq; (try dsimp only at hq); go_split_ands; go_simp; (try rw [if_neg (by omega)]); (try rw [if_pos (by omega)]); try with_reducible rfl); simp only [Act.put, List.setIfInBounds_toArray, List.set_cons_zero, List.set_cons_succ]) | (apply wpPlan_skip; rfl; rfl; simp only [Act.put, List.setIfInBounds_toArray, List.set_cons_zero, List.set_cons_succ]) | (apply wpPlan_pass; rfl; rfl; assumption; simp only [Act.put, List.setIfInBounds_toArray, List.set_cons_zero, List.set_cons_succ]))
          apply wpPlan_done
          go_wp2_with fail
          go_roundw
          case rel => exact ⟨k + 1, by omega, by go_num, HG2, HO6, HB6⟩
          case measure => simp [intOf]; omega
    ·
      obtain rfl : k = N.length := by omega
      have HCK := Lib.hid (fun w' hb => rCheck_any T tv w' (HND.out.later hb) hzT hkT)
      have hq := neq_lit (z := 0) (show ((Tr.check T).1 : Int) ≠ 0 by omega)
      generalize Tr.check T = cc at *
      clear hc HG HE
      go_wp2_with fail
      refine (HCK.out _ HB.out).mono ?_
      rintro E w2 ⟨rfl, hb2⟩
      have HB2 := Lib.hid (below_later hb2 HB.out)
      clear hb2 HB
      go_wp2_with fail
      refine bodyPost_ret (v := .tuple #[.slice none 0 0, .int .i64 cc.1, .int .i64 cc.2]) (by simp [results, Tryz.results26, go_sem]) rfl ?_
      exact Makes.mk rfl HB2.out
set_option maxRecDepth 100000 in
set_option maxHeartbeats 6400000 in
theorem read_ok (hok : ArgsOk N S) (x : Nd) (ks : Tr.F) (hTl : T.length ≤ 1000000) (hzT : ∀ x ∈ T, x.s.size ≤ 140737488351232) (hkT : ∀ x ∈ T, x.kids ≤ 9223372036854775807) (hcc : Tr.check T = (0, 0)) (hT : T = x :: ks.flat) (hO : (Tr.F.cons x ks .nil).Ok) (hm : ∀ y ∈ T, Tr.may y = true) :
    Calls Tryz.prog 26 #[tv, nv, sv, .bool sm] w (ExprRes (Tr.chk1 sm x ks (envTo N S N.length) 0) w) := by
  have hlen := hok.1
  have HOK := Lib.hid hok.2
  have HCC := Lib.hid hcc
  have HTX := Lib.hid hT
  have HO := Lib.hid hO
  have HM := Lib.hid hm
  clear hok hcc hT hO hm
  have HN := Lib.hid hN
  have HS := Lib.hid hS
  have HSP := Lib.hid hSp
  have HZ := Lib.hid hz
  have HND := Lib.hid hn
  obtain ⟨i0, hi, hz0, hz1, hz2⟩ := info_parts bind_info
  obtain ⟨A1, c1, rfl, hc1, hN1⟩ := HN.out
  obtain ⟨A2, c2, rfl, hc2, hS1⟩ := HS.out
  have q : (((N.length : Nat) : Int) != ((S.length : Nat) : Int)) = false := neq_lit0 (by rw [hlen])
  have HLEN := Lib.hid hlen
  have HN1 := Lib.hid hN1
  have HS1 := Lib.hid hS1
  clear hn hN hS hSp hz hlen hN1 hS1
  go_enter Tryz.func26, Tryz.ntmps26
  go_wp2_with fail
  go_loopw [11, 12] (fun v i wr => ∃ k : Nat, k ≤ N.length ∧ i = .int .i64 k ∧ Hid (∀ j, j < k → argOk N S j) ∧ Hid (RkEnv w.heap.size wr v (envTo N S k)) ∧ Hid (Below w.heap.size w wr)) (fun _ i _ => N.length - (intOf i).toNat)
  case atStart => exact ⟨0, Nat.zero_le _, rfl, Lib.hid (fun j hj => absurd hj (Nat.not_lt_zero _)), Lib.hid (World.ownsRow_nil _ _ _ _), Lib.hid (Below.refl _ _)⟩
  case round =>
    obtain ⟨k, hk, rfl, HG, HE, HB⟩ := hrel
    obtain ⟨Av, Cv, hv⟩ := own_shape HE.out
    rw [envTo_len] at hv
    subst hv
    by_cases hlt : k < N.length
    ·
      have hlt2 : (k : Int) < (S.length : Int) := by have := HLEN.out; omega
      obtain ⟨g1, o1, rfl, k1⟩ := HN1.out (by omega)
      obtain ⟨g2, o2, rfl, k2⟩ := HS1.out (by have := HLEN.out; omega)
      have x1 : wr.cell? ⟨g1, o1 + k, none⟩ = some (.string (N.getD k ByteArray.empty)) := cell_later HB.out (k1 k _ (getD_of hlt))
      have x2 : wr.cell? ⟨g2, o2 + k, none⟩ = some (.string (S.getD k ByteArray.empty)) := cell_later HB.out (k2 k _ (getD_of (by have := HLEN.out; omega)))
      have hsz : (N.getD k ByteArray.empty).size ≤ 140737488351232 := HZ.out _ (List.mem_of_getElem? (getD_of hlt))
      have HIS := Lib.hid (fun w' => rIsName_any (N.getD k ByteArray.empty) w' hsz)
      have HTY := Lib.hid (fun w' => rType_any (S.getD k ByteArray.empty) w')
      clear k1 k2
      cases hnm : Tx.isName (N.getD k ByteArray.empty).data.toList with
      | false =>
        have HNB : Hid (¬ argOk N S k) := Lib.hid (fun h => by rw [h.2] at hnm; cases hnm)
        rw [hnm] at HIS
        generalize N.getD k ByteArray.empty = nk at *
        clear hnm
        go_wp2_with fail
        refine (HIS.out _).mono ?_
        rintro E w3 ⟨rfl, hb3⟩
        have HB3 := Lib.hid (below_later hb3 HB.out)
        clear hb3
        exact absurd (HOK.out k (by omega)) HNB.out
      | true =>
        rw [hnm] at HIS
        cases ht : isTy (S.getD k ByteArray.empty).data.toList with
        | false =>
          have HNB : Hid (¬ argOk N S k) := Lib.hid (fun h => by rw [h.1] at ht; cases ht)
          rw [ht] at HTY
          generalize S.getD k ByteArray.empty = sk at *
          generalize N.getD k ByteArray.empty = nk at *
          clear ht hnm
          go_wp2_with fail
          refine (HIS.out _).mono ?_
          rintro E w3 ⟨rfl, hb3⟩
          have HB3 := Lib.hid (below_later hb3 HB.out)
          have y2 := cell_later hb3 x2
          clear hb3
          go_wp2_with fail
          refine (HTY.out _).mono ?_
          rintro E w4 ⟨rfl, rfl⟩
          clear y2
          exact absurd (HOK.out k (by omega)) HNB.out
        | true =>
          rw [ht] at HTY
          obtain ⟨Tk, e1, hTf, e2⟩ := argOk_ty' ht
          have HEV : Hid (envTo N S (k + 1) = (N.getD k ByteArray.empty, Tk) :: envTo N S k) := Lib.hid (by show (_, _) :: _ = _; rw [e2])
          have HG2 : Hid (∀ j, j < k + 1 → argOk N S j) := Lib.hid (fun j hj => by
            rcases Nat.lt_succ_iff_lt_or_eq.1 hj with h | rfl
            · exact HG.out j h
            · exact ⟨ht, hnm⟩)
          rw [e1] at x2 HTY
          generalize N.getD k ByteArray.empty = nk at *
          clear ht e1 e2 hnm
          go_wp2_with fail
          refine (HIS.out _).mono ?_
          rintro E w3 ⟨rfl, hb3⟩
          have HB3 := Lib.hid (below_later hb3 HB.out)
          have y1 := cell_later hb3 x1
          have y2 := cell_later hb3 x2
          have HE3 : Hid (RkEnv w.heap.size w3 (.slice Av k Cv) (envTo N S k)) := Lib.hid (own_later HE.out hb3)
          clear hb3 x1 x2 HE HB HG
          go_wp2_with fail
          refine (HTY.out _).mono ?_
          rintro E w4 ⟨rfl, rfl⟩
          go_wp2_with fail
          refine wp_region_plan (S := fun w' => w'.cell? ⟨g1, o1 + k, none⟩ = some (.string nk) ∧ w'.cell? ⟨g2, o2 + k, none⟩ = some (.string Tk.str)) [(0, true), (1, true), (2, true), (3, true), (4, true), (5, true), (6, true), (7, true), (8, true), (9, true), (10, false), (11, false), (12, true)] (by kernel_rfl) (by kernel_rfl) (by kernel_rfl) (fun _ _ _ _ _ h => h) ⟨y1, y2⟩ ?_
          intro HS0
          repeat (first | (apply wpPlan_look; rfl; rfl; (intro wq hq; (try dsimp only at hq); go_split_ands; go_simp; (try rw [if_neg (by omega)]); (try rw [if_pos (by omega)]); try with_reducible rfl); simp only [Act.put, List.setIfInBounds_toArray, List.set_cons_zero, List.set_cons_succ]) | (apply wpPlan_skip; rfl; rfl; simp only [Act.put, List.setIfInBounds_toArray, List.set_cons_zero, List.set_cons_succ]) | (apply wpPlan_pass; rfl; rfl; assumption; simp only [Act.put, List.setIfInBounds_toArray, List.set_cons_zero, List.set_cons_succ]))
          have hb5 : Below w3.heap.size w3 (w3.drew.alloc (.cells #[.string nk, .string Tk.str] 88)) := (Below.refl _ _).drew.alloc (Nat.le_refl _) _
          have q1 := cell_later hb5 y1
          have q2 := cell_later hb5 y2
          refine wpPlan_run rfl rfl (by simp [execOp, go_sem, build_bind]; (first | exact ⟨rfl, rfl⟩ | rfl)) _ (fun _ h => h) ⟨q1, q2⟩ ?_
          simp only [Act.put, List.setIfInBounds_toArray, List.set_cons_zero, List.set_cons_succ]
          refine wpPlan_actS rfl rfl fun K hK => ?_
          have hown5 : (w3.drew.alloc (.cells #[.string nk, .string Tk.str] 88)).ownsRow w.heap.size 88 2 (.slice Av k Cv) k ((envTo N S k).reverse.flatMap bcells) := by
            have := own_later HE3.out hb5
            rw [envTo_len] at this
            exact this
          have hnews : ∀ (j : Nat) (v : Value), [Value.string nk, Value.string Tk.str][j]? = some v → (w3.drew.alloc (.cells #[.string nk, .string Tk.str] 88)).cell? ((⟨w3.heap.size, 0, none⟩ : Addr).add j) = some v := by
            intro j v hv
            rw [add_zero_addr]
            change (w3.drew.alloc (.cells #[.string nk, .string Tk.str] 88)).cell? ⟨w3.drew.heap.size, j, none⟩ = some v
            rw [World.cell?_alloc_at _ _ _ _ rfl]
            simpa using hv
          have hsz5 : w.heap.size ≤ (w3.drew.alloc (.cells #[.string nk, .string Tk.str] 88)).heap.size := (below_later hb5 HB3.out).size
          refine wp_append_own _ (.tmp 41) (.tmp 51) 86 rfl w.heap.size 88 i0 _ 2 32 Tryz.underlying86 hi hz0 hz1 hz2 rfl (by decide) _ k ((envTo N S k).reverse.flatMap bcells) rfl hown5 ⟨w3.heap.size, 0, none⟩ 1 1 [.string nk, .string Tk.str] rfl rfl hnews (by intro v hv; simp at hv; rcases hv with rfl | rfl <;> rfl) (by unfold maxLen; omega) (by omega) hsz5 ?_
          intro v' w6 hown' hg _
          have hb6 : Below w.heap.size (w3.drew.alloc (.cells #[.string nk, .string Tk.str] 88)) w6 := (Below.refl _ _).grown hg hsz5 fun k hk => (hown5.lt k hk).1
          have HB6 : Hid (Below w.heap.size w w6) := Lib.hid ((below_later hb5 HB3.out).trans hb6)
          have r1 : w6.cell? ⟨g1, o1 + k, none⟩ = some (.string nk) := below_cell hb6 q1 (by
            have := HN1.out (by omega)
            obtain ⟨g', o', e, kk⟩ := this
            simp only [Option.some.injEq, Addr.mk.injEq] at e
            obtain ⟨rfl, rfl, _⟩ := e
            have h0 := kk k _ (getD_of hlt)
            exact cell_blk h0)
          have r2 : w6.cell? ⟨g2, o2 + k, none⟩ = some (.string Tk.str) := below_cell hb6 q2 (by
            have := HS1.out (by have := HLEN.out; omega)
            obtain ⟨g', o', e, kk⟩ := this
            simp only [Option.some.injEq, Addr.mk.injEq] at e
            obtain ⟨rfl, rfl, _⟩ := e
            have h0 := kk k _ (getD_of (by have := HLEN.out; omega))
            exact cell_blk h0)
          rw [show (envTo N S k).reverse.flatMap bcells ++ [Value.string nk, Value.string Tk.str] = ((nk, Tk) :: envTo N S k).reverse.flatMap bcells from (rev_cons (nk, Tk) (envTo N S k)).symm] at hown'
          have HO6 : Hid (RkEnv w.heap.size w6 v' (envTo N S (k + 1))) := Lib.hid (by
            rw [HEV.out]
            unfold RkEnv
            rw [List.length_cons, envTo_len]
            exact hown')
          refine hK _ _ ⟨_, fun _ h => h, ⟨r1, r2⟩, ?_⟩
          clear HS0 q1 q2 hown5 hnews hown' hg hb5 hb6 hsz5 y1 y2 r1 r2 HB3 HE3
          simp only [Act.put, List.setIfInBounds_toArray, List.set_cons_zero, List.set_cons_succ]
          repeat (first | (apply wpPlan_look; rfl; rfl; (intro wq hq; (try dsimp only at hq); go_split_ands; go_simp; (try rw [if_neg (by omega)]); (try rw [if_pos (by omega)]); try with_reducible rfl); simp only [Act.put, List.setIfInBounds_toArray, List.set_cons_zero, List.set_cons_succ]) | (apply wpPlan_skip; rfl; rfl; simp only [Act.put, List.setIfInBounds_toArray, List.set_cons_zero, List.set_cons_succ]) | (apply wpPlan_pass; rfl; rfl; assumption; simp only [Act.put, List.setIfInBounds_toArray, List.set_cons_zero, List.set_cons_succ]))
          apply wpPlan_done
          go_wp2_with fail
          go_roundw
          case rel => exact ⟨k + 1, by omega, by go_num, HG2, HO6, HB6⟩
          case measure => simp [intOf]; omega
    ·
      obtain rfl : k = N.length := by omega
      have HCK := Lib.hid (fun w' hb => rCheck_any T tv w' (HND.out.later hb) hzT hkT)
      rw [HCC.out] at HCK
      obtain ⟨AT, CT, rfl, hlc, -⟩ := HND.out
      clear HG
      go_wp2_with fail
      refine (HCK.out _ HB.out).mono ?_
      rintro E W ⟨rfl, hb2⟩
      have HBW := Lib.hid (below_later hb2 HB.out)
      have HEW : Hid (RkEnv w.heap.size W (.slice Av N.length Cv) (envTo N S N.length)) := Lib.hid (own_later HE.out hb2)
      have HNW := Lib.hid (HND.out.later HBW.out)
      clear hb2 HB HE HCK
      obtain ⟨i1, hi', hz0', hz1', hz2'⟩ := info_parts strings_info
      go_wp2_with (refine wpList_make_full _ rfl (.tmp 64) (.tmp 64) 23 rfl W.heap.size 9 i1 _ 1 Tryz.underlying23 hi' hz0' hz1' .i64 .i64 (T.length : Int) (T.length : Int) T.length rfl rfl rfl rfl (by rw [hz2']; omega) (by unfold maxLen; omega) (Nat.le_refl _) ?_)
      intro w3 hown hgr
      have hb3 : Below W.heap.size W w3 := (Below.refl _ _).grown hgr (Nat.le_refl _) fun k hk => by cases hk
      rw [toList_madeCells_one] at hown
      have hys : (List.replicate T.length (Value.string ByteArray.empty)) = (List.replicate T.length ByteArray.empty).map Value.string := by rw [List.map_replicate]
      rw [hys] at hown
      have hln : (List.replicate T.length ByteArray.empty).length = T.length := List.length_replicate
      have hb4 : Below w3.heap.size w3 (w3.alloc (.cells #[.slice AT T.length CT, .slice (some ⟨W.heap.size, 0, none⟩) T.length T.length, .int .i64 0, .int .i64 0, .bool sm] 91)) := (Below.refl _ _).alloc (Nat.le_refl _) _
      have HB4 := Lib.hid (below_later hb4 hb3)
      have HCA : Hid (RkAt w3.heap.size W.heap.size sm (.slice AT T.length CT) (.slice (some ⟨W.heap.size, 0, none⟩) T.length T.length) (List.replicate T.length ByteArray.empty) 0 0 (w3.alloc (.cells #[.slice AT T.length CT, .slice (some ⟨W.heap.size, 0, none⟩) T.length T.length, .int .i64 0, .int .i64 0, .bool sm] 91))) := Lib.hid ⟨(MapKept.heap_alloc w3 _).1, by rw [hln]; exact own_later hown hb4⟩
      have hcW : W.heap.size ≤ w3.heap.size := hb3.size
      have hhg := ks.hgt_le
      have hfl : ks.flat.length ≤ T.length := by rw [HTX.out]; simp
      have HPC := Lib.hid (rpart_all T (.slice AT T.length CT) W w3.heap.size W.heap.size sm HNW.out hTl hcW (Nat.le_refl _) HM.out (ks.hgt + 1) x ks [] [] 0 (envTo N S N.length) _ _ _ _ _ 0 (Nat.lt_succ_self _) (by rw [HTX.out]; simp) rfl HO.out HB4.out (RkEnv.own (own_later HEW.out (below_later hb4 hb3))) (by rw [envTo_len]; omega) hln HCA.out)
      have HBA : Hid (∀ w' , KeepN w3.heap.size (Value.slice (some ⟨W.heap.size, 0, none⟩) T.length T.length).ownBlock (w3.alloc (.cells #[.slice AT T.length CT, .slice (some ⟨W.heap.size, 0, none⟩) T.length T.length, .int .i64 0, .int .i64 0, .bool sm] 91)) w' → Below w.heap.size w w') := Lib.hid (fun w' k => by
        have := HCA.out.base k HB4.out hcW (Nat.le_refl _)
        exact below_later this HBW.out)
      have HBS : Hid (w.heap.size ≤ W.heap.size) := Lib.hid HBW.out.size
      have HYL := Lib.hid hln
      have HTX2 : Hid (T.length = 1 + ks.flat.length) := Lib.hid (by rw [HTX.out]; simp; omega)
      clear hown hgr hb3 hys hln hb4 HB4 HCA hcW HNW HEW hi' hz0' hz1' hz2' hhg hfl
      go_wp2_with fail
      refine HPC.out.mono ?_
      rintro E w5 ⟨ys5, rfl, hC5, hK5, hG5, hS5, hL5⟩
      have HC5 := Lib.hid hC5
      have HB5 := Lib.hid (HBA.out _ hK5)
      have HS5 := Lib.hid hS5
      clear HPC HBA hC5 hK5 hS5
      generalize Tr.chk1 sm x ks (envTo N S N.length) 0 = R at *
      cases R with
      | error bb =>
        have c2 : w5.cell? ⟨w3.heap.size, 2, none⟩ = some (.int .i64 bb.1) := HC5.out.c2
        have c3 : w5.cell? ⟨w3.heap.size, 3, none⟩ = some (.int .i64 (bb.2 : Int)) := HC5.out.c3
        have q : (bb.1 != 0) = true := by
          have := hG5 bb rfl
          simpa using this
        have HGB := Lib.hid (hG5 bb rfl)
        have HB6 : Hid (∀ nq, Below w.heap.size w (w5.drewN nq)) := Lib.hid (fun nq => below_later (below_dn w5 nq) HB5.out)
        clear hG5 hL5
        go_wp2_with fail
        go_quiet (fail)
        go_wp2_with fail
        refine bodyPost_ret (v := .tuple #[.slice none 0 0, .int .i64 bb.1, .int .i64 (bb.2 : Int)]) (by simp [results, Tryz.results26, go_sem]) rfl ?_
        exact ⟨HGB.out, Makes.mk rfl (HB6.out _)⟩
      | ok ts =>
        obtain ⟨hla, hln⟩ := hL5 ts rfl
        have c1 := HC5.out.c1
        have c2 : w5.cell? ⟨w3.heap.size, 2, none⟩ = some (.int .i64 0) := HC5.out.c2
        have HR : Hid (w5.ownsRow w.heap.size 9 1 (.slice (some ⟨W.heap.size, 0, none⟩) T.length T.length) ts.length (strs ts)) := Lib.hid (by
          have hl : ys5.length = ts.length := by rw [HS5.out.1, HYL.out, HTX2.out, hln]
          have := HC5.out.own
          rw [laid_all hla hl, hl] at this
          exact own_base this HBS.out)
        clear hG5 hL5 hla hln
        go_wp2_with fail
        refine bodyPost_ret (v := .tuple #[.slice (some ⟨W.heap.size, 0, none⟩) T.length T.length, .int .i64 0, .int .i64 0]) (by simp [results, Tryz.results26, go_sem]) rfl ?_
        exact ⟨_, rfl, HR.out, HB5.out⟩
/-- What is refused ahead of the types. -/
def ExBad (T : List Nd) (N S : List ByteArray) (e p : Int) : Prop := (N.length ≠ S.length ∧ e = 1 ∧ p = 0) ∨ (N.length = S.length ∧ (¬ ∀ j, j < N.length → argOk N S j) ∧ e = 1 ∧ p = 0) ∨ (ArgsOk N S ∧ (Tr.check T).1 ≠ 0 ∧ e = (Tr.check T).1 ∧ p = (Tr.check T).2)
/-- What is not. -/
def ExGood (T : List Nd) (N S : List ByteArray) (x : Nd) (ks : Tr.F) : Prop := ArgsOk N S ∧ T = x :: ks.flat ∧ (Tr.F.cons x ks .nil).Ok ∧ (∀ y ∈ T, Tr.may y = true) ∧ ks.hgt + 1 ≤ 64 ∧ T.length ≤ 4096 ∧ Tr.check T = (0, 0)
omit hn hN hS hSp hz hNl in
theorem ex_cases (T : List Nd) (N S : List ByteArray) : (∃ e p, e ≠ 0 ∧ ExBad T N S e p) ∨ ∃ x ks, ExGood T N S x ks := by
  by_cases hlen : N.length = S.length
  · by_cases ha : ∀ j, j < N.length → argOk N S j
    · by_cases hc : (Tr.check T).1 = 0
      · obtain ⟨hl, x, ks, hT, hO, hm, hh⟩ := Tr.F.of_check hc
        have hcc : Tr.check T = (0, 0) := by rw [hT]; exact Tr.F.check_one (by rw [← hT]; exact hl) hO (by rw [← hT]; exact hm) hh
        exact .inr ⟨x, ks, ⟨hlen, ha⟩, hT, hO, hm, hh, hl, hcc⟩
      · exact .inl ⟨_, _, by omega, .inr (.inr ⟨⟨hlen, ha⟩, hc, rfl, rfl⟩)⟩
    · exact .inl ⟨1, 0, by decide, .inr (.inl ⟨hlen, ha, rfl, rfl⟩)⟩
  · exact .inl ⟨1, 0, by decide, .inl ⟨hlen, rfl, rfl⟩⟩
theorem read_bad (hzT : ∀ x ∈ T, x.s.size ≤ 140737488351232) (hkT : ∀ x ∈ T, x.kids ≤ 9223372036854775807) {e p : Int} (h : ExBad T N S e p) : Calls Tryz.prog 26 #[tv, nv, sv, .bool sm] w (Makes (.tuple #[.slice none 0 0, .int .i64 e, .int .i64 p]) w) := by
  rcases h with ⟨h, rfl, rfl⟩ | ⟨h1, h2, rfl, rfl⟩ | ⟨h1, h2, rfl, rfl⟩
  · exact read_short tv nv sv N S w sm hN hS h
  · exact read_args T tv nv sv N S w sm hn hN hS hSp hz hNl h1 h2
  · exact read_tree T tv nv sv N S w sm hn hN hS hSp hz hNl h1 hzT hkT h2
theorem Expr_bad (hzT : ∀ x ∈ T, x.s.size ≤ 140737488351232) (hkT : ∀ x ∈ T, x.kids ≤ 9223372036854775807) {e p : Int} (h : ExBad T N S e p) : Calls Tryz.prog 9 #[tv, nv, sv] w (Makes (.tuple #[.slice none 0 0, .int .i64 e, .int .i64 p]) w) := by
  rcases h with ⟨h, rfl, rfl⟩ | ⟨h1, h2, rfl, rfl⟩ | ⟨h1, h2, rfl, rfl⟩
  · exact Expr_short tv nv sv N S w hN hS h
  · exact Expr_args T tv nv sv N S w hn hN hS hSp hz (by omega) h1 h2
  · exact Expr_tree T tv nv sv N S w hn hN hS hSp hz (by omega) h1 hzT hkT h2
theorem Expr_good (hTab : Tab w) (hzT : ∀ x ∈ T, x.s.size ≤ 140737488351232) (hkT : ∀ x ∈ T, x.kids ≤ 9223372036854775807) {x : Nd} {ks : Tr.F} (h : ExGood T N S x ks) : Calls Tryz.prog 9 #[tv, nv, sv] w (ExprRes (Tr.chk1 false x ks (envTo N S N.length) 0) w) := by
  obtain ⟨h1, h2, h3, h4, _, h6, h7⟩ := h
  exact Expr_ok T tv nv sv N S w hn hN hS hSp hz (by omega) h1 hTab x ks (by omega) hzT hkT h7 h2 h3 h4
theorem read_good (hzT : ∀ x ∈ T, x.s.size ≤ 140737488351232) (hkT : ∀ x ∈ T, x.kids ≤ 9223372036854775807) {x : Nd} {ks : Tr.F} (h : ExGood T N S x ks) : Calls Tryz.prog 26 #[tv, nv, sv, .bool sm] w (ExprRes (Tr.chk1 sm x ks (envTo N S N.length) 0) w) := by
  obtain ⟨h1, h2, h3, h4, _, h6, h7⟩ := h
  exact read_ok T tv nv sv N S w sm hn hN hS hSp hz hNl h1 x ks (by omega) hzT hkT h7 h2 h3 h4
theorem rExpr_bad (hzT : ∀ x ∈ T, x.s.size ≤ 140737488351232) (hkT : ∀ x ∈ T, x.kids ≤ 9223372036854775807) {e p : Int} (h : ExBad T N S e p) : Calls Tryz.prog 15 #[tv, nv, sv] w (Makes (.tuple #[.slice none 0 0, .int .i64 e, .int .i64 p]) w) := by
  have HR := Lib.hid (read_bad T tv nv sv N S w false hn hN hS hSp hz hNl hzT hkT h)
  clear h
  go_enter Tryz.func15, Tryz.ntmps15
  go_wp2_with fail
  refine HR.out.mono ?_
  rintro E w2 ⟨rfl, hb2⟩
  have HB := Lib.hid hb2
  clear hb2
  go_wp2_with fail
  refine bodyPost_ret (v := .tuple #[.slice none 0 0, .int .i64 e, .int .i64 p]) (by simp [results, Tryz.results15, go_sem]) rfl ?_
  exact Makes.mk rfl HB.out
theorem rExpr_good (hzT : ∀ x ∈ T, x.s.size ≤ 140737488351232) (hkT : ∀ x ∈ T, x.kids ≤ 9223372036854775807) {x : Nd} {ks : Tr.F} (h : ExGood T N S x ks) : Calls Tryz.prog 15 #[tv, nv, sv] w (ExprRes (Tr.chk1 false x ks (envTo N S N.length) 0) w) := by
  have HR := Lib.hid (read_good T tv nv sv N S w false hn hN hS hSp hz hNl hzT hkT h)
  clear h
  generalize Tr.chk1 false x ks (envTo N S N.length) 0 = R at *
  go_enter Tryz.func15, Tryz.ntmps15
  go_wp2_with fail
  refine HR.out.mono ?_
  rintro E w2 hr
  cases R with
  | error b =>
    obtain ⟨hb, rfl, hb2⟩ := hr
    have HB := Lib.hid hb2
    have HG := Lib.hid hb
    clear hb hb2
    go_wp2_with fail
    refine bodyPost_ret (v := .tuple #[.slice none 0 0, .int .i64 b.1, .int .i64 (b.2 : Int)]) (by simp [results, Tryz.results15, go_sem]) rfl ?_
    exact ⟨HG.out, Makes.mk rfl HB.out⟩
  | ok ts =>
    obtain ⟨v, rfl, hown, hb2⟩ := hr
    have HB := Lib.hid hb2
    have HO := Lib.hid hown
    obtain ⟨Av, Cv, rfl⟩ := own_shape hown
    clear hown hb2
    go_wp2_with fail
    refine bodyPost_ret (v := .tuple #[.slice Av ts.length Cv, .int .i64 0, .int .i64 0]) (by simp [results, Tryz.results15, go_sem]) rfl ?_
    exact ⟨_, rfl, HO.out, HB.out⟩
theorem rPlain_bad (hzT : ∀ x ∈ T, x.s.size ≤ 140737488351232) (hkT : ∀ x ∈ T, x.kids ≤ 9223372036854775807) {e p : Int} (h : ExBad T N S e p) : Calls Tryz.prog 10 #[tv, nv, sv] w (Makes (.tuple #[.slice none 0 0, .int .i64 e, .int .i64 p]) w) := by
  have HR := Lib.hid (read_bad T tv nv sv N S w true hn hN hS hSp hz hNl hzT hkT h)
  clear h
  go_enter Tryz.func10, Tryz.ntmps10
  go_wp2_with fail
  refine HR.out.mono ?_
  rintro E w2 ⟨rfl, hb2⟩
  have HB := Lib.hid hb2
  clear hb2
  go_wp2_with fail
  refine bodyPost_ret (v := .tuple #[.slice none 0 0, .int .i64 e, .int .i64 p]) (by simp [results, Tryz.results10, go_sem]) rfl ?_
  exact Makes.mk rfl HB.out
theorem rPlain_good (hzT : ∀ x ∈ T, x.s.size ≤ 140737488351232) (hkT : ∀ x ∈ T, x.kids ≤ 9223372036854775807) {x : Nd} {ks : Tr.F} (h : ExGood T N S x ks) : Calls Tryz.prog 10 #[tv, nv, sv] w (ExprRes (Tr.chk1 true x ks (envTo N S N.length) 0) w) := by
  have HR := Lib.hid (read_good T tv nv sv N S w true hn hN hS hSp hz hNl hzT hkT h)
  clear h
  generalize Tr.chk1 true x ks (envTo N S N.length) 0 = R at *
  go_enter Tryz.func10, Tryz.ntmps10
  go_wp2_with fail
  refine HR.out.mono ?_
  rintro E w2 hr
  cases R with
  | error b =>
    obtain ⟨hb, rfl, hb2⟩ := hr
    have HB := Lib.hid hb2
    have HG := Lib.hid hb
    clear hb hb2
    go_wp2_with fail
    refine bodyPost_ret (v := .tuple #[.slice none 0 0, .int .i64 b.1, .int .i64 (b.2 : Int)]) (by simp [results, Tryz.results10, go_sem]) rfl ?_
    exact ⟨HG.out, Makes.mk rfl HB.out⟩
  | ok ts =>
    obtain ⟨v, rfl, hown, hb2⟩ := hr
    have HB := Lib.hid hb2
    have HO := Lib.hid hown
    obtain ⟨Av, Cv, rfl⟩ := own_shape hown
    clear hown hb2
    go_wp2_with fail
    refine bodyPost_ret (v := .tuple #[.slice Av ts.length Cv, .int .i64 0, .int .i64 0]) (by simp [results, Tryz.results10, go_sem]) rfl ?_
    exact ⟨_, rfl, HO.out, HB.out⟩
end
end Go.Proofs.YtdobaililmkkcaaGreatDoor
