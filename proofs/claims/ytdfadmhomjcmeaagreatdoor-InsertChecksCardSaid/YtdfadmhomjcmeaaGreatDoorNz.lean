
/- Plain: casts are laid where types must agree: the term that a tree becomes; casts aside it is the tree. -/
import Derived.Test.YtdfadmhomjcmeaaGreatDoorKb
import Derived.Test.YtdfadmhomjcmeaaGreatDoorKe
import Derived.Test.YtdfadmhomjcmeaaGreatDoorMg
import Derived.Test.YtdfadmhomjcmeaaGreatDoorKu
import Derived.Test.YtdfadmhomjcmeaaGreatDoorFs
namespace Culp.Ins
set_option linter.unusedSimpArgs false
set_option linter.unusedVariables false
open Culp.Tr
/-- A place of a cast: line, column, rule. -/
abbrev Sit := Int × Int × Int
/-- A kid: its place, its part of the term, its type, where it stands. -/
structure Kd where
  p : Nat
  T : List Nd
  t : Ty
  l : Int
  c : Int
def cast (s t : Ty) (l c : Int) (n : Nat) : Nd := ⟨30, 1, (n : Int), ⟨#[]⟩, s.str, t.str, l, c⟩
def lay (T : List Nd) (s t : Ty) (l c r : Int) (n : Nat) : List Nd × List Sit := if s = t then (T, []) else (cast s t l c (n + 1) :: T, [(l, c, r)])
def layAt (K : List Kd) (i : Nat) (t : Ty) (r : Int) (n : Nat) : List Kd × List Sit := match K[i]? with
  | none => (K, [])
  | some k => (K.set i { k with T := (lay k.T k.t t k.l k.c r n).1 }, (lay k.T k.t t k.l k.c r n).2)
/-- Wishes: which kid, to what type, by which rule. -/
abbrev Wish := Nat × Ty × Int
def layAll : List Wish → List Kd → Nat → List Kd × List Sit
  | [], K, _ => (K, [])
  | (i, t, r) :: W, K, n => ((layAll W (layAt K i t r n).1 (n + (layAt K i t r n).2.length)).1, (layAt K i t r n).2 ++ (layAll W (layAt K i t r n).1 (n + (layAt K i t r n).2.length)).2)
def headed (t u : Ty) : Ty := if t = .dyn then u else t
def innerM (t : Ty) (h : UInt8) : Ty := ((matchT t h).getD []).getD 0 .dyn
def met (L : List Ty) : Ty := L.foldl meet .dyn
def all (n : Nat) (t : Ty) (r : Int) : List Wish := (List.range n).map fun i => (i, t, r)
def wishes (x : Nd) (L : List Ty) : List Wish :=
  if x.kind = 5 ∨ x.kind = 6 then [(0, noteT x.u, 1)]
  else if x.kind = 8 then [(0, noteT x.t, 2)]
  else if x.kind = 7 then [(0, headed (L.getD 0 .dyn) (.fn .dyn .dyn), 3), (1, innerM (L.getD 0 .dyn) 62, 4)]
  else if x.kind = 9 then [(0, .bool, 5), (1, met (L.drop 1), 6), (2, met (L.drop 1), 7)]
  else if x.kind = 10 ∨ x.kind = 11 ∨ x.kind = 12 ∨ x.kind = 16 ∨ x.kind = 14 ∨ x.kind = 15 then all L.length .int 8
  else if x.kind = 13 ∨ x.kind = 17 then all L.length .text 9
  else if x.kind = 19 ∨ x.kind = 20 then [(0, headed (L.getD 0 .dyn) (.pair .dyn .dyn), 10)]
  else if x.kind = 22 ∨ x.kind = 23 ∨ x.kind = 24 then [(0, headed (L.getD 0 .dyn) (.list .dyn), 11)]
  else if x.kind = 25 then [(1, headed (L.getD 1 .dyn) (.list .dyn), 11), (0, innerM (L.getD 1 .dyn) 108, 14)]
  else if x.kind = 27 then [(0, headed (L.getD 0 .dyn) (.box .dyn), 12)]
  else if x.kind = 28 then [(0, headed (L.getD 0 .dyn) (.box .dyn), 12), (1, innerM (L.getD 0 .dyn) 120, 15)]
  else if x.kind = 21 then all L.length (met L) 13
  else []
/-- How far a name's binder is; the names stand with the innermost first. -/
def dist (N : List ByteArray) (s : ByteArray) : Nat := if s ∈ N then N.idxOf s else 0
def no : ByteArray := ⟨#[]⟩
def bare (x : Nd) (N : List ByteArray) (L : List Ty) : Nd :=
  ⟨x.kind, x.kids, if x.kind = 1 ∨ x.kind = 3 then x.n else if x.kind = 4 then (dist N x.s : Int) else 0, if x.kind = 2 then x.s else no,
    if x.kind = 5 ∨ x.kind = 6 ∨ x.kind = 8 then (noteT x.t).str else if x.kind = 21 then (met L).str else no,
    if x.kind = 5 ∨ x.kind = 6 then (noteT x.u).str else no, x.line, x.col⟩
def node (x : Nd) (N : List ByteArray) (K : List Kd) (n : Nat) : List Nd × List Sit :=
  if x.kind = 29 then (match K with
    | [] => ([], [])
    | k :: _ => lay k.T k.t (noteT x.t) x.line x.col 16 n)
  else (bare x N (K.map Kd.t) :: ((layAll (wishes x (K.map Kd.t)) K n).1.map Kd.T).flatten, (layAll (wishes x (K.map Kd.t)) K n).2)
/-- The names that a node's kid number k finds, the innermost first. -/
def innerN (x : Nd) (k : Nat) (N : List ByteArray) : List ByteArray :=
  if x.kind = 5 then x.s :: N
  else if x.kind = 6 then (match two x.s.data.toList with | some (a, b) => ⟨b.toArray⟩ :: ⟨a.toArray⟩ :: N | none => N)
  else if x.kind = 8 ∧ k = 1 then x.s :: N
  else N
theorem innerN_map (x : Nd) (k : Nat) (E : Env) : (innerT x k E).map Prod.fst = innerN x k (E.map Prod.fst) := by
  unfold innerT innerN
  split
  · rfl
  · split
    · cases two x.s.data.toList <;> rfl
    · split <;> rfl
/-- The kids of a forest, each with its part of the term; the sites. The types come by their places. -/
def insF (ts : Nat → Ty) : F → (Nat → List ByteArray) → Nat → Nat → Nat → List Kd × List Sit
  | .nil, _, _, _, _ => ([], [])
  | .cons x ks r, g, k, p, n =>
    let A := insF ts ks (fun j => innerN x j (g k)) 0 (p + 1) n
    let B := node x (g k) A.1 (n + A.2.length)
    let C := insF ts r g (k + 1) (p + 1 + ks.flat.length) (n + A.2.length + B.2.length)
    (⟨p, B.1, ts p, x.line, x.col⟩ :: C.1, A.2 ++ (B.2 ++ C.2))
/-- One part. -/
def ins1 (ts : Nat → Ty) (x : Nd) (ks : F) (N : List ByteArray) (p n : Nat) : List Nd × List Sit :=
  let A := insF ts ks (fun j => innerN x j N) 0 (p + 1) n
  let B := node x N A.1 (n + A.2.length)
  (B.1, A.2 ++ B.2)
theorem insF_cons (ts : Nat → Ty) (x : Nd) (ks r : F) (g : Nat → List ByteArray) (k p n : Nat) : insF ts (.cons x ks r) g k p n =
    (⟨p, (ins1 ts x ks (g k) p n).1, ts p, x.line, x.col⟩ :: (insF ts r g (k + 1) (p + 1 + ks.flat.length) (n + (ins1 ts x ks (g k) p n).2.length)).1, (ins1 ts x ks (g k) p n).2 ++ (insF ts r g (k + 1) (p + 1 + ks.flat.length) (n + (ins1 ts x ks (g k) p n).2.length)).2) := by
  simp only [insF, ins1, List.length_append, Nat.add_assoc, List.append_assoc]
theorem insF_len (ts : Nat → Ty) : ∀ (f : F) (g : Nat → List ByteArray) (k p n : Nat), (insF ts f g k p n).1.length = f.cnt
  | .nil, _, _, _, _ => rfl
  | .cons x ks r, g, k, p, n => by
    rw [insF_cons]
    simp only [List.length_cons, F.cnt]
    rw [insF_len ts r]
    try omega
theorem layAt_len (K : List Kd) (i : Nat) (t : Ty) (r : Int) (n : Nat) : (layAt K i t r n).1.length = K.length := by
  unfold layAt
  split <;> simp
theorem layAll_len : ∀ (W : List Wish) (K : List Kd) (n : Nat), (layAll W K n).1.length = K.length
  | [], _, _ => rfl
  | (i, t, r) :: W, K, n => by
    show (layAll W (layAt K i t r n).1 _).1.length = _
    rw [layAll_len W, layAt_len]
/- Casts aside. -/
def noCast (T : List Nd) : List Nd := T.filter fun x => x.kind != 30
def parts (K : List Kd) : List (List Nd) := K.map fun k => noCast k.T
/-- What is left of a node. -/
def Left (x y : Nd) : Prop := ∃ N L, x = bare y N L
/-- Two lists that go together, one by one. -/
inductive Zip : List Nd → List Nd → Prop
  | nil : Zip [] []
  | cons {x y : Nd} {A B : List Nd} : Left x y → Zip A B → Zip (x :: A) (y :: B)
theorem Zip.append : ∀ {A B C D : List Nd}, Zip A B → Zip C D → Zip (A ++ C) (B ++ D)
  | _, _, _, _, .nil, k => k
  | _, _, _, _, .cons h t, k => .cons h (Zip.append t k)
/-- No cast in the tree, and an As has one kid. -/
def Good : F → Prop
  | .nil => True
  | .cons x ks r => x.kind ≠ 30 ∧ (x.kind = 29 → ks.cnt = 1) ∧ Good ks ∧ Good r
end Culp.Ins

/- Plain: a tree without the unknown type becomes a term without casts. -/
namespace Culp.Ins
set_option linter.unusedSimpArgs false
set_option linter.unusedVariables false
open Culp Culp.Tr
theorem part_head {p : Nat} {t u : Ty} {h : UInt8} {k : Nat} (hp : partT p t h k = .ok u) : ∃ l, matchT t h = some l ∧ u = l.getD k .dyn := by
  unfold partT at hp
  split at hp
  · cases hp
  · rename_i l hl
    exact ⟨l, hl, (Except.ok.inj hp).symm⟩
theorem inner_part {p : Nat} {t u : Ty} {h : UInt8} (hp : partT p t h 0 = .ok u) : innerM t h = u := by
  obtain ⟨l, h1, rfl⟩ := part_head hp
  unfold innerM
  rw [h1]
  rfl
/-- The types stand by their places. -/
def Agr (ts : Nat → Ty) (p : Nat) (l : List Ty) : Prop := ∀ (j : Nat) (t : Ty), l[j]? = some t → ts (p + j) = t
theorem Agr.head {ts : Nat → Ty} {p : Nat} {t : Ty} {l : List Ty} (h : Agr ts p (t :: l)) : ts p = t := h 0 t rfl
theorem Agr.tail {ts : Nat → Ty} {p : Nat} {t : Ty} {l : List Ty} (h : Agr ts p (t :: l)) : Agr ts (p + 1) l := fun j u hj => by
  have := h (j + 1) u (by rw [List.getElem?_cons_succ]; exact hj)
  rw [show p + 1 + j = p + (j + 1) by omega]
  exact this
theorem Agr.left {ts : Nat → Ty} {p : Nat} {l m : List Ty} (h : Agr ts p (l ++ m)) : Agr ts p l := fun j u hj => h j u (by rw [List.getElem?_append_left (List.getElem?_eq_some_iff.1 hj).1]; exact hj)
theorem Agr.right {ts : Nat → Ty} {p n : Nat} {l m : List Ty} (h : Agr ts p (l ++ m)) (hn : l.length = n) : Agr ts (p + n) m := fun j u hj => by
  subst hn
  have := h (l.length + j) u (by rw [List.getElem?_append_right (by omega)]; simpa using hj)
  rw [Nat.add_assoc]
  exact this
theorem insF_types (ts : Nat → Ty) : ∀ (f : F) (g : Nat → List ByteArray) (k p n : Nat), (insF ts f g k p n).1.map (fun d => (d.p, d.t)) = (f.places p).map fun q => (q, ts q)
  | .nil, _, _, _, _ => rfl
  | .cons x ks r, g, k, p, n => by
    rw [insF_cons]
    simp only [List.map_cons, F.places]
    rw [insF_types ts r]
/-- The kids' types are those that were told. -/
theorem kid_types {same : Bool} (ts : Nat → Ty) : ∀ (f : F) (g : Nat → Env) (k p : Nat) (K : List (Nat × List Ty)), chk same f g k p = .ok K → Agr ts p ((K.map Prod.snd).flatten) → (K.map fun a => (a.1, a.2.headD .dyn)) = (f.places p).map fun q => (q, ts q)
  | .nil, g, k, p, K, h, _ => by
    simp only [chk, Except.ok.injEq] at h
    subst h; rfl
  | .cons x ks r, g, k, p, K, h, hA => by
    obtain ⟨K1, t, R, _, h2, _, _, h5, rfl⟩ := F.chk_cons h
    have hl := F.chk_len same ks _ 0 (p + 1) K1 h2
    simp only [List.map_cons, List.flatten_cons, List.headD_cons, F.places]
    simp only [List.map_cons, List.flatten_cons] at hA
    have e1 := hA.left.head
    have e2 := hA.right (n := 1 + ks.flat.length) (by rw [List.length_cons, hl]; omega)
    rw [show p + (1 + ks.flat.length) = p + 1 + ks.flat.length by omega] at e2
    rw [e1, kid_types ts r g (k + 1) (p + 1 + ks.flat.length) R h5 e2]
end Culp.Ins

/- Plain: a part of a term that checks, wherever it lies; casts laid around kids. -/
namespace Culp.Ins
set_option linter.unusedSimpArgs false
set_option linter.unusedVariables false
open Culp Culp.Tr
theorem cons_self : ∀ t : Ty, cons t t = true := by
  intro t
  induction t with
  | fn a b ha hb => simp [cons, ha, hb]
  | pair a b ha hb => simp [cons, ha, hb]
  | list a ha => simp [cons, ha]
  | box a ha => simp [cons, ha]
  | _ => rfl
/-- A less precise type is consistent with a more precise one. -/
theorem cons_of_prec {m a : Ty} (h : prec m a = true) : cons a m = true := cons_prec (cons_self m) h (prec_refl m)
def At (T L : List Nd) (p : Nat) : Prop := ∀ (i : Nat) (y : Nd), L[i]? = some y → T[p + i]? = some y
theorem At.left {T A B : List Nd} {p : Nat} (h : At T (A ++ B) p) : At T A p := fun i y hy => h i y (by rw [List.getElem?_append_left (List.getElem?_eq_some_iff.1 hy).1]; exact hy)
theorem At.right {T A B : List Nd} {p : Nat} (h : At T (A ++ B) p) : At T B (p + A.length) := fun i y hy => by
  have := h (A.length + i) y (by rw [List.getElem?_append_right (by omega)]; simpa using hy)
  rw [Nat.add_assoc]
  exact this
theorem At.head {T A : List Nd} {x : Nd} {p : Nat} (h : At T (x :: A) p) : T[p]? = some x := h 0 x rfl
theorem At.tail {T A : List Nd} {x : Nd} {p : Nat} (h : At T (x :: A) p) : At T A (p + 1) := fun i y hy => by
  have := h (i + 1) y (by rw [List.getElem?_cons_succ]; exact hy)
  rw [show p + 1 + i = p + (i + 1) by omega]
  exact this
/-- A part of a term with its type under binders, wherever it lies. -/
def Okp (L : List Nd) (E : List Ty) (t : Ty) : Prop := ∀ (T : List Nd) (p : Nat), At T L p → ∀ f, L.length ≤ f → shapeM T f p = .ok (p + L.length) ∧ typedM T f E p = .ok (t, p + L.length)
def Oks (E : List Ty) : List (List Nd) → List Ty → Prop
  | [], [] => True
  | L :: Ls, t :: ts => Okp L E t ∧ Oks E Ls ts
  | _, _ => False
theorem oks_run {E : List Ty} {T : List Nd} {f : Nat} : ∀ (Ls : List (List Nd)) (ts : List Ty) (p : Nat), Oks E Ls ts → At T Ls.flatten p → Ls.flatten.length ≤ f → timesM (shapeM T f) Ls.length p = .ok (p + Ls.flatten.length) ∧ kidsM (typedM T f E) Ls.length p = .ok (ts, p + Ls.flatten.length)
  | [], [], p, _, _, _ => ⟨rfl, rfl⟩
  | [], _ :: _, _, h, _, _ => h.elim
  | _ :: _, [], _, h, _, _ => h.elim
  | L :: Ls, t :: ts, p, h, hA, hf => by
    rw [List.flatten_cons] at hA hf
    rw [List.length_append] at hf
    obtain ⟨h1, h2⟩ := h.1 T p hA.left f (by omega)
    obtain ⟨k1, k2⟩ := oks_run (T := T) (f := f) Ls ts (p + L.length) h.2 hA.right (by omega)
    rw [List.flatten_cons, List.length_append, ← Nat.add_assoc]
    constructor
    · simp only [List.length_cons, timesM, h1]
      exact k1
    · simp only [List.length_cons, kidsM, h2, k2]
theorem shape_over {x : Nd} {E : List Ty} {Ls : List (List Nd)} {ts : List Ty} (hk : kidsOk x = true) (hn : x.kids = (Ls.length : Int)) (hO : Oks E Ls ts) {T : List Nd} {p f : Nat} (hA : At T (x :: Ls.flatten) p) (hf : Ls.flatten.length ≤ f) : shapeM T (f + 1) p = .ok (p + (x :: Ls.flatten).length) := by
  rw [shapeM, hA.head]
  simp only [hk, if_true]
  rw [hn, Int.toNat_natCast, (oks_run Ls ts (p + 1) hO hA.tail hf).1]
  congr 1
  rw [List.length_cons]
  omega
theorem node_ok {x : Nd} {E : List Ty} {Ls : List (List Nd)} {ts : List Ty} {t : Ty} (hk : kidsOk x = true) (hn : x.kids = (Ls.length : Int)) (hw : wordsM x E.length = none) (h4 : x.kind ≠ 4) (h5 : x.kind ≠ 5) (h6 : x.kind ≠ 6) (h8 : x.kind ≠ 8) (hO : Oks E Ls ts) (hr : ruleM x ts = .ok t) : Okp (x :: Ls.flatten) E t := by
  intro T p hA f hf
  obtain ⟨f, rfl⟩ : ∃ k, f = k + 1 := ⟨f - 1, by rw [List.length_cons] at hf; omega⟩
  have hf' : Ls.flatten.length ≤ f := by rw [List.length_cons] at hf; omega
  refine ⟨shape_over hk hn hO hA hf', ?_⟩
  rw [typedM, hA.head]
  simp only [hw, if_neg h4, if_neg h5, if_neg h6, if_neg h8]
  rw [hn, Int.toNat_natCast, (oks_run Ls ts (p + 1) hO hA.tail hf').2]
  simp only [hr, List.length_cons]
  congr 2
  omega
theorem var_ok {x : Nd} {E : List Ty} {t : Ty} (h4 : x.kind = 4) (hk : x.kids = 0) (h0 : 0 ≤ x.n) (h : E[x.n.toNat]? = some t) : Okp [x] E t := by
  intro T p hA f hf
  obtain ⟨f, rfl⟩ : ∃ k, f = k + 1 := ⟨f - 1, by simp at hf; omega⟩
  have hko : kidsOk x = true := by simp [kidsOk, arM, h4, hk]
  have hlt : x.n.toNat < E.length := (List.getElem?_eq_some_iff.1 h).1
  refine ⟨shape_over (Ls := []) (ts := []) (E := E) hko hk trivial hA (Nat.zero_le _), ?_⟩
  have hw : wordsM x E.length = none := by
    unfold wordsM
    simp only [h4]
    simp
    omega
  rw [typedM, hA.head]
  simp only [hw, h4, if_true, h]
  rfl
theorem fn_ok {x : Nd} {E : List Ty} {L : List Nd} {a u : Ty} (h5 : x.kind = 5) (hk : x.kids = 1) (ha : x.t = a.str) (hu : x.u = u.str) (fa : a.fits) (fu : u.fits) (hl : (Ty.fn a u).enc.length ≤ 64) (h : Okp L (a :: E) u) : Okp (x :: L) E (.fn a u) := by
  intro T p hA f hf
  obtain ⟨f, rfl⟩ : ∃ k, f = k + 1 := ⟨f - 1, by rw [List.length_cons] at hf; omega⟩
  rw [List.length_cons] at hf
  have hko : kidsOk x = true := by simp [kidsOk, arM, h5, hk]
  have ea : tyOf x.t = some a := by rw [ha]; exact tyOf_str a fa
  have eu : tyOf x.u = some u := by rw [hu]; exact tyOf_str u fu
  obtain ⟨h1, h2⟩ := h T (p + 1) hA.tail f (by omega)
  have hw : wordsM x E.length = none := by simp [wordsM, h5, ea, eu]
  have e1 : p + 1 + L.length = p + (L.length + 1) := by omega
  constructor
  · rw [shapeM, hA.head]
    simp only [hko, if_true, hk]
    show timesM (shapeM T f) 1 (p + 1) = _
    simp only [timesM, h1, List.length_cons, e1]
  · rw [typedM, hA.head]
    simp only [hw, h5, ea, eu, madeM, hl, if_true, atM, bodyM, h2, List.length_cons, e1]
    simp
theorem rec_ok {x : Nd} {E : List Ty} {L : List Nd} {a u : Ty} (h6 : x.kind = 6) (hk : x.kids = 1) (ha : x.t = a.str) (hu : x.u = u.str) (fa : a.fits) (fu : u.fits) (hl : (Ty.fn a u).enc.length ≤ 64) (h : Okp L (a :: .fn a u :: E) u) : Okp (x :: L) E (.fn a u) := by
  intro T p hA f hf
  obtain ⟨f, rfl⟩ : ∃ k, f = k + 1 := ⟨f - 1, by rw [List.length_cons] at hf; omega⟩
  rw [List.length_cons] at hf
  have hko : kidsOk x = true := by simp [kidsOk, arM, h6, hk]
  have ea : tyOf x.t = some a := by rw [ha]; exact tyOf_str a fa
  have eu : tyOf x.u = some u := by rw [hu]; exact tyOf_str u fu
  obtain ⟨h1, h2⟩ := h T (p + 1) hA.tail f (by omega)
  have hw : wordsM x E.length = none := by simp [wordsM, h6, ea, eu]
  have e1 : p + 1 + L.length = p + (L.length + 1) := by omega
  constructor
  · rw [shapeM, hA.head]
    simp only [hko, if_true, hk]
    show timesM (shapeM T f) 1 (p + 1) = _
    simp only [timesM, h1, List.length_cons, e1]
  · rw [typedM, hA.head]
    simp only [hw, h6, ea, eu, madeM, hl, if_true, atM, bodyM, h2, List.length_cons, e1]
    simp
theorem let_ok {x : Nd} {E : List Ty} {A B : List Nd} {s t : Ty} (h8 : x.kind = 8) (hk : x.kids = 2) (h1 : Okp A E s) (h2 : Okp B (s :: E) t) : Okp (x :: (A ++ B)) E t := by
  intro T p hA f hf
  obtain ⟨f, rfl⟩ : ∃ k, f = k + 1 := ⟨f - 1, by rw [List.length_cons] at hf; omega⟩
  rw [List.length_cons, List.length_append] at hf
  have hko : kidsOk x = true := by simp [kidsOk, arM, h8, hk]
  obtain ⟨a1, a2⟩ := h1 T (p + 1) hA.tail.left f (by omega)
  obtain ⟨b1, b2⟩ := h2 T (p + 1 + A.length) hA.tail.right f (by omega)
  have hw : wordsM x E.length = none := by simp [wordsM, h8]
  have e1 : p + 1 + A.length + B.length = p + (A.length + B.length + 1) := by omega
  constructor
  · rw [shapeM, hA.head]
    simp only [hko, if_true, hk]
    show timesM (shapeM T f) 2 (p + 1) = _
    simp only [timesM, a1, b1, List.length_cons, List.length_append, e1]
  · rw [typedM, hA.head]
    simp only [hw, h8, a2]
    simp only [b2, List.length_cons, List.length_append, e1]
    simp
theorem cast_ok {L : List Nd} {E : List Ty} {s t : Ty} {l c : Int} {n : Nat} (h : Okp L E s) (hc : cons s t = true) (fs : s.fits) (ft : t.fits) (h1 : 1 ≤ n) (hn : n ≤ 2147483647) : Okp (cast s t l c n :: L) E t := by
  have e : (cast s t l c n :: L) = cast s t l c n :: [L].flatten := by simp
  rw [e]
  refine node_ok (ts := [s]) rfl rfl ?_ (show (30 : Int) ≠ 4 by decide) (show (30 : Int) ≠ 5 by decide) (show (30 : Int) ≠ 6 by decide) (show (30 : Int) ≠ 8 by decide) ⟨h, trivial⟩ ?_
  · have h1' : (1 : Int) ≤ (n : Int) ∧ (n : Int) ≤ 2147483647 := by omega
    simp [wordsM, cast, tyOf_str s fs, tyOf_str t ft, hc, h1']
  · simp [ruleM, cast, tyOf_str s fs, tyOf_str t ft, needM]
theorem lay_ok {L : List Nd} {E : List Ty} {s t : Ty} {l c r : Int} {n : Nat} (h : Okp L E s) (hc : cons s t = true) (fs : s.fits) (ft : t.fits) (hn : n + 1 ≤ 2147483647) : Okp (lay L s t l c r n).1 E t := by
  unfold lay
  split
  · rename_i he; subst he; exact h
  · exact cast_ok h hc fs ft (by omega) hn
theorem lay_len (L : List Nd) (s t : Ty) (l c r : Int) (n : Nat) : (lay L s t l c r n).2.length ≤ 1 := by
  unfold lay
  split <;> simp
/-- The types of the parts after the wishes. -/
def finF : List Wish → (Nat → Ty) → Nat → Ty
  | [], τ => τ
  | (j, t, _) :: W, τ => finF W (fun i => if i = j then t else τ i)
theorem layAt_get {K : List Kd} {j i : Nat} {t : Ty} {r : Int} {n : Nat} {k : Kd} (h : (layAt K j t r n).1[i]? = some k) : ∃ k0, K[i]? = some k0 ∧ k.t = k0.t ∧ k.p = k0.p ∧ ((i ≠ j ∧ k.T = k0.T) ∨ (i = j ∧ k.T = (lay k0.T k0.t t k0.l k0.c r n).1)) := by
  unfold layAt at h
  split at h
  · rename_i hj
    refine ⟨k, h, rfl, rfl, .inl ⟨?_, rfl⟩⟩
    rintro rfl
    rw [hj] at h
    cases h
  · rename_i k1 hk1
    simp only [List.getElem?_set] at h
    split at h
    · rename_i hij
      subst hij
      split at h
      · injection h with h
        subst h
        exact ⟨k1, hk1, rfl, rfl, .inr ⟨rfl, rfl⟩⟩
      · cases h
    · rename_i hij
      exact ⟨k, h, rfl, rfl, .inl ⟨fun e => hij e.symm, rfl⟩⟩
theorem layAll_ok : ∀ (W : List Wish) (K : List Kd) (n : Nat) (E : Nat → List Ty) (τ : Nat → Ty), (W.map Prod.fst).Nodup → n + W.length ≤ 2147483647 →
    (∀ i k, K[i]? = some k → Okp k.T (E i) (τ i) ∧ k.t.fits) → (∀ w ∈ W, ∀ k, K[w.1]? = some k → τ w.1 = k.t ∧ cons k.t w.2.1 = true ∧ w.2.1.fits) →
    ∀ i k, (layAll W K n).1[i]? = some k → Okp k.T (E i) (finF W τ i)
  | [], K, n, E, τ, _, _, hK, _ => fun i k hk => (hK i k hk).1
  | (j, t, r) :: W, K, n, E, τ, hnd, hn, hK, hW => by
    rw [List.map_cons, List.nodup_cons] at hnd
    rw [List.length_cons] at hn
    have hlen : (layAt K j t r n).2.length ≤ 1 := by
      unfold layAt
      split
      · simp
      · exact lay_len _ _ _ _ _ _ _
    refine layAll_ok W (layAt K j t r n).1 (n + (layAt K j t r n).2.length) E (fun i => if i = j then t else τ i) hnd.2 (by omega) (fun i k hk => ?_) (fun w hw k hk => ?_)
    · obtain ⟨k0, h0, h1, _, h2⟩ := layAt_get hk
      obtain ⟨a, b⟩ := hK i k0 h0
      refine ⟨?_, by rw [h1]; exact b⟩
      rcases h2 with ⟨hne, hT⟩ | ⟨rfl, hT⟩
      · simp only [if_neg hne]
        rw [hT]; exact a
      · simp only [if_true]
        obtain ⟨c1, c2, c3⟩ := hW (i, t, r) List.mem_cons_self k0 h0
        rw [hT]
        exact lay_ok (by rw [← c1]; exact a) c2 b c3 (by omega)
    · obtain ⟨k0, h0, h1, _, h2⟩ := layAt_get hk
      have hne : w.1 ≠ j := fun e => hnd.1 (by have := List.mem_map_of_mem (f := Prod.fst) hw; rw [e] at this; exact this)
      obtain ⟨c1, c2, c3⟩ := hW w (List.mem_cons_of_mem _ hw) k0 h0
      simp only [if_neg hne]
      rw [h1]
      exact ⟨c1, c2, c3⟩
theorem oks_of (E : List Ty) : ∀ (K : List Kd) (ts : List Ty), K.length = ts.length → (∀ (i : Nat) (k : Kd) (t : Ty), K[i]? = some k → ts[i]? = some t → Okp k.T E t) → Oks E (K.map Kd.T) ts
  | [], [], _, _ => trivial
  | [], _ :: _, h, _ => by simp at h
  | _ :: _, [], h, _ => by simp at h
  | k :: K, t :: ts, hl, h => ⟨h 0 k t rfl rfl, oks_of E K ts (by simpa using hl) fun i k' t' hk ht => h (i + 1) k' t' (by rw [List.getElem?_cons_succ]; exact hk) (by rw [List.getElem?_cons_succ]; exact ht)⟩
end Culp.Ins

/- Plain: the term that a tree becomes checks, with the tree's type. -/
namespace Culp.Ins
set_option linter.unusedSimpArgs false
set_option linter.unusedVariables false
open Culp Culp.Tr Go.Proofs.YtdfadmhomjcmeaaGreatDoor
theorem fit_cons {s t : Ty} {e : Int} {p : Nat} {u : Unit} (h : fitT false s t e p = .ok u) : cons s t = true := fitT_cons h
theorem fitG_cons {α : Type} {R : Except Bad α} {s t : Ty} {e : Int} {p : Nat} {v : α} (h : fitG false R s t e p = .ok v) : cons s t = true ∧ R = .ok v := by
  refine ⟨?_, fitG_ok h⟩
  cases R with
  | error b => cases h
  | ok x =>
    unfold fitG at h
    dsimp only at h
    obtain ⟨_, h, _⟩ := map_ok' h
    exact fit_cons h
theorem each_cons {t : Ty} : ∀ {K : List (Nat × Ty)} {u : Unit}, eachT false t K = .ok u → ∀ a ∈ K, cons a.2 t = true
  | [], _, _ => fun a ha => by cases ha
  | (p, s) :: K, u, h => by
    unfold eachT at h
    cases hf : fitT false s t 23 p with
    | error b => rw [hf] at h; cases h
    | ok v =>
      rw [hf] at h
      intro a ha
      rcases List.mem_cons.1 ha with rfl | ha
      · exact fit_cons hf
      · exact each_cons h a ha
theorem meets_prec {p : Nat} : ∀ {K : List (Nat × Ty)} {m r : Ty}, m.fits → meetsT false p m K = .ok r → prec r m = true ∧ (∀ a ∈ K, prec r a.2 = true) ∧ r = (K.map Prod.snd).foldl meet m ∧ r.fits
  | [], m, r, hm, h => by
    have e := Except.ok.inj h
    subst e
    exact ⟨prec_refl _, by simp, rfl, hm⟩
  | (q, s) :: K, m, r, hm, h => by
    unfold meetsT at h
    cases hf : fitT false m s 25 q with
    | error b => rw [hf] at h; cases h
    | ok v =>
      rw [hf] at h
      dsimp only at h
      split at h
      · rename_i h64
        obtain ⟨h1, h2, h3, h4⟩ := meets_prec (m := meet m s) h64 h
        obtain ⟨a, b⟩ := meet_prec (fit_cons hf)
        refine ⟨prec_trans h1 a, fun c hc => ?_, h3, h4⟩
        rcases List.mem_cons.1 hc with rfl | hc
        · exact prec_trans h1 b
        · exact h2 c hc
      · cases h
theorem headed_cons (t u : Ty) : cons t (headed t u) = true := by
  unfold headed
  split
  · rename_i h; subst h; simp
  · exact cons_self t
theorem all_nodup (n : Nat) (t : Ty) (r : Int) : ((all n t r).map Prod.fst).Nodup := by
  unfold all
  rw [List.map_map]
  have : (List.range n).map (Prod.fst ∘ fun i => ((i, t, r) : Wish)) = List.range n := by
    have e : (Prod.fst ∘ fun i => ((i, t, r) : Wish)) = id := rfl
    rw [e, List.map_id]
  rw [this]
  exact List.nodup_range
theorem finF_same {i : Nat} {t : Ty} : ∀ (W : List Wish) (τ : Nat → Ty), (∀ w ∈ W, w.2.1 = t) → (τ i = t ∨ ∃ w ∈ W, w.1 = i) → finF W τ i = t
  | [], τ, _, h => by
    rcases h with h | ⟨w, hw, _⟩
    · exact h
    · cases hw
  | (j, u, r) :: W, τ, h1, h2 => by
    have hu : u = t := h1 (j, u, r) List.mem_cons_self
    show finF W _ i = _
    refine finF_same W _ (fun w hw => h1 w (List.mem_cons_of_mem _ hw)) ?_
    by_cases hij : i = j
    · left; rw [if_pos hij]; exact hu
    · rw [if_neg hij]
      rcases h2 with h2 | ⟨w, hw, e⟩
      · exact .inl h2
      · rcases List.mem_cons.1 hw with rfl | hw
        · exact absurd e.symm hij
        · exact .inr ⟨w, hw, e⟩
theorem finF_all {n i : Nat} {t : Ty} {r : Int} {τ : Nat → Ty} (h : i < n) : finF (all n t r) τ i = t := by
  refine finF_same _ _ (fun w hw => ?_) (.inr ⟨(i, t, r), ?_, rfl⟩)
  · unfold all at hw
    obtain ⟨j, _, rfl⟩ := List.mem_map.1 hw
    rfl
  · unfold all
    exact List.mem_map.2 ⟨i, List.mem_range.2 h, rfl⟩
/-- The kids of a node, its own binders aside, after the wishes. -/
theorem laid_oks {x : Nd} {E : Env} {D : List Kd} {n : Nat} {W : List Wish} (hE : ∀ i, innerT x i E = E) (hD : ∀ i d, D[i]? = some d → Okp d.T ((innerT x i E).map Prod.snd) d.t ∧ d.t.fits) (hnd : (W.map Prod.fst).Nodup) (hn : n + W.length ≤ 2147483647)
    (hW : ∀ w ∈ W, ∀ d, D[w.1]? = some d → cons d.t w.2.1 = true ∧ w.2.1.fits) (fts : List Ty) (hl : fts.length = D.length) (hf : ∀ i d, D[i]? = some d → fts[i]? = some (finF W (fun i => (D.map Kd.t).getD i .dyn) i)) : Oks (E.map Prod.snd) ((layAll W D n).1.map Kd.T) fts := by
  have hτ : ∀ i d, D[i]? = some d → (D.map Kd.t).getD i .dyn = d.t := fun i d hd => by
    rw [List.getD_eq_getElem?_getD, List.getElem?_map, hd]; rfl
  have key := layAll_ok W D n (fun _ => E.map Prod.snd) (fun i => (D.map Kd.t).getD i .dyn) hnd hn (fun i d hd => by
    have := hD i d hd
    rw [hE] at this
    show Okp d.T _ ((D.map Kd.t).getD i .dyn) ∧ _
    rw [hτ i d hd]
    exact this) (fun w hw d hd => ⟨hτ _ _ hd, hW w hw d hd⟩)
  refine oks_of _ _ _ (by rw [layAll_len, hl]) fun i d t hd ht => ?_
  have hlt : i < D.length := by
    have := (List.getElem?_eq_some_iff.1 hd).1
    rw [layAll_len] at this
    exact this
  have h2 := hf i D[i] (List.getElem?_eq_getElem hlt)
  rw [h2] at ht
  injection ht with ht
  rw [← ht]
  exact key i d hd
theorem ite_len {p : Prop} [Decidable p] {a b : List Wish} {m : Nat} (ha : a.length ≤ m) (hb : b.length ≤ m) : (if p then a else b).length ≤ m := by
  split <;> assumption
theorem wishes_len (x : Nd) (L : List Ty) : (wishes x L).length ≤ L.length + 3 := by
  unfold wishes
  repeat' (apply ite_len)
  all_goals first
    | (simp [all]; done)
    | (simp [all]; omega)
theorem dist_get : ∀ (E : Env) (s : ByteArray) (t : Ty), lookT E s = some t → (E.map Prod.snd)[dist (E.map Prod.fst) s]? = some t
  | [], s, t, h => by cases h
  | (a, u) :: E, s, t, h => by
    unfold lookT at h
    unfold dist
    split at h
    · rename_i he
      subst he
      simp only [List.map_cons, List.mem_cons, true_or, if_true, List.idxOf_cons_self, List.getElem?_cons_zero]
      exact h
    · rename_i he
      have ih := dist_get E s t h
      have hmem : s ∈ E.map Prod.fst := by
        by_cases hm : s ∈ E.map Prod.fst
        · exact hm
        · exfalso
          have : ∀ (E : Env), s ∉ E.map Prod.fst → lookT E s = none := by
            intro E
            induction E with
            | nil => intro _; rfl
            | cons b E ih =>
              intro hb
              obtain ⟨b1, b2⟩ := b
              simp only [List.map_cons, List.mem_cons, not_or] at hb
              unfold lookT
              rw [if_neg (fun e => hb.1 e.symm)]
              exact ih hb.2
          rw [this E hm] at h
          cases h
      unfold dist at ih
      rw [if_pos hmem] at ih
      simp only [List.map_cons]
      rw [if_pos (List.mem_cons_of_mem _ hmem)]
      have hi : (a :: E.map Prod.fst).idxOf s = (E.map Prod.fst).idxOf s + 1 := by
        rw [List.idxOf_cons]
        have hb : (a == s) = false := beq_eq_false_iff_ne.2 he
        rw [hb]; rfl
      rw [hi, List.getElem?_cons_succ]
      exact ih
end Culp.Ins

/- Plain: the term that a tree becomes checks, with the tree's type: node by node. -/
namespace Culp.Ins
set_option linter.unusedSimpArgs false
set_option linter.unusedVariables false
open Culp Culp.Tr Go.Proofs.YtdfadmhomjcmeaaGreatDoor
theorem inner_plain {x : Nd} {E : Env} (h5 : x.kind ≠ 5) (h6 : x.kind ≠ 6) (h8 : x.kind ≠ 8) : ∀ i, innerT x i E = E := fun i => by
  unfold innerT
  rw [if_neg h5, if_neg h6, if_neg (fun h => h8 h.1)]
theorem part_cons2 {p : Nat} {t u : Ty} {h : UInt8} {k : Nat} (hh : (h = 62 ∨ h = 44) ∨ (h = 108 ∨ h = 120)) (hp : partT p t h k = .ok u) : t = .dyn ∨ (t.hd = h ∧ u = t.kids.getD k .dyn) := by
  obtain ⟨l, h1, rfl⟩ := part_head hp
  unfold matchT at h1
  by_cases hd : t = .dyn
  · exact .inl hd
  · rw [if_neg hd] at h1
    split at h1
    · rename_i he
      injection h1 with h1
      subst h1
      exact .inr ⟨he, rfl⟩
    · cases h1
theorem part_dyn {p : Nat} {u : Ty} {h : UInt8} {k : Nat} (hp : partT p .dyn h k = .ok u) : u = .dyn := by
  obtain ⟨l, h1, rfl⟩ := part_head hp
  unfold matchT at h1
  rw [if_pos rfl] at h1
  split at h1
  · injection h1 with h1
    subst h1
    match k with
    | 0 => rfl
    | 1 => rfl
    | k + 2 => rfl
  · injection h1 with h1
    subst h1
    match k with
    | 0 => rfl
    | k + 1 => rfl
theorem may_words {x : Nd} (hm : may x = true) : x.kind ≠ 30 ∧ 0 ≤ x.kids ∧ (arit x.kind = -1 ∨ arit x.kind = x.kids) ∧ (x.kind = 2 → x.s.size ≤ 64) ∧ (x.kind = 3 → x.n = 0 ∨ x.n = 1) := by
  unfold may kOk at hm
  simp only [Bool.and_eq_true, decide_eq_true_eq, Bool.or_eq_true] at hm
  obtain ⟨⟨⟨⟨⟨⟨h1, h2⟩, h3⟩, hn⟩, hs⟩, _⟩, _⟩ := hm
  refine ⟨h1, h2, h3, fun h => ?_, fun h => ?_⟩
  · unfold sOk at hs
    rw [if_pos h] at hs
    obtain ⟨q, hq⟩ := Option.isSome_iff_exists.1 hs
    unfold Tx.quote at hq
    split at hq
    · cases hq
    · rename_i hl
      have e : x.s.data.toList.length = x.s.size := by rw [Array.length_toList]; rfl
      omega
  · unfold nOk at hn
    rw [if_neg (by omega), if_pos h] at hn
    simpa using hn
section
variable {x : Nd} {E : Env} {p n : Nat} {D : List Kd} {t : Ty}
/-- A node whose kids all see the same names. -/
theorem plain_typed (hm : may x = true) (hl : (D.length : Int) = x.kids) (h4 : x.kind ≠ 4) (h5 : x.kind ≠ 5) (h6 : x.kind ≠ 6) (h8 : x.kind ≠ 8) (h29 : x.kind ≠ 29)
    (hD : ∀ i d, D[i]? = some d → Okp d.T ((innerT x i E).map Prod.snd) d.t ∧ d.t.fits) (hn : n + D.length + 3 ≤ 2147483647)
    (hnd : ((wishes x (D.map Kd.t)).map Prod.fst).Nodup) (hW : ∀ w ∈ wishes x (D.map Kd.t), ∀ d, D[w.1]? = some d → cons d.t w.2.1 = true ∧ w.2.1.fits) (fts : List Ty) (hfl : fts.length = D.length)
    (hf : ∀ i d, D[i]? = some d → fts[i]? = some (finF (wishes x (D.map Kd.t)) (fun i => (D.map Kd.t).getD i .dyn) i))
    (h21 : x.kind = 21 → (met (D.map Kd.t)).fits) (hr : ∀ y : Nd, y.kind = x.kind → (x.kind = 21 → y.t = (met (D.map Kd.t)).str) → ruleM y fts = .ok t) : Okp (node x (E.map Prod.fst) D n).1 (E.map Prod.snd) t := by
  obtain ⟨m30, m0, mk, m2, m3⟩ := may_words hm
  have hwl := wishes_len x (D.map Kd.t)
  rw [List.length_map] at hwl
  unfold node
  rw [if_neg h29]
  have hO := laid_oks (n := n) (inner_plain h5 h6 h8) hD hnd (by omega) hW fts hfl hf
  generalize hb : bare x (E.map Prod.fst) (D.map Kd.t) = b
  have bk : b.kind = x.kind := by rw [← hb]; rfl
  have bks : b.kids = x.kids := by rw [← hb]; rfl
  have bt : x.kind = 21 → b.t = (met (D.map Kd.t)).str := fun h => by
    rw [← hb]
    unfold bare
    simp only
    rw [if_neg (by omega), if_pos h]
  refine node_ok (x := b) (ts := fts) ?_ ?_ ?_ (by rw [bk]; exact h4) (by rw [bk]; exact h5) (by rw [bk]; exact h6) (by rw [bk]; exact h8) hO (hr b bk bt)
  · unfold kidsOk
    rw [bk, bks]
    have : arM x.kind = some (arit x.kind) := by
      unfold arM arit
      have hx : x.kind ≠ 30 := m30
      have := mk
      unfold arit at this
      repeat' split
      all_goals first | rfl | omega
    rw [this]
    simp only [Bool.and_eq_true, decide_eq_true_eq, Bool.or_eq_true]
    exact ⟨m0, mk⟩
  · rw [bks, ← hl, List.length_map, layAll_len]
  · unfold wordsM
    rw [bk]
    by_cases k2 : x.kind = 2
    · have : b.s = x.s := by rw [← hb]; unfold bare; simp only; rw [if_pos k2]
      rw [if_pos k2, this, if_pos (m2 k2)]
    rw [if_neg k2]
    by_cases k3 : x.kind = 3
    · have : b.n = x.n := by rw [← hb]; unfold bare; simp only; rw [if_pos (.inr k3)]
      rw [if_pos k3, this, if_pos (m3 k3)]
    rw [if_neg k3, if_neg h4]
    by_cases k21 : x.kind = 21
    · rw [if_pos k21, bt k21, tyOf_str _ (h21 k21)]
    rw [if_neg k21, if_neg (by omega), if_neg m30]
end
end Culp.Ins

/- Plain: the term that a tree becomes checks, with the tree's type: each kind; any part. -/
namespace Culp.Ins
set_option linter.unusedSimpArgs false
set_option linter.unusedVariables false
open Culp Culp.Tr Go.Proofs.YtdfadmhomjcmeaaGreatDoor
theorem dyn_fits : Ty.dyn.fits := by unfold Ty.fits; decide
theorem headed_fits {t u : Ty} (h : t.fits) (hu : u.fits) : (headed t u).fits := by
  unfold headed
  split
  · exact hu
  · exact h
theorem innerM_fits {p : Nat} {t u : Ty} {h : UInt8} (hp : partT p t h 0 = .ok u) (ht : t.fits) : u.fits := partT_fits ht u hp
section
variable {x : Nd} {E : Env} {p n : Nat} {D : List Kd} {t : Ty}
theorem len1 (h : D.length = 1) : ∃ d0, D = [d0] := by
  match D, h with
  | [d0], _ => exact ⟨d0, rfl⟩
theorem len2 (h : D.length = 2) : ∃ d0 d1, D = [d0, d1] := by
  match D, h with
  | [d0, d1], _ => exact ⟨d0, d1, rfl⟩
theorem len3 (h : D.length = 3) : ∃ d0 d1 d2, D = [d0, d1, d2] := by
  match D, h with
  | [d0, d1, d2], _ => exact ⟨d0, d1, d2, rfl⟩
theorem get1 {d0 d : Kd} {i : Nat} (h : ([d0] : List Kd)[i]? = some d) : i = 0 ∧ d = d0 := by
  match i, h with
  | 0, h => exact ⟨rfl, by simpa using h.symm⟩
  | i + 1, h => simp at h
theorem get2 {d0 d1 d : Kd} {i : Nat} (h : ([d0, d1] : List Kd)[i]? = some d) : (i = 0 ∧ d = d0) ∨ (i = 1 ∧ d = d1) := by
  match i, h with
  | 0, h => exact .inl ⟨rfl, by simpa using h.symm⟩
  | 1, h => exact .inr ⟨rfl, by simpa using h.symm⟩
  | i + 2, h => simp at h
theorem get3 {d0 d1 d2 d : Kd} {i : Nat} (h : ([d0, d1, d2] : List Kd)[i]? = some d) : (i = 0 ∧ d = d0) ∨ (i = 1 ∧ d = d1) ∨ (i = 2 ∧ d = d2) := by
  match i, h with
  | 0, h => exact .inl ⟨rfl, by simpa using h.symm⟩
  | 1, h => exact .inr (.inl ⟨rfl, by simpa using h.symm⟩)
  | 2, h => exact .inr (.inr ⟨rfl, by simpa using h.symm⟩)
  | i + 3, h => simp at h
theorem hd_fn {t : Ty} (h : t.hd = 62) : ∃ a b, t = .fn a b := by cases t <;> first | exact ⟨_, _, rfl⟩ | (cases h)
theorem hd_pair {t : Ty} (h : t.hd = 44) : ∃ a b, t = .pair a b := by cases t <;> first | exact ⟨_, _, rfl⟩ | (cases h)
theorem hd_list {t : Ty} (h : t.hd = 108) : ∃ a, t = .list a := by cases t <;> first | exact ⟨_, rfl⟩ | (cases h)
theorem hd_box {t : Ty} (h : t.hd = 120) : ∃ a, t = .box a := by cases t <;> first | exact ⟨_, rfl⟩ | (cases h)
theorem headed_dyn (u : Ty) : headed .dyn u = u := by simp [headed]
theorem headed_some {t u : Ty} (h : t ≠ .dyn) : headed t u = t := by simp [headed, h]
theorem in5 (h : x.kind = 5) : (innerT x 0 E).map Prod.snd = noteT x.t :: E.map Prod.snd := by unfold innerT; rw [if_pos h]; rfl
theorem in6 (hm : may x = true) (h : x.kind = 6) : (innerT x 0 E).map Prod.snd = noteT x.t :: .fn (noteT x.t) (noteT x.u) :: E.map Prod.snd := by
  obtain ⟨a, b, htw, _⟩ := two_of_may hm h
  unfold innerT
  rw [if_neg (by rw [h]; decide), if_pos h, htw]
  rfl
theorem node_typed (hm : may x = true) (hl : (D.length : Int) = x.kids) (hD : ∀ i d, D[i]? = some d → Okp d.T ((innerT x i E).map Prod.snd) d.t ∧ d.t.fits) (hT : nodeT false x E p (D.map fun d => (d.p, d.t)) = .ok t) (ht : t.fits)
    (hg : x.kind = 5 ∨ x.kind = 6 → (Ty.fn (noteT x.t) (noteT x.u)).enc.length ≤ 64) (hn : n + D.length + 3 ≤ 2147483647) : Okp (node x (E.map Prod.fst) D n).1 (E.map Prod.snd) t := by
  obtain ⟨m30, m0, mk, -, -⟩ := may_words hm
  obtain ⟨nt, nu, na⟩ := may_note hm
  have har : ∀ {a : Int}, arit x.kind = a → a ≠ -1 → (D.length : Int) = a := fun {a} h1 h2 => by
    rcases mk with mk | mk
    · exact absurd (h1.symm.trans mk) h2
    · omega
  by_cases h1 : x.kind = 1
  · have h0 : D = [] := List.eq_nil_of_length_eq_zero (by have := har (a := 0) (by rw [h1]; rfl) (by decide); omega)
    subst h0
    rw [nodeG_1 h1] at hT
    injection hT with hT
    subst hT
    exact plain_typed hm hl (by omega) (by omega) (by omega) (by omega) (by omega) hD hn (by simp [wishes, h1]) (by simp) [] rfl (by simp) (by omega) (fun y hy _ => by simp [ruleM, hy, h1])
  by_cases h2 : x.kind = 2
  · have h0 : D = [] := List.eq_nil_of_length_eq_zero (by have := har (a := 0) (by rw [h2]; rfl) (by decide); omega)
    subst h0
    rw [nodeG_2 h2] at hT
    injection hT with hT
    subst hT
    exact plain_typed hm hl (by omega) (by omega) (by omega) (by omega) (by omega) hD hn (by simp [wishes, h2]) (by simp) [] rfl (by simp) (by omega) (fun y hy _ => by simp [ruleM, hy, h2])
  by_cases h3 : x.kind = 3
  · have h0 : D = [] := List.eq_nil_of_length_eq_zero (by have := har (a := 0) (by rw [h3]; rfl) (by decide); omega)
    subst h0
    rw [nodeG_3 h3] at hT
    injection hT with hT
    subst hT
    exact plain_typed hm hl (by omega) (by omega) (by omega) (by omega) (by omega) hD hn (by simp [wishes, h3]) (by simp) [] rfl (by simp) (by omega) (fun y hy _ => by simp [ruleM, hy, h3])
  by_cases h4 : x.kind = 4
  · have h0 : D = [] := List.eq_nil_of_length_eq_zero (by have := har (a := 0) (by rw [h4]; rfl) (by decide); omega)
    subst h0
    rw [nodeG_4 h4] at hT
    unfold lookR at hT
    cases hlk : lookT E x.s with
    | none => rw [hlk] at hT; cases hT
    | some u =>
      rw [hlk] at hT
      injection hT with hT
      subst hT
      unfold node
      rw [if_neg (by omega)]
      have hd := dist_get E x.s u hlk
      have hw : wishes x [] = [] := by simp [wishes, h4]
      simp only [List.map_nil, hw, layAll, List.flatten_nil]
      refine var_ok (x := bare x (E.map Prod.fst) []) h4 ?_ ?_ ?_
      · show x.kids = 0
        simp at hl; omega
      · show 0 ≤ (if x.kind = 1 ∨ x.kind = 3 then x.n else if x.kind = 4 then (dist (E.map Prod.fst) x.s : Int) else 0)
        rw [if_neg (by omega), if_pos h4]
        omega
      · show (E.map Prod.snd)[(if x.kind = 1 ∨ x.kind = 3 then x.n else if x.kind = 4 then (dist (E.map Prod.fst) x.s : Int) else 0).toNat]? = some u
        rw [if_neg (by omega), if_pos h4, Int.toNat_natCast]
        exact hd
  by_cases h29 : x.kind = 29
  · obtain ⟨d0, rfl⟩ := len1 (D := D) (by have := har (a := 1) (by rw [h29]; rfl) (by decide); omega)
    rw [show ([d0].map fun d => (d.p, d.t)) = [(d0.p, d0.t)] from rfl, nodeG_29 h29] at hT
    obtain ⟨hc, he⟩ := fitG_cons hT
    injection he with he
    obtain ⟨T, _, fT, e3⟩ := na h29
    obtain ⟨o1, o2⟩ := hD 0 d0 rfl
    rw [inner_plain (by omega) (by omega) (by omega)] at o1
    unfold node
    rw [if_pos h29]
    subst he
    refine lay_ok o1 hc o2 (by rw [e3]; exact fT) ?_
    simp only [List.length_cons] at hn
    omega
  by_cases h5 : x.kind = 5
  · obtain ⟨d0, rfl⟩ := len1 (D := D) (by have := har (a := 1) (by rw [h5]; rfl) (by decide); omega)
    rw [show ([d0].map fun d => (d.p, d.t)) = [(d0.p, d0.t)] from rfl, nodeG_5 h5] at hT
    obtain ⟨hc, he⟩ := fitG_cons hT
    injection he with he
    obtain ⟨o1, o2⟩ := hD 0 d0 rfl
    have ft := (nt (by omega)).fits
    have fu := (nu (by omega)).fits
    have hw : wishes x [d0.t] = [(0, noteT x.u, 1)] := by simp [wishes, h5]
    unfold node
    rw [if_neg (by omega)]
    simp only [List.map_cons, List.map_nil, hw, layAll, layAt, List.getElem?_cons_zero, List.set_cons_zero, List.flatten_cons, List.flatten_nil, List.append_nil]
    have ho := lay_ok (l := d0.l) (c := d0.c) (r := 1) (n := n) o1 hc o2 fu (by simp only [List.length_cons] at hn; omega)
    subst he
    refine fn_ok (x := bare x (E.map Prod.fst) [d0.t]) h5 (by show x.kids = 1; simp only [List.length_cons, List.length_nil] at hl; omega) ?_ ?_ ft fu (hg (.inl h5)) ?_
    · show (if x.kind = 5 ∨ x.kind = 6 ∨ x.kind = 8 then (noteT x.t).str else if x.kind = 21 then _ else no) = _
      rw [if_pos (by omega)]
    · show (if x.kind = 5 ∨ x.kind = 6 then (noteT x.u).str else no) = _
      rw [if_pos (.inl h5)]
    · have hin : (innerT x 0 E).map Prod.snd = noteT x.t :: E.map Prod.snd := in5 h5
      rw [hin] at ho
      exact ho
  by_cases h6 : x.kind = 6
  · obtain ⟨d0, rfl⟩ := len1 (D := D) (by have := har (a := 1) (by rw [h6]; rfl) (by decide); omega)
    rw [show ([d0].map fun d => (d.p, d.t)) = [(d0.p, d0.t)] from rfl, nodeG_6 h6] at hT
    obtain ⟨hc, he⟩ := fitG_cons hT
    injection he with he
    obtain ⟨o1, o2⟩ := hD 0 d0 rfl
    have ft := (nt (by omega)).fits
    have fu := (nu (by omega)).fits
    have hw : wishes x [d0.t] = [(0, noteT x.u, 1)] := by simp [wishes, h6]
    unfold node
    rw [if_neg (by omega)]
    simp only [List.map_cons, List.map_nil, hw, layAll, layAt, List.getElem?_cons_zero, List.set_cons_zero, List.flatten_cons, List.flatten_nil, List.append_nil]
    have ho := lay_ok (l := d0.l) (c := d0.c) (r := 1) (n := n) o1 hc o2 fu (by simp only [List.length_cons] at hn; omega)
    subst he
    refine rec_ok (x := bare x (E.map Prod.fst) [d0.t]) h6 (by show x.kids = 1; simp only [List.length_cons, List.length_nil] at hl; omega) ?_ ?_ ft fu (hg (.inr h6)) ?_
    · show (if x.kind = 5 ∨ x.kind = 6 ∨ x.kind = 8 then (noteT x.t).str else if x.kind = 21 then _ else no) = _
      rw [if_pos (by omega)]
    · show (if x.kind = 5 ∨ x.kind = 6 then (noteT x.u).str else no) = _
      rw [if_pos (.inr h6)]
    · have hin : (innerT x 0 E).map Prod.snd = noteT x.t :: .fn (noteT x.t) (noteT x.u) :: E.map Prod.snd := in6 hm h6
      rw [hin] at ho
      exact ho
  by_cases h8 : x.kind = 8
  · obtain ⟨d0, d1, rfl⟩ := len2 (D := D) (by have := har (a := 2) (by rw [h8]; rfl) (by decide); omega)
    rw [show ([d0, d1].map fun d => (d.p, d.t)) = [(d0.p, d0.t), (d1.p, d1.t)] from rfl, nodeG_8 h8] at hT
    obtain ⟨hc, he⟩ := fitG_cons hT
    injection he with he
    obtain ⟨o1, o2⟩ := hD 0 d0 rfl
    obtain ⟨q1, q2⟩ := hD 1 d1 rfl
    have ft := (nt (by omega)).fits
    have hw : wishes x [d0.t, d1.t] = [(0, noteT x.t, 2)] := by simp [wishes, h8]
    have e0 : innerT x 0 E = E := by unfold innerT; rw [if_neg (by omega), if_neg (by omega), if_neg (by omega)]
    have e1 : innerT x 1 E = (x.s, noteT x.t) :: E := by unfold innerT; rw [if_neg (by omega), if_neg (by omega), if_pos ⟨h8, rfl⟩]
    rw [e0] at o1
    rw [e1] at q1
    unfold node
    rw [if_neg (by omega)]
    simp only [List.map_cons, List.map_nil, hw, layAll, layAt, List.getElem?_cons_zero, List.set_cons_zero, List.flatten_cons, List.flatten_nil, List.append_nil]
    have ho := lay_ok (l := d0.l) (c := d0.c) (r := 2) (n := n) o1 hc o2 ft (by simp only [List.length_cons] at hn; omega)
    subst he
    exact let_ok (x := bare x (E.map Prod.fst) [d0.t, d1.t]) h8 (by show x.kids = 2; simp only [List.length_cons, List.length_nil] at hl; omega) ho q1
  obtain ⟨r1, r2, r3, r4⟩ := nodeT_row (same := false) (x := x) (env := E) (p := p) (K := D.map fun d => (d.p, d.t))
  by_cases h10 : x.kind = 10
  · rw [r1 (.inl h10)] at hT
    obtain ⟨_, hT', he⟩ := map_ok' hT
    subst he
    have hc := each_cons hT'
    obtain ⟨rr, hw⟩ : ∃ rr, wishes x (D.map Kd.t) = all (D.map Kd.t).length .int rr := ⟨_, by simp [wishes, h10]; rfl⟩
    have hfits : Ty.int.fits := by unfold Ty.fits; decide
    refine plain_typed hm hl (by omega) (by omega) (by omega) (by omega) (by omega) hD hn (by rw [hw]; exact all_nodup _ _ _) (fun w hw' d hd => ?_) (D.map fun _ => .int) (by simp) (fun i d hd => ?_) (by omega) (fun y hy _ => ?_)
    · rw [hw] at hw'
      unfold all at hw'
      obtain ⟨j, _, rfl⟩ := List.mem_map.1 hw'
      exact ⟨hc (d.p, d.t) (List.mem_map.2 ⟨d, List.mem_of_getElem? hd, rfl⟩), hfits⟩
    · rw [List.getElem?_map, hd, hw, finF_all (by rw [List.length_map]; exact (List.getElem?_eq_some_iff.1 hd).1)]
      rfl
    · have : (D.map fun _ => Ty.int).all (· == .int) = true := by simp
      simp [ruleM, hy, h10, needM]
  by_cases h11 : x.kind = 11
  · rw [r1 (.inr (.inl h11))] at hT
    obtain ⟨_, hT', he⟩ := map_ok' hT
    subst he
    have hc := each_cons hT'
    obtain ⟨rr, hw⟩ : ∃ rr, wishes x (D.map Kd.t) = all (D.map Kd.t).length .int rr := ⟨_, by simp [wishes, h11]; rfl⟩
    have hfits : Ty.int.fits := by unfold Ty.fits; decide
    refine plain_typed hm hl (by omega) (by omega) (by omega) (by omega) (by omega) hD hn (by rw [hw]; exact all_nodup _ _ _) (fun w hw' d hd => ?_) (D.map fun _ => .int) (by simp) (fun i d hd => ?_) (by omega) (fun y hy _ => ?_)
    · rw [hw] at hw'
      unfold all at hw'
      obtain ⟨j, _, rfl⟩ := List.mem_map.1 hw'
      exact ⟨hc (d.p, d.t) (List.mem_map.2 ⟨d, List.mem_of_getElem? hd, rfl⟩), hfits⟩
    · rw [List.getElem?_map, hd, hw, finF_all (by rw [List.length_map]; exact (List.getElem?_eq_some_iff.1 hd).1)]
      rfl
    · have : (D.map fun _ => Ty.int).all (· == .int) = true := by simp
      simp [ruleM, hy, h11, needM]
  by_cases h12 : x.kind = 12
  · rw [r1 (.inr (.inr (.inl h12)))] at hT
    obtain ⟨_, hT', he⟩ := map_ok' hT
    subst he
    have hc := each_cons hT'
    obtain ⟨rr, hw⟩ : ∃ rr, wishes x (D.map Kd.t) = all (D.map Kd.t).length .int rr := ⟨_, by simp [wishes, h12]; rfl⟩
    have hfits : Ty.int.fits := by unfold Ty.fits; decide
    refine plain_typed hm hl (by omega) (by omega) (by omega) (by omega) (by omega) hD hn (by rw [hw]; exact all_nodup _ _ _) (fun w hw' d hd => ?_) (D.map fun _ => .int) (by simp) (fun i d hd => ?_) (by omega) (fun y hy _ => ?_)
    · rw [hw] at hw'
      unfold all at hw'
      obtain ⟨j, _, rfl⟩ := List.mem_map.1 hw'
      exact ⟨hc (d.p, d.t) (List.mem_map.2 ⟨d, List.mem_of_getElem? hd, rfl⟩), hfits⟩
    · rw [List.getElem?_map, hd, hw, finF_all (by rw [List.length_map]; exact (List.getElem?_eq_some_iff.1 hd).1)]
      rfl
    · have : (D.map fun _ => Ty.int).all (· == .int) = true := by simp
      simp [ruleM, hy, h12, needM]
  by_cases h16 : x.kind = 16
  · rw [r1 (.inr (.inr (.inr h16)))] at hT
    obtain ⟨_, hT', he⟩ := map_ok' hT
    subst he
    have hc := each_cons hT'
    obtain ⟨rr, hw⟩ : ∃ rr, wishes x (D.map Kd.t) = all (D.map Kd.t).length .int rr := ⟨_, by simp [wishes, h16]; rfl⟩
    have hfits : Ty.int.fits := by unfold Ty.fits; decide
    refine plain_typed hm hl (by omega) (by omega) (by omega) (by omega) (by omega) hD hn (by rw [hw]; exact all_nodup _ _ _) (fun w hw' d hd => ?_) (D.map fun _ => .int) (by simp) (fun i d hd => ?_) (by omega) (fun y hy _ => ?_)
    · rw [hw] at hw'
      unfold all at hw'
      obtain ⟨j, _, rfl⟩ := List.mem_map.1 hw'
      exact ⟨hc (d.p, d.t) (List.mem_map.2 ⟨d, List.mem_of_getElem? hd, rfl⟩), hfits⟩
    · rw [List.getElem?_map, hd, hw, finF_all (by rw [List.length_map]; exact (List.getElem?_eq_some_iff.1 hd).1)]
      rfl
    · have : (D.map fun _ => Ty.int).all (· == .int) = true := by simp
      simp [ruleM, hy, h16, needM]
  by_cases h14 : x.kind = 14
  · rw [r2 (.inl h14)] at hT
    obtain ⟨_, hT', he⟩ := map_ok' hT
    subst he
    have hc := each_cons hT'
    obtain ⟨rr, hw⟩ : ∃ rr, wishes x (D.map Kd.t) = all (D.map Kd.t).length .int rr := ⟨_, by simp [wishes, h14]; rfl⟩
    have hfits : Ty.int.fits := by unfold Ty.fits; decide
    refine plain_typed hm hl (by omega) (by omega) (by omega) (by omega) (by omega) hD hn (by rw [hw]; exact all_nodup _ _ _) (fun w hw' d hd => ?_) (D.map fun _ => .int) (by simp) (fun i d hd => ?_) (by omega) (fun y hy _ => ?_)
    · rw [hw] at hw'
      unfold all at hw'
      obtain ⟨j, _, rfl⟩ := List.mem_map.1 hw'
      exact ⟨hc (d.p, d.t) (List.mem_map.2 ⟨d, List.mem_of_getElem? hd, rfl⟩), hfits⟩
    · rw [List.getElem?_map, hd, hw, finF_all (by rw [List.length_map]; exact (List.getElem?_eq_some_iff.1 hd).1)]
      rfl
    · have : (D.map fun _ => Ty.int).all (· == .int) = true := by simp
      simp [ruleM, hy, h14, needM]
  by_cases h15 : x.kind = 15
  · rw [r2 (.inr h15)] at hT
    obtain ⟨_, hT', he⟩ := map_ok' hT
    subst he
    have hc := each_cons hT'
    obtain ⟨rr, hw⟩ : ∃ rr, wishes x (D.map Kd.t) = all (D.map Kd.t).length .int rr := ⟨_, by simp [wishes, h15]; rfl⟩
    have hfits : Ty.int.fits := by unfold Ty.fits; decide
    refine plain_typed hm hl (by omega) (by omega) (by omega) (by omega) (by omega) hD hn (by rw [hw]; exact all_nodup _ _ _) (fun w hw' d hd => ?_) (D.map fun _ => .int) (by simp) (fun i d hd => ?_) (by omega) (fun y hy _ => ?_)
    · rw [hw] at hw'
      unfold all at hw'
      obtain ⟨j, _, rfl⟩ := List.mem_map.1 hw'
      exact ⟨hc (d.p, d.t) (List.mem_map.2 ⟨d, List.mem_of_getElem? hd, rfl⟩), hfits⟩
    · rw [List.getElem?_map, hd, hw, finF_all (by rw [List.length_map]; exact (List.getElem?_eq_some_iff.1 hd).1)]
      rfl
    · have : (D.map fun _ => Ty.int).all (· == .int) = true := by simp
      simp [ruleM, hy, h15, needM]
  by_cases h13 : x.kind = 13
  · rw [r3 h13] at hT
    obtain ⟨_, hT', he⟩ := map_ok' hT
    subst he
    have hc := each_cons hT'
    obtain ⟨rr, hw⟩ : ∃ rr, wishes x (D.map Kd.t) = all (D.map Kd.t).length .text rr := ⟨_, by simp [wishes, h13]; rfl⟩
    have hfits : Ty.text.fits := by unfold Ty.fits; decide
    refine plain_typed hm hl (by omega) (by omega) (by omega) (by omega) (by omega) hD hn (by rw [hw]; exact all_nodup _ _ _) (fun w hw' d hd => ?_) (D.map fun _ => .text) (by simp) (fun i d hd => ?_) (by omega) (fun y hy _ => ?_)
    · rw [hw] at hw'
      unfold all at hw'
      obtain ⟨j, _, rfl⟩ := List.mem_map.1 hw'
      exact ⟨hc (d.p, d.t) (List.mem_map.2 ⟨d, List.mem_of_getElem? hd, rfl⟩), hfits⟩
    · rw [List.getElem?_map, hd, hw, finF_all (by rw [List.length_map]; exact (List.getElem?_eq_some_iff.1 hd).1)]
      rfl
    · have : (D.map fun _ => Ty.text).all (· == .text) = true := by simp
      simp [ruleM, hy, h13, needM]
  by_cases h17 : x.kind = 17
  · rw [r4 h17] at hT
    obtain ⟨_, hT', he⟩ := map_ok' hT
    subst he
    have hc := each_cons hT'
    obtain ⟨rr, hw⟩ : ∃ rr, wishes x (D.map Kd.t) = all (D.map Kd.t).length .text rr := ⟨_, by simp [wishes, h17]; rfl⟩
    have hfits : Ty.text.fits := by unfold Ty.fits; decide
    refine plain_typed hm hl (by omega) (by omega) (by omega) (by omega) (by omega) hD hn (by rw [hw]; exact all_nodup _ _ _) (fun w hw' d hd => ?_) (D.map fun _ => .text) (by simp) (fun i d hd => ?_) (by omega) (fun y hy _ => ?_)
    · rw [hw] at hw'
      unfold all at hw'
      obtain ⟨j, _, rfl⟩ := List.mem_map.1 hw'
      exact ⟨hc (d.p, d.t) (List.mem_map.2 ⟨d, List.mem_of_getElem? hd, rfl⟩), hfits⟩
    · rw [List.getElem?_map, hd, hw, finF_all (by rw [List.length_map]; exact (List.getElem?_eq_some_iff.1 hd).1)]
      rfl
    · have : (D.map fun _ => Ty.text).all (· == .text) = true := by simp
      simp [ruleM, hy, h17, needM]
  by_cases h21 : x.kind = 21
  · have hw : wishes x (D.map Kd.t) = all (D.map Kd.t).length (met (D.map Kd.t)) 13 := by simp [wishes, h21]
    have key : (met (D.map Kd.t)).fits ∧ t = .list (met (D.map Kd.t)) ∧ ∀ d ∈ D, cons d.t (met (D.map Kd.t)) = true := by
      cases D with
      | nil =>
        rw [show (([] : List Kd).map fun d => (d.p, d.t)) = [] from rfl, nodeG_21e h21] at hT
        injection hT with hT
        exact ⟨dyn_fits, hT.symm, by simp⟩
      | cons d0 D' =>
        rw [show ((d0 :: D').map fun d => (d.p, d.t)) = (d0.p, d0.t) :: D'.map (fun d => (d.p, d.t)) from rfl, nodeG_21 h21] at hT
        obtain ⟨m, hT', he⟩ := map_ok' hT
        obtain ⟨a1, a2, a3, a4⟩ := meets_prec (hD 0 d0 rfl).2 hT'
        have e : met ((d0 :: D').map Kd.t) = m := by
          unfold met
          rw [List.map_cons, List.foldl_cons, dyn_meet, a3, List.map_map]
          rfl
        rw [e]
        refine ⟨a4, he.symm, fun d hd => ?_⟩
        rcases List.mem_cons.1 hd with rfl | hd
        · exact cons_of_prec a1
        · exact cons_of_prec (a2 (d.p, d.t) (List.mem_map.2 ⟨d, hd, rfl⟩))
    obtain ⟨k1, k2, k3⟩ := key
    subst k2
    refine plain_typed hm hl (by omega) (by omega) (by omega) (by omega) (by omega) hD hn (by rw [hw]; exact all_nodup _ _ _) (fun w hw' d hd => ?_) (D.map fun _ => met (D.map Kd.t)) (by simp) (fun i d hd => ?_) (fun _ => k1) (fun y hy hyt => ?_)
    · rw [hw] at hw'
      unfold all at hw'
      obtain ⟨j, _, rfl⟩ := List.mem_map.1 hw'
      exact ⟨k3 d (List.mem_of_getElem? hd), k1⟩
    · rw [List.getElem?_map, hd, hw, finF_all (by rw [List.length_map]; exact (List.getElem?_eq_some_iff.1 hd).1)]
      rfl
    · have h64 : (Ty.list (met (D.map Kd.t))).enc.length ≤ 64 := ht
      have e : y.kind = 21 := hy.trans h21
      have e2 : tyOf y.t = some (met (D.map Kd.t)) := by rw [hyt h21]; exact tyOf_str _ k1
      simp [ruleM, e, e2, madeM, h64]
  by_cases h18 : x.kind = 18
  · obtain ⟨d0, d1, rfl⟩ := len2 (D := D) (by have := har (a := 2) (by rw [h18]; rfl) (by decide); omega)
    rw [show ([d0, d1].map fun d => (d.p, d.t)) = [(d0.p, d0.t), (d1.p, d1.t)] from rfl, nodeG_18 h18] at hT
    injection hT with hT
    subst hT
    have hw : wishes x [d0.t, d1.t] = [] := by simp [wishes, h18]
    have h64 : (Ty.pair d0.t d1.t).enc.length ≤ 64 := ht
    refine plain_typed hm hl (by omega) (by omega) (by omega) (by omega) (by omega) hD hn (by show ((wishes x [d0.t, d1.t]).map _).Nodup; rw [hw]; exact List.nodup_nil) (by show ∀ w ∈ wishes x [d0.t, d1.t], _; rw [hw]; simp) [d0.t, d1.t] rfl (fun i d hd => ?_) (by omega) (fun y hy _ => by simp [ruleM, hy, h18, madeM, h64])
    show _ = some (finF (wishes x [d0.t, d1.t]) _ i)
    rw [hw]
    rcases get2 hd with ⟨rfl, rfl⟩ | ⟨rfl, rfl⟩ <;> rfl
  by_cases h26 : x.kind = 26
  · obtain ⟨d0, rfl⟩ := len1 (D := D) (by have := har (a := 1) (by rw [h26]; rfl) (by decide); omega)
    rw [show ([d0].map fun d => (d.p, d.t)) = [(d0.p, d0.t)] from rfl, nodeG_26 h26] at hT
    injection hT with hT
    subst hT
    have hw : wishes x [d0.t] = [] := by simp [wishes, h26]
    have h64 : (Ty.box d0.t).enc.length ≤ 64 := ht
    refine plain_typed hm hl (by omega) (by omega) (by omega) (by omega) (by omega) hD hn (by show ((wishes x [d0.t]).map _).Nodup; rw [hw]; exact List.nodup_nil) (by show ∀ w ∈ wishes x [d0.t], _; rw [hw]; simp) [d0.t] rfl (fun i d hd => ?_) (by omega) (fun y hy _ => by simp [ruleM, hy, h26, madeM, h64])
    show _ = some (finF (wishes x [d0.t]) _ i)
    rw [hw]
    obtain ⟨rfl, rfl⟩ := get1 hd
    rfl
  by_cases h7 : x.kind = 7
  · obtain ⟨d0, d1, rfl⟩ := len2 (D := D) (by have := har (a := 2) (by rw [h7]; rfl) (by decide); omega)
    rw [show ([d0, d1].map fun d => (d.p, d.t)) = [(d0.p, d0.t), (d1.p, d1.t)] from rfl, nodeG_7 h7] at hT
    unfold callG at hT
    have f0 := (hD 0 d0 rfl).2
    cases h0 : partT d0.p d0.t 62 0 with
    | error b => rw [h0] at hT; cases hT
    | ok a =>
      rw [h0] at hT
      obtain ⟨hc, he⟩ := fitG_cons hT
      have he' : partT d0.p d0.t 62 1 = .ok t := he
      have hw : wishes x [d0.t, d1.t] = [(0, headed d0.t (.fn .dyn .dyn), 3), (1, innerM d0.t 62, 4)] := by simp [wishes, h7]
      have hi : innerM d0.t 62 = a := inner_part h0
      have fa := innerM_fits h0 f0
      have hrule : ∀ y : Nd, y.kind = 7 → ruleM y [headed d0.t (.fn .dyn .dyn), a] = .ok t := fun y hy => by
        by_cases hd : d0.t = .dyn
        · rw [hd] at h0 he'
          rw [hd, headed_dyn, part_dyn h0, part_dyn he']
          simp [ruleM, hy, needM]
        · rcases part_cons2 (.inl (.inl rfl)) h0 with e | ⟨e1, e2⟩
          · exact absurd e hd
          · rcases part_cons2 (.inl (.inl rfl)) he' with e | ⟨_, e3⟩
            · exact absurd e hd
            · rw [headed_some hd]
              obtain ⟨u, v, huv⟩ := hd_fn e1
              rw [huv] at e2 e3 ⊢
              subst e2 e3
              simp [ruleM, hy, needM, Ty.kids]
      refine plain_typed hm hl (by omega) (by omega) (by omega) (by omega) (by omega) hD hn (by show ((wishes x [d0.t, d1.t]).map _).Nodup; rw [hw]; simp) (by
        show ∀ w ∈ wishes x [d0.t, d1.t], _
        rw [hw, hi]
        intro w hw' d hd
        simp only [List.mem_cons, List.not_mem_nil, or_false] at hw'
        rcases hw' with rfl | rfl
        · obtain rfl : d = d0 := by simpa using hd.symm
          exact ⟨headed_cons _ _, headed_fits f0 (by unfold Ty.fits; decide)⟩
        · obtain rfl : d = d1 := by simpa using hd.symm
          exact ⟨hc, fa⟩) [headed d0.t (.fn .dyn .dyn), a] rfl (fun i d hd => ?_) (by omega) (fun y hy _ => hrule y (hy.trans h7))
      show _ = some (finF (wishes x [d0.t, d1.t]) _ i)
      rw [hw, hi]
      rcases get2 hd with ⟨rfl, rfl⟩ | ⟨rfl, rfl⟩ <;> rfl
  by_cases h9 : x.kind = 9
  · obtain ⟨d0, d1, d2, rfl⟩ := len3 (D := D) (by have := har (a := 3) (by rw [h9]; rfl) (by decide); omega)
    rw [show ([d0, d1, d2].map fun d => (d.p, d.t)) = [(d0.p, d0.t), (d1.p, d1.t), (d2.p, d2.t)] from rfl, nodeG_9 h9] at hT
    unfold ifG at hT
    cases h0 : fitT false d0.t .bool 23 d0.p with
    | error b => rw [h0] at hT; cases hT
    | ok u =>
      rw [h0] at hT
      have hc := fit_cons h0
      obtain ⟨a1, a2, a3, a4⟩ := meets_prec (hD 1 d1 rfl).2 hT
      have hmt : met [d1.t, d2.t] = t := by
        unfold met
        rw [List.foldl_cons, dyn_meet]
        exact a3.symm
      have hw : wishes x [d0.t, d1.t, d2.t] = [(0, .bool, 5), (1, t, 6), (2, t, 7)] := by simp [wishes, h9, hmt]
      refine plain_typed hm hl (by omega) (by omega) (by omega) (by omega) (by omega) hD hn (by show ((wishes x [d0.t, d1.t, d2.t]).map _).Nodup; rw [hw]; simp) (by
        show ∀ w ∈ wishes x [d0.t, d1.t, d2.t], _
        rw [hw]
        intro w hw' d hd
        simp only [List.mem_cons, List.not_mem_nil, or_false] at hw'
        rcases hw' with rfl | rfl | rfl
        · obtain rfl : d = d0 := by simpa using hd.symm
          exact ⟨hc, by unfold Ty.fits; decide⟩
        · obtain rfl : d = d1 := by simpa using hd.symm
          exact ⟨cons_of_prec a1, a4⟩
        · obtain rfl : d = d2 := by simpa using hd.symm
          exact ⟨cons_of_prec (a2 (d.p, d.t) (by simp)), a4⟩) [.bool, t, t] rfl (fun i d hd => ?_) (by omega) (fun y hy _ => by simp [ruleM, hy, h9, needM])
      show _ = some (finF (wishes x [d0.t, d1.t, d2.t]) _ i)
      rw [hw]
      rcases get3 hd with ⟨rfl, rfl⟩ | ⟨rfl, rfl⟩ | ⟨rfl, rfl⟩ <;> rfl
  by_cases h19 : x.kind = 19
  · obtain ⟨d0, rfl⟩ := len1 (D := D) (by have := har (a := 1) (by rw [h19]; rfl) (by decide); omega)
    rw [show ([d0].map fun d => (d.p, d.t)) = [(d0.p, d0.t)] from rfl, nodeG_19 h19] at hT
    have f0 := (hD 0 d0 rfl).2
    have hw : wishes x [d0.t] = [(0, headed d0.t (.pair .dyn .dyn), 10)] := by simp [wishes, h19]
    have hrule : ∀ y : Nd, y.kind = 19 → ruleM y [headed d0.t (.pair .dyn .dyn)] = .ok t := fun y hy => by
      by_cases hd : d0.t = .dyn
      · rw [hd] at hT
        rw [hd, headed_dyn, part_dyn hT]
        simp [ruleM, hy]
      · rcases part_cons2 (.inl (.inr rfl)) hT with e | ⟨e1, e2⟩
        · exact absurd e hd
        · rw [headed_some hd]
          obtain ⟨u, v, huv⟩ := hd_pair e1
          rw [huv] at e2 ⊢
          subst e2
          simp [ruleM, hy, Ty.kids]
    refine plain_typed hm hl (by omega) (by omega) (by omega) (by omega) (by omega) hD hn (by show ((wishes x [d0.t]).map _).Nodup; rw [hw]; simp) (by
      show ∀ w ∈ wishes x [d0.t], _
      rw [hw]
      intro w hw' d hd
      simp only [List.mem_singleton] at hw'
      subst hw'
      obtain rfl : d = d0 := by simpa using hd.symm
      exact ⟨headed_cons _ _, headed_fits f0 (by unfold Ty.fits; decide)⟩) [headed d0.t (.pair .dyn .dyn)] rfl (fun i d hd => ?_) (by omega) (fun y hy _ => hrule y (hy.trans h19))
    show _ = some (finF (wishes x [d0.t]) _ i)
    rw [hw]
    obtain ⟨rfl, rfl⟩ := get1 hd
    rfl
  by_cases h20 : x.kind = 20
  · obtain ⟨d0, rfl⟩ := len1 (D := D) (by have := har (a := 1) (by rw [h20]; rfl) (by decide); omega)
    rw [show ([d0].map fun d => (d.p, d.t)) = [(d0.p, d0.t)] from rfl, nodeG_20 h20] at hT
    have f0 := (hD 0 d0 rfl).2
    have hw : wishes x [d0.t] = [(0, headed d0.t (.pair .dyn .dyn), 10)] := by simp [wishes, h20]
    have hrule : ∀ y : Nd, y.kind = 20 → ruleM y [headed d0.t (.pair .dyn .dyn)] = .ok t := fun y hy => by
      by_cases hd : d0.t = .dyn
      · rw [hd] at hT
        rw [hd, headed_dyn, part_dyn hT]
        simp [ruleM, hy]
      · rcases part_cons2 (.inl (.inr rfl)) hT with e | ⟨e1, e2⟩
        · exact absurd e hd
        · rw [headed_some hd]
          obtain ⟨u, v, huv⟩ := hd_pair e1
          rw [huv] at e2 ⊢
          subst e2
          simp [ruleM, hy, Ty.kids]
    refine plain_typed hm hl (by omega) (by omega) (by omega) (by omega) (by omega) hD hn (by show ((wishes x [d0.t]).map _).Nodup; rw [hw]; simp) (by
      show ∀ w ∈ wishes x [d0.t], _
      rw [hw]
      intro w hw' d hd
      simp only [List.mem_singleton] at hw'
      subst hw'
      obtain rfl : d = d0 := by simpa using hd.symm
      exact ⟨headed_cons _ _, headed_fits f0 (by unfold Ty.fits; decide)⟩) [headed d0.t (.pair .dyn .dyn)] rfl (fun i d hd => ?_) (by omega) (fun y hy _ => hrule y (hy.trans h20))
    show _ = some (finF (wishes x [d0.t]) _ i)
    rw [hw]
    obtain ⟨rfl, rfl⟩ := get1 hd
    rfl
  by_cases h22 : x.kind = 22
  · obtain ⟨d0, rfl⟩ := len1 (D := D) (by have := har (a := 1) (by rw [h22]; rfl) (by decide); omega)
    rw [show ([d0].map fun d => (d.p, d.t)) = [(d0.p, d0.t)] from rfl, nodeG_22 h22] at hT
    have f0 := (hD 0 d0 rfl).2
    have hw : wishes x [d0.t] = [(0, headed d0.t (.list .dyn), 11)] := by simp [wishes, h22]
    have hrule : ∀ y : Nd, y.kind = 22 → ruleM y [headed d0.t (.list .dyn)] = .ok t := fun y hy => by
      by_cases hd : d0.t = .dyn
      · rw [hd] at hT
        rw [hd, headed_dyn, part_dyn hT]
        simp [ruleM, hy]
      · rcases part_cons2 (.inr (.inl rfl)) hT with e | ⟨e1, e2⟩
        · exact absurd e hd
        · rw [headed_some hd]
          obtain ⟨u, huv⟩ := hd_list e1
          rw [huv] at e2 ⊢
          subst e2
          simp [ruleM, hy, Ty.kids]
    refine plain_typed hm hl (by omega) (by omega) (by omega) (by omega) (by omega) hD hn (by show ((wishes x [d0.t]).map _).Nodup; rw [hw]; simp) (by
      show ∀ w ∈ wishes x [d0.t], _
      rw [hw]
      intro w hw' d hd
      simp only [List.mem_singleton] at hw'
      subst hw'
      obtain rfl : d = d0 := by simpa using hd.symm
      exact ⟨headed_cons _ _, headed_fits f0 (by unfold Ty.fits; decide)⟩) [headed d0.t (.list .dyn)] rfl (fun i d hd => ?_) (by omega) (fun y hy _ => hrule y (hy.trans h22))
    show _ = some (finF (wishes x [d0.t]) _ i)
    rw [hw]
    obtain ⟨rfl, rfl⟩ := get1 hd
    rfl
  by_cases h27 : x.kind = 27
  · obtain ⟨d0, rfl⟩ := len1 (D := D) (by have := har (a := 1) (by rw [h27]; rfl) (by decide); omega)
    rw [show ([d0].map fun d => (d.p, d.t)) = [(d0.p, d0.t)] from rfl, nodeG_27 h27] at hT
    have f0 := (hD 0 d0 rfl).2
    have hw : wishes x [d0.t] = [(0, headed d0.t (.box .dyn), 12)] := by simp [wishes, h27]
    have hrule : ∀ y : Nd, y.kind = 27 → ruleM y [headed d0.t (.box .dyn)] = .ok t := fun y hy => by
      by_cases hd : d0.t = .dyn
      · rw [hd] at hT
        rw [hd, headed_dyn, part_dyn hT]
        simp [ruleM, hy]
      · rcases part_cons2 (.inr (.inr rfl)) hT with e | ⟨e1, e2⟩
        · exact absurd e hd
        · rw [headed_some hd]
          obtain ⟨u, huv⟩ := hd_box e1
          rw [huv] at e2 ⊢
          subst e2
          simp [ruleM, hy, Ty.kids]
    refine plain_typed hm hl (by omega) (by omega) (by omega) (by omega) (by omega) hD hn (by show ((wishes x [d0.t]).map _).Nodup; rw [hw]; simp) (by
      show ∀ w ∈ wishes x [d0.t], _
      rw [hw]
      intro w hw' d hd
      simp only [List.mem_singleton] at hw'
      subst hw'
      obtain rfl : d = d0 := by simpa using hd.symm
      exact ⟨headed_cons _ _, headed_fits f0 (by unfold Ty.fits; decide)⟩) [headed d0.t (.box .dyn)] rfl (fun i d hd => ?_) (by omega) (fun y hy _ => hrule y (hy.trans h27))
    show _ = some (finF (wishes x [d0.t]) _ i)
    rw [hw]
    obtain ⟨rfl, rfl⟩ := get1 hd
    rfl
  by_cases h23 : x.kind = 23
  · obtain ⟨d0, rfl⟩ := len1 (D := D) (by have := har (a := 1) (by rw [h23]; rfl) (by decide); omega)
    rw [show ([d0].map fun d => (d.p, d.t)) = [(d0.p, d0.t)] from rfl, nodeG_23 h23] at hT
    obtain ⟨a, hT', he⟩ := map_ok' hT
    have f0 := (hD 0 d0 rfl).2
    have hw : wishes x [d0.t] = [(0, headed d0.t (.list .dyn), 11)] := by simp [wishes, h23]
    have hrule : ∀ y : Nd, y.kind = 23 → ruleM y [headed d0.t (.list .dyn)] = .ok t := fun y hy => by
      rw [← he]
      by_cases hd : d0.t = .dyn
      · rw [hd] at hT'
        rw [hd, headed_dyn]
        try rw [part_dyn hT']
        simp [ruleM, hy]
      · rcases part_cons2 (.inr (.inl rfl)) hT' with e | ⟨e1, e2⟩
        · exact absurd e hd
        · rw [headed_some hd]
          obtain ⟨u, huv⟩ := hd_list e1
          rw [huv] at e2 ⊢
          subst e2
          simp [ruleM, hy, Ty.kids]
    refine plain_typed hm hl (by omega) (by omega) (by omega) (by omega) (by omega) hD hn (by show ((wishes x [d0.t]).map _).Nodup; rw [hw]; simp) (by
      show ∀ w ∈ wishes x [d0.t], _
      rw [hw]
      intro w hw' d hd
      simp only [List.mem_singleton] at hw'
      subst hw'
      obtain rfl : d = d0 := by simpa using hd.symm
      exact ⟨headed_cons _ _, headed_fits f0 (by unfold Ty.fits; decide)⟩) [headed d0.t (.list .dyn)] rfl (fun i d hd => ?_) (by omega) (fun y hy _ => hrule y (hy.trans h23))
    show _ = some (finF (wishes x [d0.t]) _ i)
    rw [hw]
    obtain ⟨rfl, rfl⟩ := get1 hd
    rfl
  by_cases h24 : x.kind = 24
  · obtain ⟨d0, rfl⟩ := len1 (D := D) (by have := har (a := 1) (by rw [h24]; rfl) (by decide); omega)
    rw [show ([d0].map fun d => (d.p, d.t)) = [(d0.p, d0.t)] from rfl, nodeG_24 h24] at hT
    obtain ⟨a, hT', he⟩ := map_ok' hT
    have f0 := (hD 0 d0 rfl).2
    have hw : wishes x [d0.t] = [(0, headed d0.t (.list .dyn), 11)] := by simp [wishes, h24]
    have hrule : ∀ y : Nd, y.kind = 24 → ruleM y [headed d0.t (.list .dyn)] = .ok t := fun y hy => by
      rw [← he]
      by_cases hd : d0.t = .dyn
      · rw [hd] at hT'
        rw [hd, headed_dyn]
        try rw [part_dyn hT']
        simp [ruleM, hy]
      · rcases part_cons2 (.inr (.inl rfl)) hT' with e | ⟨e1, e2⟩
        · exact absurd e hd
        · rw [headed_some hd]
          obtain ⟨u, huv⟩ := hd_list e1
          rw [huv] at e2 ⊢
          subst e2
          simp [ruleM, hy, Ty.kids]
    refine plain_typed hm hl (by omega) (by omega) (by omega) (by omega) (by omega) hD hn (by show ((wishes x [d0.t]).map _).Nodup; rw [hw]; simp) (by
      show ∀ w ∈ wishes x [d0.t], _
      rw [hw]
      intro w hw' d hd
      simp only [List.mem_singleton] at hw'
      subst hw'
      obtain rfl : d = d0 := by simpa using hd.symm
      exact ⟨headed_cons _ _, headed_fits f0 (by unfold Ty.fits; decide)⟩) [headed d0.t (.list .dyn)] rfl (fun i d hd => ?_) (by omega) (fun y hy _ => hrule y (hy.trans h24))
    show _ = some (finF (wishes x [d0.t]) _ i)
    rw [hw]
    obtain ⟨rfl, rfl⟩ := get1 hd
    rfl
  by_cases h25 : x.kind = 25
  · obtain ⟨d0, d1, rfl⟩ := len2 (D := D) (by have := har (a := 2) (by rw [h25]; rfl) (by decide); omega)
    rw [show ([d0, d1].map fun d => (d.p, d.t)) = [(d0.p, d0.t), (d1.p, d1.t)] from rfl, nodeG_25 h25] at hT
    obtain ⟨w0, hT', he⟩ := map_ok' hT
    have f1 := (hD 1 d1 rfl).2
    cases h0 : partT d1.p d1.t 108 0 with
    | error b => rw [h0] at hT'; cases hT'
    | ok a =>
      rw [h0] at hT'
      obtain ⟨hc, hv⟩ := fitG_cons hT'
      injection hv with hv
      subst hv
      have hw : wishes x [d0.t, d1.t] = [(1, headed d1.t (.list .dyn), 11), (0, innerM d1.t 108, 14)] := by simp [wishes, h25]
      have hi : innerM d1.t 108 = a := inner_part h0
      have fa := innerM_fits h0 f1
      have hrule : ∀ y : Nd, y.kind = 25 → ruleM y [a, headed d1.t (.list .dyn)] = .ok t := fun y hy => by
        rw [← he]
        by_cases hd : d1.t = .dyn
        · rw [hd] at h0
          rw [hd, headed_dyn, part_dyn h0]
          simp [ruleM, hy, needM]
        · rcases part_cons2 (.inr (.inl rfl)) h0 with e | ⟨e1, e2⟩
          · exact absurd e hd
          · rw [headed_some hd]
            obtain ⟨u, huv⟩ := hd_list e1
            rw [huv] at e2 ⊢
            subst e2
            simp [ruleM, hy, needM, Ty.kids]
      refine plain_typed hm hl (by omega) (by omega) (by omega) (by omega) (by omega) hD hn (by show ((wishes x [d0.t, d1.t]).map _).Nodup; rw [hw]; simp) (by
        show ∀ w ∈ wishes x [d0.t, d1.t], _
        rw [hw, hi]
        intro w hw' d hd
        simp only [List.mem_cons, List.not_mem_nil, or_false] at hw'
        rcases hw' with rfl | rfl
        · obtain rfl : d = d1 := by simpa using hd.symm
          exact ⟨headed_cons _ _, headed_fits f1 (by unfold Ty.fits; decide)⟩
        · obtain rfl : d = d0 := by simpa using hd.symm
          exact ⟨hc, fa⟩) [a, headed d1.t (.list .dyn)] rfl (fun i d hd => ?_) (by omega) (fun y hy _ => hrule y (hy.trans h25))
      show _ = some (finF (wishes x [d0.t, d1.t]) _ i)
      rw [hw, hi]
      rcases get2 hd with ⟨rfl, rfl⟩ | ⟨rfl, rfl⟩ <;> rfl
  by_cases h28 : x.kind = 28
  · obtain ⟨d0, d1, rfl⟩ := len2 (D := D) (by have := har (a := 2) (by rw [h28]; rfl) (by decide); omega)
    rw [show ([d0, d1].map fun d => (d.p, d.t)) = [(d0.p, d0.t), (d1.p, d1.t)] from rfl, nodeG_28 h28] at hT
    have f0 := (hD 0 d0 rfl).2
    cases h0 : partT d0.p d0.t 120 0 with
    | error b => rw [h0] at hT; cases hT
    | ok a =>
      rw [h0] at hT
      obtain ⟨hc, hv⟩ := fitG_cons hT
      injection hv with hv
      subst hv
      have hw : wishes x [d0.t, d1.t] = [(0, headed d0.t (.box .dyn), 12), (1, innerM d0.t 120, 15)] := by simp [wishes, h28]
      have hi : innerM d0.t 120 = a := inner_part h0
      have fa := innerM_fits h0 f0
      have hrule : ∀ y : Nd, y.kind = 28 → ruleM y [headed d0.t (.box .dyn), a] = .ok a := fun y hy => by
        by_cases hd : d0.t = .dyn
        · rw [hd] at h0
          rw [hd, headed_dyn, part_dyn h0]
          simp [ruleM, hy, needM]
        · rcases part_cons2 (.inr (.inr rfl)) h0 with e | ⟨e1, e2⟩
          · exact absurd e hd
          · rw [headed_some hd]
            obtain ⟨u, huv⟩ := hd_box e1
            rw [huv] at e2 ⊢
            subst e2
            simp [ruleM, hy, needM, Ty.kids]
      refine plain_typed hm hl (by omega) (by omega) (by omega) (by omega) (by omega) hD hn (by show ((wishes x [d0.t, d1.t]).map _).Nodup; rw [hw]; simp) (by
        show ∀ w ∈ wishes x [d0.t, d1.t], _
        rw [hw, hi]
        intro w hw' d hd
        simp only [List.mem_cons, List.not_mem_nil, or_false] at hw'
        rcases hw' with rfl | rfl
        · obtain rfl : d = d0 := by simpa using hd.symm
          exact ⟨headed_cons _ _, headed_fits f0 (by unfold Ty.fits; decide)⟩
        · obtain rfl : d = d1 := by simpa using hd.symm
          exact ⟨hc, fa⟩) [headed d0.t (.box .dyn), a] rfl (fun i d hd => ?_) (by omega) (fun y hy _ => hrule y (hy.trans h28))
      show _ = some (finF (wishes x [d0.t, d1.t]) _ i)
      rw [hw, hi]
      rcases get2 hd with ⟨rfl, rfl⟩ | ⟨rfl, rfl⟩ <;> rfl
  exfalso
  rcases mk with mk | mk
  · exact h21 (arit_neg mk)
  · rcases Int.lt_or_le 0 (arit x.kind) with hp | hp
    · have := arit_pos hp
      clear har r1 r2 r3 r4
      omega
    · have := arit_zero (k := x.kind) (by omega)
      omega
end
end Culp.Ins

/- Plain: the parts of the term are typed, each under its own binders. -/
namespace Culp.Ins
set_option linter.unusedSimpArgs false
set_option linter.unusedVariables false
open Culp Culp.Tr
theorem layAt_sites (K : List Kd) (i : Nat) (t : Ty) (r : Int) (n : Nat) : (layAt K i t r n).2.length ≤ 1 := by
  unfold layAt
  split
  · simp
  · exact lay_len _ _ _ _ _ _ _
theorem layAll_sites : ∀ (W : List Wish) (K : List Kd) (n : Nat), (layAll W K n).2.length ≤ W.length
  | [], K, n => by simp [layAll]
  | (i, t, r) :: W, K, n => by
    have h1 := layAt_sites K i t r n
    have h2 := layAll_sites W (layAt K i t r n).1 (n + (layAt K i t r n).2.length)
    simp only [layAll, List.length_append, List.length_cons]
    omega
theorem node_sites (x : Nd) (N : List ByteArray) (K : List Kd) (n : Nat) : (node x N K n).2.length ≤ K.length + 3 := by
  unfold node
  split
  · cases K with
    | nil => simp
    | cons k K =>
      have := lay_len k.T k.t (noteT x.t) x.line x.col 16 n
      simp only [List.length_cons]
      omega
  · have h1 := layAll_sites (wishes x (K.map Kd.t)) K n
    have h2 := wishes_len x (K.map Kd.t)
    rw [List.length_map] at h2
    simp only
    omega
theorem sites_len (ts : Nat → Ty) : ∀ (f : F) (g : Nat → List ByteArray) (k p n : Nat), (insF ts f g k p n).2.length + f.cnt ≤ 4 * f.flat.length
  | .nil, _, _, _, _ => by simp [insF, F.cnt, F.flat]
  | .cons x ks r, g, k, p, n => by
    have h1 := sites_len ts ks (fun j => innerN x j (g k)) 0 (p + 1) n
    have h2 := node_sites x (g k) (insF ts ks (fun j => innerN x j (g k)) 0 (p + 1) n).1 (n + (insF ts ks (fun j => innerN x j (g k)) 0 (p + 1) n).2.length)
    rw [insF_len] at h2
    have h3 := sites_len ts r g (k + 1) (p + 1 + ks.flat.length) (n + (ins1 ts x ks (g k) p n).2.length)
    rw [insF_cons]
    have h4 : (ins1 ts x ks (g k) p n).2.length + 1 ≤ 4 * (ks.flat.length + 1) := by
      simp only [ins1, List.length_append]
      omega
    simp only [List.length_append, F.cnt, F.flat, List.length_cons]
    omega
theorem ins_ok (ts : Nat → Ty) : ∀ (f : F) (g : Nat → Env) (k p n : Nat) (K : List (Nat × List Ty)), (∀ y ∈ f.flat, may y = true) → f.Ok → chk false f g k p = .ok K → Agr ts p ((K.map Prod.snd).flatten) → n + 4 * f.flat.length ≤ 2147483647 →
    ∀ (i : Nat) (d : Kd), (insF ts f (fun j => (g j).map Prod.fst) k p n).1[i]? = some d → Okp d.T ((g (k + i)).map Prod.snd) d.t ∧ d.t.fits
  | .nil, g, k, p, n, K, _, _, _, _, _ => fun i d hd => by simp [insF] at hd
  | .cons x ks r, g, k, p, n, K, hm, hO, h, hA, hn => by
    obtain ⟨hx, hOk, hOr⟩ := hO
    obtain ⟨K1, t, R, h1, h2, h3, h4, h5, rfl⟩ := F.chk_cons h
    have hl := F.chk_len false ks _ 0 (p + 1) K1 h2
    simp only [List.map_cons, List.flatten_cons] at hA
    have a0 : ts p = t := hA.left.head
    have a1 := hA.left.tail
    have a2 := hA.right (n := 1 + ks.flat.length) (by rw [List.length_cons, hl]; omega)
    rw [show p + (1 + ks.flat.length) = p + 1 + ks.flat.length by omega] at a2
    have hm1 : ∀ y ∈ ks.flat, may y = true := fun y hy => hm y (by simp [F.flat, hy])
    have hm2 : ∀ y ∈ r.flat, may y = true := fun y hy => hm y (by simp [F.flat, hy])
    have hfl : (F.cons x ks r).flat.length = 1 + ks.flat.length + r.flat.length := by simp [F.flat]; omega
    rw [hfl] at hn
    have ih1 := ins_ok ts ks (fun j => innerT x j (g k)) 0 (p + 1) n K1 hm1 hOk h2 a1 (by omega)
    have hkt := kid_types ts ks _ 0 (p + 1) K1 h2 a1
    have hnm : (fun j => innerN x j ((g k).map Prod.fst)) = fun j => (innerT x j (g k)).map Prod.fst := funext fun j => (innerN_map x j (g k)).symm
    have hit := insF_types ts ks (fun j => (innerT x j (g k)).map Prod.fst) 0 (p + 1) n
    rw [← hkt] at hit
    have hS := sites_len ts ks (fun j => (innerT x j (g k)).map Prod.fst) 0 (p + 1) n
    have hL := insF_len ts ks (fun j => (innerT x j (g k)).map Prod.fst) 0 (p + 1) n
    have hft : t.fits := h4
    have hone : Okp (ins1 ts x ks ((g k).map Prod.fst) p n).1 ((g k).map Prod.snd) t := by
      unfold ins1
      simp only [hnm]
      generalize insF ts ks (fun j => (innerT x j (g k)).map Prod.fst) 0 (p + 1) n = A at *
      obtain ⟨D, S⟩ := A
      simp only at ih1 hit hS hL
      refine node_typed (p := p) (hm x (by simp [F.flat])) (by rw [hL]; exact hx) (fun i d hd => ?_) (by rw [hit]; exact h3) hft h1 (by simp only; omega)
      have := ih1 i d hd
      rwa [Nat.zero_add] at this
    have hS1 : (ins1 ts x ks ((g k).map Prod.fst) p n).2.length ≤ 4 * (1 + ks.flat.length) := by
      have h2' := node_sites x ((g k).map Prod.fst) (insF ts ks (fun j => (innerT x j (g k)).map Prod.fst) 0 (p + 1) n).1 (n + (insF ts ks (fun j => (innerT x j (g k)).map Prod.fst) 0 (p + 1) n).2.length)
      rw [hL] at h2'
      unfold ins1
      simp only [hnm, List.length_append]
      omega
    have ih2 := ins_ok ts r g (k + 1) (p + 1 + ks.flat.length) (n + (ins1 ts x ks ((g k).map Prod.fst) p n).2.length) R hm2 hOr h5 a2 (by omega)
    rw [insF_cons]
    intro i d hd
    cases i with
    | zero =>
      simp only [List.getElem?_cons_zero, Option.some.injEq] at hd
      subst hd
      simp only [a0]
      exact ⟨hone, hft⟩
    | succ i =>
      simp only [List.getElem?_cons_succ] at hd
      have := ih2 i d hd
      rwa [show k + 1 + i = k + (i + 1) by omega] at this
end Culp.Ins

/- Plain: how large the term is; the casts' labels are the sites' numbers, each once. -/
namespace Culp.Ins
set_option linter.unusedSimpArgs false
set_option linter.unusedVariables false
open Culp Culp.Tr
theorem wishes_le {x : Nd} {L : List Ty} (hm : may x = true) (hl : (L.length : Int) = x.kids) : (wishes x L).length ≤ L.length := by
  obtain ⟨_, _, ha, _⟩ := may_words hm
  have har : ∀ (k a : Int), x.kind = k → arit k = a → a ≠ -1 → (L.length : Int) = a := fun k a h0 h1 h2 => by
    rw [h0] at ha
    rcases ha with h | h <;> omega
  unfold wishes
  by_cases h1 : x.kind = 5 ∨ x.kind = 6
  · rw [if_pos h1]
    have : (L.length : Int) = 1 := by rcases h1 with h | h <;> exact har _ _ h rfl (by decide)
    simp only [List.length_cons, List.length_nil]; omega
  rw [if_neg h1]
  by_cases h2 : x.kind = 8
  · rw [if_pos h2]
    have := har _ _ h2 rfl (by decide)
    simp only [List.length_cons, List.length_nil]
    have e : arit 8 = 2 := rfl
    omega
  rw [if_neg h2]
  by_cases h3 : x.kind = 7
  · rw [if_pos h3]
    have : (L.length : Int) = 2 := har _ _ h3 rfl (by decide)
    simp only [List.length_cons, List.length_nil]; omega
  rw [if_neg h3]
  by_cases h4 : x.kind = 9
  · rw [if_pos h4]
    have : (L.length : Int) = 3 := har _ _ h4 rfl (by decide)
    simp only [List.length_cons, List.length_nil]; omega
  rw [if_neg h4]
  have hall : ∀ t r, (all L.length t r).length = L.length := fun t r => by simp [all]
  by_cases h5 : x.kind = 10 ∨ x.kind = 11 ∨ x.kind = 12 ∨ x.kind = 16 ∨ x.kind = 14 ∨ x.kind = 15
  · rw [if_pos h5, hall]; exact Nat.le_refl _
  rw [if_neg h5]
  by_cases h6 : x.kind = 13 ∨ x.kind = 17
  · rw [if_pos h6, hall]; exact Nat.le_refl _
  rw [if_neg h6]
  by_cases h7 : x.kind = 19 ∨ x.kind = 20
  · rw [if_pos h7]
    have : (L.length : Int) = 1 := by rcases h7 with h | h <;> exact har _ _ h rfl (by decide)
    simp only [List.length_cons, List.length_nil]; omega
  rw [if_neg h7]
  by_cases h8 : x.kind = 22 ∨ x.kind = 23 ∨ x.kind = 24
  · rw [if_pos h8]
    have : (L.length : Int) = 1 := by rcases h8 with h | h | h <;> exact har _ _ h rfl (by decide)
    simp only [List.length_cons, List.length_nil]; omega
  rw [if_neg h8]
  by_cases h9 : x.kind = 25
  · rw [if_pos h9]
    have : (L.length : Int) = 2 := har _ _ h9 rfl (by decide)
    simp only [List.length_cons, List.length_nil]; omega
  rw [if_neg h9]
  by_cases h10 : x.kind = 27
  · rw [if_pos h10]
    have : (L.length : Int) = 1 := har _ _ h10 rfl (by decide)
    simp only [List.length_cons, List.length_nil]; omega
  rw [if_neg h10]
  by_cases h11 : x.kind = 28
  · rw [if_pos h11]
    have : (L.length : Int) = 2 := har _ _ h11 rfl (by decide)
    simp only [List.length_cons, List.length_nil]; omega
  rw [if_neg h11]
  split
  · rw [hall]; exact Nat.le_refl _
  · simp
theorem node_sites_le {x : Nd} {N : List ByteArray} {K : List Kd} {n : Nat} (hm : may x = true) (hl : (K.length : Int) = x.kids) : (node x N K n).2.length ≤ K.length := by
  unfold node
  split
  · cases K with
    | nil => simp
    | cons k K =>
      have := lay_len k.T k.t (noteT x.t) x.line x.col 16 n
      simp only [List.length_cons]
      omega
  · have h1 := layAll_sites (wishes x (K.map Kd.t)) K n
    have h2 := wishes_le (L := K.map Kd.t) hm (by rw [List.length_map]; exact hl)
    rw [List.length_map] at h2
    exact Nat.le_trans h1 h2
/-- No more sites than nodes. -/
theorem sites_le (ts : Nat → Ty) : ∀ (f : F) (g : Nat → List ByteArray) (k p n : Nat), (∀ y ∈ f.flat, may y = true) → f.Ok → (insF ts f g k p n).2.length + f.cnt ≤ f.flat.length
  | .nil, _, _, _, _, _, _ => by simp [insF, F.cnt, F.flat]
  | .cons x ks r, g, k, p, n, hm, hO => by
    obtain ⟨hx, hOk, hOr⟩ := hO
    have h1 := sites_le ts ks (fun j => innerN x j (g k)) 0 (p + 1) n (fun y hy => hm y (by simp [F.flat, hy])) hOk
    have h2 := node_sites_le (N := g k) (K := (insF ts ks (fun j => innerN x j (g k)) 0 (p + 1) n).1) (n := n + (insF ts ks (fun j => innerN x j (g k)) 0 (p + 1) n).2.length) (hm x (by simp [F.flat])) (by rw [insF_len]; exact hx)
    rw [insF_len] at h2
    have h3 := sites_le ts r g (k + 1) (p + 1 + ks.flat.length) (n + (ins1 ts x ks (g k) p n).2.length) (fun y hy => hm y (by simp [F.flat, hy])) hOr
    rw [insF_cons]
    have h4 : (ins1 ts x ks (g k) p n).2.length ≤ ks.flat.length := by
      simp only [ins1, List.length_append]
      omega
    simp only [List.length_append, F.cnt, F.flat, List.length_cons]
    omega
/-- The casts among nodes, by their labels and places. -/
def labs (T : List Nd) : List (Int × Int × Int) := (T.filter fun y => y.kind == 30).map fun y => (y.n, y.line, y.col)
/-- Sites, numbered behind n. -/
def nums : Nat → List Sit → List (Int × Int × Int)
  | _, [] => []
  | n, s :: S => (((n + 1 : Nat) : Int), s.1, s.2.1) :: nums (n + 1) S
theorem nums_app : ∀ (A B : List Sit) (n : Nat), nums n (A ++ B) = nums n A ++ nums (n + A.length) B
  | [], B, n => by simp [nums]
  | s :: A, B, n => by
    simp only [List.cons_append, nums, nums_app A B (n + 1), List.length_cons]
    rw [show n + 1 + A.length = n + (A.length + 1) by omega]
theorem labs_app (A B : List Nd) : labs (A ++ B) = labs A ++ labs B := by simp [labs]
theorem labs_lay (T : List Nd) (s t : Ty) (l c r : Int) (n : Nat) : (labs (lay T s t l c r n).1).Perm (labs T ++ nums n (lay T s t l c r n).2) := by
  unfold lay
  split
  · simp [nums]
  · simp only [labs, cast, nums, List.filter_cons, beq_self_eq_true, if_true, List.map_cons]
    exact (List.perm_append_comm (l₁ := [_])).trans (List.Perm.refl _)
def body (K : List Kd) : List Nd := (K.map Kd.T).flatten
theorem labs_layAt : ∀ (K : List Kd) (i : Nat) (t : Ty) (r : Int) (n : Nat), (labs (body (layAt K i t r n).1)).Perm (labs (body K) ++ nums n (layAt K i t r n).2)
  | [], i, t, r, n => by simp [layAt, body, labs, nums]
  | k :: K, 0, t, r, n => by
    have h := labs_lay k.T k.t t k.l k.c r n
    simp only [layAt, List.getElem?_cons_zero, List.set_cons_zero, body, List.map_cons, List.flatten_cons, labs_app]
    refine (h.append_right _).trans ?_
    rw [List.append_assoc, List.append_assoc]
    exact List.Perm.append_left _ List.perm_append_comm
  | k :: K, i + 1, t, r, n => by
    have h := labs_layAt K i t r n
    have e1 : (layAt (k :: K) (i + 1) t r n) = (k :: (layAt K i t r n).1, (layAt K i t r n).2) := by
      unfold layAt
      rw [List.getElem?_cons_succ]
      cases K[i]? <;> simp
    rw [e1]
    simp only [body, List.map_cons, List.flatten_cons, labs_app, List.append_assoc]
    exact List.Perm.append_left _ h
theorem labs_layAll : ∀ (W : List Wish) (K : List Kd) (n : Nat), (labs (body (layAll W K n).1)).Perm (labs (body K) ++ nums n (layAll W K n).2)
  | [], K, n => by simp [layAll, nums]
  | (i, t, r) :: W, K, n => by
    have h1 := labs_layAt K i t r n
    have h2 := labs_layAll W (layAt K i t r n).1 (n + (layAt K i t r n).2.length)
    simp only [layAll, nums_app]
    refine h2.trans ?_
    rw [← List.append_assoc]
    exact h1.append_right _
theorem labs_node {x : Nd} {N : List ByteArray} {K : List Kd} {n : Nat} (hm : x.kind ≠ 30) (h1 : x.kind = 29 → K.length = 1) : (labs (node x N K n).1).Perm (labs (body K) ++ nums n (node x N K n).2) := by
  unfold node
  by_cases h29 : x.kind = 29
  · simp only [if_pos h29]
    match K, h1 h29 with
    | [k], _ =>
      have h := labs_lay k.T k.t (noteT x.t) x.line x.col 16 n
      simpa [body] using h
  · simp only [if_neg h29]
    have h := labs_layAll (wishes x (K.map Kd.t)) K n
    have e : ∀ L, labs (bare x N (K.map Kd.t) :: L) = labs L := fun L => by
      simp [labs, List.filter_cons, bare, hm]
    rw [e]
    exact h
theorem labs_insF (ts : Nat → Ty) : ∀ (f : F) (g : Nat → List ByteArray) (k p n : Nat), (∀ y ∈ f.flat, may y = true) → f.Ok → (labs (body (insF ts f g k p n).1)).Perm (nums n (insF ts f g k p n).2)
  | .nil, _, _, _, _, _, _ => by simp [insF, body, labs, nums]
  | .cons x ks r, g, k, p, n, hm, hO => by
    obtain ⟨hx, hOk, hOr⟩ := hO
    have hmx := hm x (by simp [F.flat])
    obtain ⟨w1, _, w3, _⟩ := may_words hmx
    have h1 := labs_insF ts ks (fun j => innerN x j (g k)) 0 (p + 1) n (fun y hy => hm y (by simp [F.flat, hy])) hOk
    have hl := insF_len ts ks (fun j => innerN x j (g k)) 0 (p + 1) n
    have h2 := labs_node (x := x) (N := g k) (K := (insF ts ks (fun j => innerN x j (g k)) 0 (p + 1) n).1) (n := n + (insF ts ks (fun j => innerN x j (g k)) 0 (p + 1) n).2.length) w1 (fun h29 => by
      rw [hl]
      rw [h29] at w3
      have : arit 29 = 1 := rfl
      omega)
    have h3 := labs_insF ts r g (k + 1) (p + 1 + ks.flat.length) (n + (ins1 ts x ks (g k) p n).2.length) (fun y hy => hm y (by simp [F.flat, hy])) hOr
    rw [insF_cons]
    have h4 : (labs (ins1 ts x ks (g k) p n).1).Perm (nums n (ins1 ts x ks (g k) p n).2) := by
      unfold ins1
      simp only [nums_app]
      exact h2.trans (h1.append_right _)
    simp only [body, List.map_cons, List.flatten_cons, labs_app, nums_app]
    exact h4.append h3
/-- How large a part is: one for each node that is laid, one for each cast. -/
theorem size_layAt : ∀ (K : List Kd) (i : Nat) (t : Ty) (r : Int) (n : Nat), (body (layAt K i t r n).1).length = (body K).length + (layAt K i t r n).2.length
  | [], i, t, r, n => by simp [layAt, body]
  | k :: K, 0, t, r, n => by
    simp only [layAt, List.getElem?_cons_zero, List.set_cons_zero, body, List.map_cons, List.flatten_cons, List.length_append, lay]
    split <;> simp <;> omega
  | k :: K, i + 1, t, r, n => by
    have h := size_layAt K i t r n
    have e1 : (layAt (k :: K) (i + 1) t r n) = (k :: (layAt K i t r n).1, (layAt K i t r n).2) := by
      unfold layAt
      rw [List.getElem?_cons_succ]
      cases K[i]? <;> simp
    rw [e1]
    simp only [body, List.map_cons, List.flatten_cons, List.length_append] at h ⊢
    omega
theorem size_layAll : ∀ (W : List Wish) (K : List Kd) (n : Nat), (body (layAll W K n).1).length = (body K).length + (layAll W K n).2.length
  | [], K, n => by simp [layAll]
  | (i, t, r) :: W, K, n => by
    have h1 := size_layAt K i t r n
    have h2 := size_layAll W (layAt K i t r n).1 (n + (layAt K i t r n).2.length)
    simp only [layAll, List.length_append]
    omega
theorem size_node (x : Nd) (N : List ByteArray) (K : List Kd) (n : Nat) : (node x N K n).1.length ≤ 1 + (body K).length + (node x N K n).2.length := by
  unfold node
  by_cases h29 : x.kind = 29
  · simp only [if_pos h29]
    cases K with
    | nil => simp
    | cons k K =>
      simp only [body, List.map_cons, List.flatten_cons, List.length_append, lay]
      split <;> simp <;> omega
  · simp only [if_neg h29, List.length_cons]
    have := size_layAll (wishes x (K.map Kd.t)) K n
    unfold body at this
    unfold body
    omega
theorem size_insF (ts : Nat → Ty) : ∀ (f : F) (g : Nat → List ByteArray) (k p n : Nat), (body (insF ts f g k p n).1).length ≤ f.flat.length + (insF ts f g k p n).2.length
  | .nil, _, _, _, _ => by simp [insF, body]
  | .cons x ks r, g, k, p, n => by
    have h1 := size_insF ts ks (fun j => innerN x j (g k)) 0 (p + 1) n
    have h2 := size_node x (g k) (insF ts ks (fun j => innerN x j (g k)) 0 (p + 1) n).1 (n + (insF ts ks (fun j => innerN x j (g k)) 0 (p + 1) n).2.length)
    have h3 := size_insF ts r g (k + 1) (p + 1 + ks.flat.length) (n + (ins1 ts x ks (g k) p n).2.length)
    rw [insF_cons]
    have h4 : (ins1 ts x ks (g k) p n).1.length ≤ 1 + ks.flat.length + (ins1 ts x ks (g k) p n).2.length := by
      unfold ins1
      simp only [List.length_append]
      omega
    simp only [body, List.map_cons, List.flatten_cons, List.length_append, F.flat, List.length_cons] at h3 ⊢
    omega
end Culp.Ins

/- Plain: what the walk of a part leans on: kids' places, wishes, names. -/
namespace Culp.Tr.F
set_option linter.unusedSimpArgs false
set_option linter.unusedVariables false
theorem places_nodup : ∀ (f : F) (p : Nat), (f.places p).Nodup
  | nil, _ => List.nodup_nil
  | cons x ks r, p => by
    simp only [places, List.nodup_cons]
    refine ⟨fun h => ?_, places_nodup r _⟩
    have := places_ge r _ _ h
    omega
end Culp.Tr.F
namespace Culp.Ins
set_option linter.unusedSimpArgs false
set_option linter.unusedVariables false
open Go Culp Culp.Tr
theorem wish_idx {x : Nd} {L : List Ty} (hm : may x = true) (hl : (L.length : Int) = x.kids) : ∀ w ∈ wishes x L, w.1 < L.length := by
  obtain ⟨_, _, ha, _⟩ := may_words hm
  have har : ∀ (k a : Int), x.kind = k → arit k = a → a ≠ -1 → (L.length : Int) = a := fun k a h0 h1 h2 => by
    rw [h0] at ha
    rcases ha with h | h <;> omega
  have hall : ∀ (t : Ty) (r : Int), ∀ w ∈ all L.length t r, w.1 < L.length := fun t r w hw => by
    simp only [all, List.mem_map, List.mem_range] at hw
    obtain ⟨i, hi, rfl⟩ := hw
    exact hi
  have h1 : ∀ (i : Nat) (t : Ty) (r : Int), i < L.length → ∀ w ∈ ([(i, t, r)] : List Wish), w.1 < L.length := fun i t r hi w hw => by
    rw [List.mem_singleton] at hw
    subst hw
    exact hi
  have hc : ∀ (a : Wish) (l : List Wish), a.1 < L.length → (∀ w ∈ l, w.1 < L.length) → ∀ w ∈ a :: l, w.1 < L.length := fun a l ha hl w hw => by
    rcases List.mem_cons.1 hw with rfl | hw
    · exact ha
    · exact hl w hw
  intro w hw
  unfold wishes at hw
  by_cases k1 : x.kind = 5 ∨ x.kind = 6
  · rw [if_pos k1] at hw
    have : (L.length : Int) = 1 := by rcases k1 with h | h <;> exact har _ _ h rfl (by decide)
    exact h1 _ _ _ (by omega) w hw
  rw [if_neg k1] at hw
  by_cases k2 : x.kind = 8
  · rw [if_pos k2] at hw
    have : (L.length : Int) = 2 := har _ _ k2 rfl (by decide)
    exact h1 _ _ _ (by omega) w hw
  rw [if_neg k2] at hw
  by_cases k3 : x.kind = 7
  · rw [if_pos k3] at hw
    have : (L.length : Int) = 2 := har _ _ k3 rfl (by decide)
    exact hc _ _ (by simp only; omega) (h1 _ _ _ (by omega)) w hw
  rw [if_neg k3] at hw
  by_cases k4 : x.kind = 9
  · rw [if_pos k4] at hw
    have : (L.length : Int) = 3 := har _ _ k4 rfl (by decide)
    exact hc _ _ (by simp only; omega) (hc _ _ (by simp only; omega) (h1 _ _ _ (by omega))) w hw
  rw [if_neg k4] at hw
  by_cases k5 : x.kind = 10 ∨ x.kind = 11 ∨ x.kind = 12 ∨ x.kind = 16 ∨ x.kind = 14 ∨ x.kind = 15
  · rw [if_pos k5] at hw
    exact hall _ _ w hw
  rw [if_neg k5] at hw
  by_cases k6 : x.kind = 13 ∨ x.kind = 17
  · rw [if_pos k6] at hw
    exact hall _ _ w hw
  rw [if_neg k6] at hw
  by_cases k7 : x.kind = 19 ∨ x.kind = 20
  · rw [if_pos k7] at hw
    have : (L.length : Int) = 1 := by rcases k7 with h | h <;> exact har _ _ h rfl (by decide)
    exact h1 _ _ _ (by omega) w hw
  rw [if_neg k7] at hw
  by_cases k8 : x.kind = 22 ∨ x.kind = 23 ∨ x.kind = 24
  · rw [if_pos k8] at hw
    have : (L.length : Int) = 1 := by rcases k8 with h | h | h <;> exact har _ _ h rfl (by decide)
    exact h1 _ _ _ (by omega) w hw
  rw [if_neg k8] at hw
  by_cases k9 : x.kind = 25
  · rw [if_pos k9] at hw
    have : (L.length : Int) = 2 := har _ _ k9 rfl (by decide)
    exact hc _ _ (by simp only; omega) (h1 _ _ _ (by omega)) w hw
  rw [if_neg k9] at hw
  by_cases k10 : x.kind = 27
  · rw [if_pos k10] at hw
    have : (L.length : Int) = 1 := har _ _ k10 rfl (by decide)
    exact h1 _ _ _ (by omega) w hw
  rw [if_neg k10] at hw
  by_cases k11 : x.kind = 28
  · rw [if_pos k11] at hw
    have : (L.length : Int) = 2 := har _ _ k11 rfl (by decide)
    exact hc _ _ (by simp only; omega) (h1 _ _ _ (by omega)) w hw
  rw [if_neg k11] at hw
  split at hw
  · exact hall _ _ w hw
  · cases hw
/-- Kids as they stand in the tree. -/
def KOk (T : List Nd) (ts : Nat → Ty) (K : List Kd) : Prop := ∀ d ∈ K, ∃ y, T[d.p]? = some y ∧ y.line = d.l ∧ y.col = d.c ∧ ts d.p = d.t
theorem insF_kok {T : List Nd} (ts : Nat → Ty) : ∀ (f : F) (g : Nat → List ByteArray) (k p n : Nat), (∀ (j : Nat) (y : Nd), f.flat[j]? = some y → T[p + j]? = some y) → KOk T ts (insF ts f g k p n).1
  | .nil, _, _, _, _, _ => fun d hd => by cases hd
  | .cons x ks r, g, k, p, n, h => by
    rw [insF_cons]
    intro d hd
    rcases List.mem_cons.1 hd with rfl | hd
    · exact ⟨x, h 0 x rfl, rfl, rfl, rfl⟩
    · refine insF_kok ts r g (k + 1) (p + 1 + ks.flat.length) _ (fun j y hj => ?_) d hd
      have := h (1 + ks.flat.length + j) y (by
        show (x :: (ks.flat ++ r.flat))[1 + ks.flat.length + j]? = some y
        rw [show 1 + ks.flat.length + j = (ks.flat.length + j) + 1 by omega, List.getElem?_cons_succ, List.getElem?_append_right (by omega)]
        simpa using hj)
      rwa [show p + (1 + ks.flat.length + j) = p + 1 + ks.flat.length + j by omega] at this
theorem layAt_some {K : List Kd} {i : Nat} {d : Kd} (h : K[i]? = some d) (t : Ty) (r : Int) (n : Nat) : layAt K i t r n = (K.set i { d with T := (lay d.T d.t t d.l d.c r n).1 }, (lay d.T d.t t d.l d.c r n).2) := by
  unfold layAt
  rw [h]
theorem mem_set_other {K : List Kd} {i : Nat} {d d' : Kd} (hn : (K.map Kd.p).Nodup) (h : K[i]? = some d) : ∀ k ∈ K.set i d', k = d' ∨ (k.p ≠ d.p ∧ k ∈ K) := by
  intro k hk
  obtain ⟨j, hj⟩ := List.mem_iff_getElem?.1 hk
  rw [List.getElem?_set] at hj
  split at hj
  · split at hj
    · injection hj with hj; exact .inl hj.symm
    · cases hj
  · rename_i hij
    refine .inr ⟨fun he => ?_, List.mem_iff_getElem?.2 ⟨j, hj⟩⟩
    have h1 : (K.map Kd.p)[j]? = some k.p := by rw [List.getElem?_map, hj]; rfl
    have h2 : (K.map Kd.p)[i]? = some d.p := by rw [List.getElem?_map, h]; rfl
    have l1 := (List.getElem?_eq_some_iff.1 h1).1
    have l2 := (List.getElem?_eq_some_iff.1 h2).1
    rw [he, ← h2] at h1
    exact hij ((List.getElem?_inj l1 hn).1 h1).symm
theorem layAt_places (K : List Kd) (i : Nat) (t : Ty) (r : Int) (n : Nat) : (layAt K i t r n).1.map Kd.p = K.map Kd.p := by
  unfold layAt
  split
  · rfl
  · rename_i k hk
    apply List.ext_getElem?
    intro j
    simp only [List.getElem?_map, List.getElem?_set]
    split
    · rename_i h; subst h
      split
      · rw [hk]; rfl
      · rename_i h2; rw [List.getElem?_eq_none (by omega)]
    · rfl
theorem layAt_types (K : List Kd) (i : Nat) (t : Ty) (r : Int) (n : Nat) : (layAt K i t r n).1.map Kd.t = K.map Kd.t := by
  unfold layAt
  split
  · rfl
  · rename_i k hk
    apply List.ext_getElem?
    intro j
    simp only [List.getElem?_map, List.getElem?_set]
    split
    · rename_i h; subst h
      split
      · rw [hk]; rfl
      · rename_i h2; rw [List.getElem?_eq_none (by omega)]
    · rfl
theorem layAt_kok {T : List Nd} {ts : Nat → Ty} {K : List Kd} (h : KOk T ts K) (i : Nat) (t : Ty) (r : Int) (n : Nat) : KOk T ts (layAt K i t r n).1 := by
  unfold layAt
  split
  · exact h
  · rename_i k hk
    intro d hd
    rcases List.mem_or_eq_of_mem_set hd with hd | rfl
    · exact h d hd
    · exact h k (List.mem_of_getElem? hk)
theorem mem_body {K : List Kd} {d : Kd} (h : d ∈ K) : d.T.length ≤ (body K).length := by
  induction K with
  | nil => cases h
  | cons k K ih =>
    simp only [body, List.map_cons, List.flatten_cons, List.length_append] at ih ⊢
    rcases List.mem_cons.1 h with rfl | h
    · omega
    · have := ih h
      omega
theorem body_take {K : List Kd} {j : Nat} {d : Kd} (h : K[j]? = some d) : body (K.take (j + 1)) = body (K.take j) ++ d.T := by
  have hj := (List.getElem?_eq_some_iff.1 h).1
  have he : K[j] = d := by rw [List.getElem?_eq_getElem hj] at h; exact Option.some.inj h
  unfold body
  rw [List.take_succ_eq_append_getElem hj, List.map_append, List.flatten_append, he]
  simp
theorem body_take_le (K : List Kd) (j : Nat) : (body (K.take j)).length ≤ (body K).length := by
  have : body K = body (K.take j) ++ body (K.drop j) := by
    unfold body
    rw [← List.flatten_append, ← List.map_append, List.take_append_drop]
  rw [this, List.length_append]
  omega
theorem layAll_drop {L : List Wish} {j : Nat} {w : Wish} (h : L[j]? = some w) (K : List Kd) (n : Nat) :
    layAll (L.drop j) K n = ((layAll (L.drop (j + 1)) (layAt K w.1 w.2.1 w.2.2 n).1 (n + (layAt K w.1 w.2.1 w.2.2 n).2.length)).1, (layAt K w.1 w.2.1 w.2.2 n).2 ++ (layAll (L.drop (j + 1)) (layAt K w.1 w.2.1 w.2.2 n).1 (n + (layAt K w.1 w.2.1 w.2.2 n).2.length)).2) := by
  have hj := (List.getElem?_eq_some_iff.1 h).1
  have he : L[j] = w := by rw [List.getElem?_eq_getElem hj] at h; exact Option.some.inj h
  rw [List.drop_eq_getElem_cons hj, he]
  rfl
theorem ins1_sites (ts : Nat → Ty) (x : Nd) (ks : F) (N : List ByteArray) (p n : Nat) : (ins1 ts x ks N p n).2.length + 1 ≤ 4 * (1 + ks.flat.length) := by
  have h := sites_len ts (.cons x ks .nil) (fun _ => N) 0 p n
  rw [insF_cons] at h
  simp only [insF, List.append_nil, F.cnt, F.flat, List.length_cons] at h
  omega
theorem ins1_size (ts : Nat → Ty) (x : Nd) (ks : F) (N : List ByteArray) (p n : Nat) : (ins1 ts x ks N p n).1.length ≤ 5 * (1 + ks.flat.length) := by
  have h := size_insF ts (.cons x ks .nil) (fun _ => N) 0 p n
  have h2 := ins1_sites ts x ks N p n
  rw [insF_cons] at h
  simp only [insF, List.append_nil, F.flat, List.length_cons, body, List.map_cons, List.map_nil, List.flatten_cons, List.flatten_nil] at h
  omega
theorem inner_rev {x : Nd} {k : Nat} {N : List ByteArray} (h8 : x.kind = 8 → k = 0 ∨ k = 1) : (N ++ binds x k).reverse = innerN x k N.reverse := by
  unfold binds innerN
  by_cases h5 : x.kind = 5
  · simp [h5]
  · by_cases h6 : x.kind = 6
    · rw [if_neg h5, if_pos h6, if_neg h5, if_pos h6]
      cases two x.s.data.toList with
      | none => simp
      | some ab => obtain ⟨a, b⟩ := ab; simp
    · rw [if_neg h5, if_neg h6, if_neg h5, if_neg h6]
      by_cases h : x.kind = 8 ∧ k = 1
      · rw [if_pos h, if_pos h]; simp
      · rw [if_neg h, if_neg h]; simp
/-- What a node that binds says, in the library's words: its kid finds it. -/
structure FldK (x : Nd) (k : Nat) : Prop where
  eq : (Lib.fields x.s.data.toList).map (fun l => (⟨l.toArray⟩ : ByteArray)) = binds x k
  len : 0 < (Lib.fields x.s.data.toList).length ∧ (Lib.fields x.s.data.toList).length ≤ 2
  size : x.s.size < 100
  ascii : ∀ (j : Nat) b, x.s.data.toList[j]? = some b → b.toNat < 128
theorem fldk_of {x : Nd} {k : Nat} (h : may x = true) (hk : x.kind = 5 ∨ x.kind = 6 ∨ (x.kind = 8 ∧ k = 1)) : FldK x k := by
  have h56 : (x.kind = 5 ∨ x.kind = 6) → FldK x k := fun h0 => by
    have hf := fld_of h h0
    refine ⟨hf.eq.trans ?_, hf.len, hf.size, hf.ascii⟩
    unfold binds
    rcases h0 with h0 | h0 <;> simp [h0]
  rcases hk with hk | hk | ⟨hk, h1⟩
  · exact h56 (.inl hk)
  · exact h56 (.inr hk)
  · have hs : sOk x.kind x.s.data.toList = true := by
      unfold may at h
      simp only [Bool.and_eq_true] at h
      exact h.1.1.2
    rw [hk] at hs
    have hn : Tx.isName x.s.data.toList = true := hs
    obtain ⟨g1, g2, g3⟩ := name_inner hn
    refine ⟨?_, ?_, ?_, ?_⟩
    · rw [fields_name hn]
      unfold binds
      simp [hk, h1]
    · rw [fields_name hn]; exact ⟨Nat.succ_pos _, by simp⟩
    · have : x.s.size = x.s.data.toList.length := by rw [Array.length_toList]; rfl
      omega
    · intro j b hb
      exact (inner_sp (g3 b (List.mem_of_getElem? hb))).2
end Culp.Ins
