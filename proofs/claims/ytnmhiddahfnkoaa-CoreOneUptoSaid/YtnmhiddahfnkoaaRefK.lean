/- Walks of the document's answer for layer 10: the types of nodes: kid, typed. -/
import Derived.Test.YtnmhiddahfnkoaaRefD
namespace Go.Proofs.Ytnmhiddahfnkoaa
set_option linter.unusedSimpArgs false
set_option linter.unusedVariables false
open Go.RowKit Culp

/-- All that was there stays, but for two blocks. -/
structure Keep2 (g a : Nat) (w w' : World) : Prop where
  os : w'.os = w.os
  tape : w'.tape = w.tape
  output : w'.output = w.output
  size : w.heap.size ≤ w'.heap.size
  block : ∀ k, k < w.heap.size → k ≠ g → k ≠ a → w'.heap[k]? = w.heap[k]?
section
variable {g a : Nat} {w w' x : World}
theorem Keep2.refl (g a : Nat) (w : World) : Keep2 g a w w := ⟨rfl, rfl, rfl, Nat.le_refl _, fun _ _ _ _ => rfl⟩
theorem Keep2.trans (h : Keep2 g a w w') (k : Keep2 g a w' x) : Keep2 g a w x :=
  ⟨k.os.trans h.os, k.tape.trans h.tape, k.output.trans h.output, Nat.le_trans h.size k.size, fun i hi hg ha => (k.block i (Nat.lt_of_lt_of_le hi h.size) hg ha).trans (h.block i hi hg ha)⟩
theorem Keep2.of (h : Below w.heap.size w w') : Keep2 g a w w' := ⟨h.os, h.tape, h.output, h.size, fun k hk _ _ => h.block k hk⟩
theorem Keep2.one (h : Keep g w w') : Keep2 g a w w' := ⟨h.os, h.tape, h.output, h.size, fun k hk hg _ => h.block k hk hg⟩
theorem Keep2.two (h : Keep a w w') : Keep2 g a w w' := ⟨h.os, h.tape, h.output, h.size, fun k hk _ ha => h.block k hk ha⟩
theorem Keep2.cell (h : Keep2 g a w w') {p : Addr} {v : Value} (hv : w.cell? p = some v) (hg : p.block ≠ g) (ha : p.block ≠ a) : w'.cell? p = some v := by
  have hlt := World.block_lt_of_cell? w p hv
  rw [World.cell?_of_block (w := w) (h.block p.block hlt hg ha)]
  exact hv
theorem Keep2.grow {B : Nat} (h : Keep2 g a w w') (hB : B = w.heap.size) (hb : Below B w' x) : Keep2 g a w x := by
  subst hB
  exact ⟨hb.os.trans h.os, hb.tape.trans h.tape, hb.output.trans h.output, Nat.le_trans h.size hb.size, fun k hk hg ha => (hb.block k hk).trans (h.block k hk hg ha)⟩
end

/-- The types so far: a row of texts. -/
def AllAt (a n : Nat) (w : World) : Prop := ∃ cs : Array Value, w.heap[a]? = some (.cells cs 9 (0, 0)) ∧ cs.size = n
theorem AllAt.later {a n : Nat} {w w' : World} (h : AllAt a n w) (hb : Below w.heap.size w w') : AllAt a n w' := by
  obtain ⟨cs, h1, h2⟩ := h
  exact ⟨cs, (hb.block a (Array.getElem?_eq_some_iff.1 h1).1).trans h1, h2⟩
theorem AllAt.keep {a n g : Nat} {w w' : World} (h : AllAt a n w) (hk : Keep g w w') (hg : a ≠ g) : AllAt a n w' := by
  obtain ⟨cs, h1, h2⟩ := h
  exact ⟨cs, (hk.block a (Array.getElem?_eq_some_iff.1 h1).1 hg).trans h1, h2⟩
theorem AllAt.lt {a n : Nat} {w : World} (h : AllAt a n w) : a < w.heap.size := by obtain ⟨cs, h1, _⟩ := h; exact (Array.getElem?_eq_some_iff.1 h1).1
theorem AllAt.cell {a n i : Nat} {w : World} (h : AllAt a n w) (hi : i < n) : ∃ v, w.cell? ⟨a, i, none⟩ = some v := by
  obtain ⟨cs, h1, h2⟩ := h
  exact ⟨cs[i]'(by omega), by simp [World.cell?, h1, show i < cs.size by omega]⟩
theorem AllAt.free {a n i : Nat} {w : World} (h : AllAt a n w) : w.frozen? ⟨a, i, none⟩ = false := by
  obtain ⟨cs, h1, h2⟩ := h
  simp [World.frozen?, h1]
theorem AllAt.set {a n : Nat} {w : World} (h : AllAt a n w) (i : Nat) (u : Value) : AllAt a n (w.setCell ⟨a, i, none⟩ u) := by
  obtain ⟨cs, h1, h2⟩ := h
  refine ⟨cs.setIfInBounds i u, ?_, by simpa using h2⟩
  simp [World.setCell, Array.getElem?_modify, h1]

/-- A list of texts that lies off the row. -/
def TysX (a : Nat) (w : World) (v : Value) (l : List Ty) : Prop := Tys w v l ∧ ∀ b n c, v = .slice (some ⟨b, 0, none⟩) n c → b ≠ a
theorem TysX.later {a : Nat} {w w' : World} {v : Value} {l : List Ty} (h : TysX a w v l) (hb : Below w.heap.size w w') : TysX a w' v l := ⟨h.1.later hb, h.2⟩
theorem TysX.keep {g a : Nat} {w w' : World} {v : Value} {l : List Ty} (h : TysX a w v l) (hk : Keep2 g a w w') {tv av : Value} {p : Int} {s : Option Flt} (hw : WkS g tv p s av w) (ht : ∀ s, tv ≠ .string s) (ha : ∀ s, av ≠ .string s) : TysX a w' v l := by
  obtain ⟨e, n, hW, _⟩ := hw.form
  refine ⟨?_, h.2⟩
  rcases h.1 with h1 | ⟨b, c, hv, hc⟩
  · exact .inl h1
  · exact .inr ⟨b, c, hv, fun i hi => hk.cell (hc i hi) (wk_ne hW ht ha (hc i hi)) (h.2 _ _ _ hv)⟩

/-- What the walk of the types leans on. -/
structure RInv (T : List Nd) (g a : Nat) (tv av : Value) (w : World) : Prop where
  nodes : Nodes w tv T
  nne : ∀ b off n c, tv = .slice (some ⟨b, off, none⟩) n c → b ≠ g ∧ b ≠ a
  av : av = .slice (some ⟨a, 0, none⟩) T.length T.length
  ne : a ≠ g
  all : AllAt a T.length w
  ts : ∀ s, tv ≠ .string s
theorem RInv.as {T : List Nd} {g a : Nat} {tv av : Value} {w : World} (h : RInv T g a tv av w) : ∀ s, av ≠ .string s := by rw [h.av]; simp
theorem RInv.next {T : List Nd} {g a : Nat} {tv av : Value} {w w' : World} (h : RInv T g a tv av w) (hk : Keep2 g a w w') (ha : AllAt a T.length w') : RInv T g a tv av w' := by
  refine ⟨?_, h.nne, h.av, h.ne, ha, h.ts⟩
  obtain ⟨A, c, rfl, hl, hN⟩ := h.nodes
  refine ⟨A, c, rfl, hl, fun h0 => ?_⟩
  obtain ⟨b, off, rfl, hM⟩ := hN h0
  have hb := h.nne b off _ _ rfl
  exact ⟨b, off, rfl, fun i x hx j u hu => hk.cell (hM i x hx j u hu) hb.1 hb.2⟩
theorem RInv.later {T : List Nd} {g a : Nat} {tv av : Value} {w w' : World} (h : RInv T g a tv av w) (hb : Below w.heap.size w w') : RInv T g a tv av w' := h.next (Keep2.of hb) (h.all.later hb)
theorem RInv.keep {T : List Nd} {g a : Nat} {tv av : Value} {w w' : World} (h : RInv T g a tv av w) (hk : Keep g w w') : RInv T g a tv av w' := h.next (Keep2.one hk) (h.all.keep hk h.ne)

/-- What a walk of a node ends with. -/
def TyRes (T : List Nd) (g a : Nat) (tv av : Value) (w : World) (r : Except Flt (Ty × Nat)) (en : Ending) (w' : World) : Prop :=
  ∃ u : ByteArray, en = .returned (.string u) ∧ Keep2 g a w w' ∧ AllAt a T.length w' ∧ match r with
    | .ok (t, q) => u = t.str ∧ WkS g tv q none av w'
    | .error f => ∃ q : Int, WkS g tv q (some f) av w'
def Args (T : List Nd) (f g a : Nat) (tv av ev : Value) (env : List Ty) (p q : Nat) (w : World) : Prop :=
  RInv T g a tv av w ∧ WkS g tv p none av w ∧ TysX a w ev env ∧ (∀ t ∈ env, t.fits) ∧ env.length + 2 * f ≤ 3000 ∧ (∀ x ∈ T, szOk x) ∧ shapeM T f p = .ok q
def OneR (T : List Nd) (f : Nat) : Prop := ∀ (g a : Nat) (tv av ev : Value) (env : List Ty) (p q : Nat) (w : World), Args T f g a tv av ev env p q w →
  Calls Try.prog 58 #[.pointer (some ⟨g, 0, none⟩), ev] w (TyRes T g a tv av w (typedM T f env p))
def TypedRr (T : List Nd) (f g a : Nat) (tv av : Value) (env : List Ty) (p : Nat) (w : World) (en : Ending) (w' : World) : Prop :=
  TyRes T g a tv av w (typedM T f env p) en w' ∧ ∀ t q, typedM T f env p = .ok (t, q) → w'.cell? ⟨a, p, none⟩ = some (.string t.str)
def TypedR (T : List Nd) (f : Nat) : Prop := ∀ (g a : Nat) (tv av ev : Value) (env : List Ty) (p q : Nat) (w : World), Args T f g a tv av ev env p q w →
  Calls Try.prog 49 #[.pointer (some ⟨g, 0, none⟩), ev] w (TypedRr T f g a tv av env p w)
def KidR (T : List Nd) (f : Nat) : Prop := ∀ (g a : Nat) (tv av ev : Value) (env : List Ty) (p q : Nat) (w : World), Args T f g a tv av ev env p q w →
  Calls Try.prog 67 #[.pointer (some ⟨g, 0, none⟩), ev] w (TyRes T g a tv av w (typedM T f env p))

theorem typedM_err (T : List Nd) (f : Nat) : True := trivial
theorem shape_place {T : List Nd} {f p q : Nat} (h : shapeM T f p = .ok q) : p < T.length := by
  cases f with
  | zero => exact absurd h shape_zero_no
  | succ f => obtain ⟨x, hx, _⟩ := shape_ok h; exact (List.getElem?_eq_some_iff.1 hx).1

set_option maxHeartbeats 1600000 in
theorem rtyped_of {T : List Nd} {f : Nat} (hT : T.length ≤ 16384) (h1 : OneR T f) : TypedR T f := by
  intro g a tv av ev env p q w hA
  have HA := Lib.hid hA
  have hpl := shape_place hA.2.2.2.2.2.2
  have c1 := Wk.c1 (show Wk g tv p 0 0 av w from hA.2.1)
  have hav := hA.1.av
  subst hav
  clear hA
  go_enter Try.func49, Try.ntmps49
  go_wp2_with fail
  refine (h1 g a tv _ ev env p q w HA.out).mono ?_
  unfold TyRes
  cases hr : typedM T f env p with
  | error fl =>
    obtain ⟨e0, p0⟩ := fl
    rintro en w' ⟨u, rfl, hk, ha, q', hq⟩
    have HK := Lib.hid hk
    have HAl := Lib.hid ha
    have HW := Lib.hid hq
    have c2 := hq.2.c2
    have e0' : (e0 == 0) = false := beq_eq_false_iff_ne.2 hq.1
    have HR := Lib.hid hr
    clear hk ha hq hr c1
    go_wp2_with fail
    go_ret
    unfold TypedRr TyRes
    rw [HR.out]
    exact ⟨⟨_, rfl, HK.out, HAl.out, _, HW.out⟩, fun t q h => by cases h⟩
  | ok tq =>
    obtain ⟨t0, q0⟩ := tq
    rintro en w' ⟨u, rfl, hk, ha, rfl, hq⟩
    have HK := Lib.hid hk
    have HAl := Lib.hid ha
    have HW := Lib.hid hq
    have hwk : Wk g tv q0 0 0 _ w' := hq
    have c2 := hwk.c2
    have c4 := hwk.c4
    obtain ⟨v0, hv0⟩ := ha.cell hpl
    have hf0 := ha.free (i := p)
    have HR := Lib.hid hr
    have i1 : (p : Int) < (T.length : Int) := by omega
    have hne := Lib.hid HA.out.1.ne
    clear hk ha hq hr c1 hwk
    go_wp2_with fail
    go_ret
    unfold TypedRr TyRes
    rw [HR.out]
    refine ⟨⟨_, rfl, HK.out.trans (Keep2.two ((Keep.refl a w').setCell p (.string t0.str))), HAl.out.set _ _, rfl, ?_⟩, fun t q h => by cases h; exact World.cell?_setCell_same _ _ _ hv0⟩
    show Wk g tv q0 0 0 _ _
    unfold Wk
    rw [Below.heap_setCell _ _ _ _ (by simp only; exact hne.out.symm)]
    exact HW.out

set_option maxHeartbeats 800000 in
theorem rkid_of {T : List Nd} {f : Nat} (h1 : TypedR T f) : KidR T f := by
  intro g a tv av ev env p q w hA
  have HA := Lib.hid hA
  have c2 := Wk.c2 (show Wk g tv p 0 0 av w from hA.2.1)
  clear hA
  go_enter Try.func67, Try.ntmps67
  go_wp2_with fail
  refine (h1 g a tv av ev env p q w HA.out).mono ?_
  rintro en w' ⟨⟨u, rfl, h⟩, _⟩
  have HH := Lib.hid h
  clear h c2
  go_wp2_with fail
  go_ret
  exact ⟨u, rfl, HH.out⟩
set_option maxHeartbeats 400000 in
theorem rkid_none (g : Nat) (tv av ev : Value) (p : Int) (f : Flt) (w : World) (h : WkS g tv p (some f) av w) :
    Calls Try.prog 67 #[.pointer (some ⟨g, 0, none⟩), ev] w (Gives (.string ⟨#[]⟩) w) := by
  obtain ⟨e, n⟩ := f
  have c2 := h.2.c2
  have e0 : (e != 0) = true := by simpa [bne] using h.1
  clear h
  go_enter Try.func67, Try.ntmps67
  go_wp2_with fail
  go_ret
  exact Gives.mk rfl
end Go.Proofs.Ytnmhiddahfnkoaa
