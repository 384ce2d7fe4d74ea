
/- Memory: modules that lie anywhere have a skeleton. No program in sight. -/
import Derived.Test.YtidholghbjljaaaGreatDoorWb
namespace Culp.Er
set_option linter.unusedSimpArgs false
set_option linter.unusedVariables false
open Go Go.RowKit Culp
theorem RowsV.place {α : Type} {sz : Nat} {R : World → α → List Value → Prop} {w : World} {v : Value} {l : List α} (h : RowsV sz R w v l) : ∃ b off, SlOk v b off l.length ∧ ∀ i x, l[i]? = some x → ∃ cs, R w x cs ∧ cs.length = sz ∧ ∀ j u, cs[j]? = some u → w.cell? ⟨b, off + i * sz + j, none⟩ = some u := by
  obtain ⟨A, c, rfl, hc, hA⟩ := h
  rcases Nat.eq_zero_or_pos l.length with h0 | h0
  · exact ⟨0, 0, ⟨A, c, rfl, hc, fun h => by omega⟩, fun i x hx => by have := len_pos hx; omega⟩
  · obtain ⟨b, off, rfl, hk⟩ := hA h0
    exact ⟨b, off, ⟨_, c, rfl, hc, fun _ => rfl⟩, hk⟩
theorem Nodes.place {w : World} {v : Value} {l : List Nd} (h : Nodes w v l) : ∃ b off, SlOk v b off l.length ∧ NodesAt w b off l := by
  obtain ⟨A, c, rfl, hc, hA⟩ := h
  rcases Nat.eq_zero_or_pos l.length with h0 | h0
  · exact ⟨0, 0, ⟨A, c, rfl, hc, fun h => by omega⟩, fun i x hx => by have := len_pos hx; omega⟩
  · obtain ⟨b, off, rfl, hk⟩ := hA h0
    exact ⟨b, off, ⟨_, c, rfl, hc, fun _ => rfl⟩, hk⟩
theorem cell_lt {w : World} {a : Addr} {v : Value} (h : w.cell? a = some v) : a.block < w.heap.size := by
  rcases Nat.lt_or_ge a.block w.heap.size with hlt | hge
  · exact hlt
  · have hn : w.heap[a.block]? = none := Array.getElem?_eq_none hge
    simp [World.cell?, hn] at h
/-- Where a def's tree lies. -/
structure TSk where
  b : Nat
  o : Nat
  v : Value
/-- Where a module's rows lie. -/
structure MSk where
  ib : Nat
  io : Nat
  db : Nat
  dq : Nat
  iv : Value
  dv : Value
  t : Nat → TSk
theorem pick {α β : Type} [Inhabited β] {l : List α} {P : Nat → α → β → Prop} (h : ∀ i x, l[i]? = some x → ∃ y, P i x y) : ∃ f : Nat → β, ∀ i x, l[i]? = some x → P i x (f i) := by
  have : ∀ i, ∃ y : β, ∀ x, l[i]? = some x → P i x y := fun i => by
    cases hx : l[i]? with
    | none => exact ⟨default, fun x h => by cases h⟩
    | some x =>
      obtain ⟨y, hy⟩ := h i x hx
      exact ⟨y, fun z hz => by cases hz; exact hy⟩
  obtain ⟨f, hf⟩ := Classical.axiomOfChoice this
  exact ⟨f, fun i x hx => hf i x hx⟩
instance : Inhabited TSk := ⟨⟨0, 0, undef⟩⟩
instance : Inhabited MSk := ⟨⟨0, 0, 0, 0, undef, undef, fun _ => default⟩⟩
theorem note_im {L : List Md} {m i : Nat} {md : Md} {x : Im} (hm : L[m]? = some md) (hi : md.imps[i]? = some x) : layIm (note L) m i x = x := by simp [layIm, note, hm, hi]
theorem note_nd {L : List Md} {m i k : Nat} {md : Md} {d : Df} {x : Nd} (hm : L[m]? = some md) (hd : md.defs[i]? = some d) (hk : d.tree[k]? = some x) : layX (note L) m i k x = x := by simp [layX, note, hm, hd, hk]
theorem note_t {L : List Md} {m i : Nat} {md : Md} {d : Df} (hm : L[m]? = some md) (hd : md.defs[i]? = some d) : note L (1, m, i, 0) = d.t := by simp [note, hm, hd]
theorem sk_of_mods {w : World} {v : Value} {L : List Md} (h : Mods w v L) : ∃ sk, MAt sk w L (note L) ∧ SlOk v sk.b sk.o L.length ∧ Under sk w.heap.size L := by
  obtain ⟨b, o, hs, hL⟩ := RowsV.place h
  have hM : ∃ F : Nat → MSk, ∀ m md, L[m]? = some md → MdAt w b (o + m * 5) md (F m).iv (F m).dv ∧ SlOk (F m).iv (F m).ib (F m).io md.imps.length ∧ SlOk (F m).dv (F m).db (F m).dq md.defs.length ∧ (∀ i x, md.imps[i]? = some x → ImAt w (F m).ib ((F m).io + i * 5) x) ∧
      ∀ i d, md.defs[i]? = some d → DfAt w (F m).db ((F m).dq + i * 6) d ((F m).t i).v ∧ SlOk ((F m).t i).v ((F m).t i).b ((F m).t i).o d.tree.length ∧ NodesAt w ((F m).t i).b ((F m).t i).o d.tree := by
    refine pick (P := fun m md (y : MSk) => MdAt w b (o + m * 5) md y.iv y.dv ∧ SlOk y.iv y.ib y.io md.imps.length ∧ SlOk y.dv y.db y.dq md.defs.length ∧ (∀ i x, md.imps[i]? = some x → ImAt w y.ib (y.io + i * 5) x) ∧
      ∀ i d, md.defs[i]? = some d → DfAt w y.db (y.dq + i * 6) d (y.t i).v ∧ SlOk (y.t i).v (y.t i).b (y.t i).o d.tree.length ∧ NodesAt w (y.t i).b (y.t i).o d.tree) fun m md hm => ?_
    obtain ⟨cs, ⟨iv, dv, rfl, hi, hd⟩, -, hc⟩ := hL m md hm
    obtain ⟨ib, io, h1, h2⟩ := RowsV.place hi
    obtain ⟨db, dq, h3, h4⟩ := RowsV.place hd
    have hT : ∃ G : Nat → TSk, ∀ i d, md.defs[i]? = some d → DfAt w db (dq + i * 6) d (G i).v ∧ SlOk (G i).v (G i).b (G i).o d.tree.length ∧ NodesAt w (G i).b (G i).o d.tree := by
      refine pick (P := fun i d (y : TSk) => DfAt w db (dq + i * 6) d y.v ∧ SlOk y.v y.b y.o d.tree.length ∧ NodesAt w y.b y.o d.tree) fun i d hx => ?_
      obtain ⟨cs, ⟨tv, rfl, kt⟩, -, k3⟩ := h4 i d hx
      obtain ⟨tb, tq, h5, h6⟩ := Nodes.place kt
      exact ⟨⟨tb, tq, tv⟩, ⟨k3 0 _ rfl, k3 1 _ rfl, k3 2 _ rfl, k3 3 _ rfl, k3 4 _ rfl, k3 5 _ rfl⟩, h5, h6⟩
    obtain ⟨G, hG⟩ := hT
    refine ⟨⟨ib, io, db, dq, iv, dv, G⟩, ⟨hc 0 _ rfl, hc 1 _ rfl, hc 2 _ rfl, hc 3 _ rfl, hc 4 _ rfl⟩, h1, h3, fun i x hx => ?_, hG⟩
    obtain ⟨cs, rfl, -, k3⟩ := h2 i x hx
    exact ⟨k3 0 _ rfl, k3 1 _ rfl, k3 2 _ rfl, k3 3 _ rfl, k3 4 _ rfl⟩
  obtain ⟨F, hF⟩ := hM
  refine ⟨⟨b, o, fun m => (F m).ib, fun m => (F m).io, fun m => (F m).db, fun m => (F m).dq, fun m i => ((F m).t i).b, fun m i => ((F m).t i).o, fun m => (F m).iv, fun m => (F m).dv, fun m i => ((F m).t i).v, v⟩, fun m md hm => ?_, hs, ?_, ?_, ?_, ?_⟩
  · obtain ⟨a1, a2, a3, a4, a5⟩ := hF m md hm
    refine ⟨a1, a2, a3, fun i x hx => ?_, fun i d hd => ?_, fun i d hd k x hk j u hj => ?_⟩
    · rw [note_im hm hx]; exact a4 i x hx
    · obtain ⟨⟨q0, q1, q2, q3, q4, q5⟩, hs, -⟩ := a5 i d hd
      exact ⟨⟨q0, q1, by show _ = some (Value.string (note L (1, m, i, 0))); rw [note_t hm hd]; exact q2, q3, q4, q5⟩, hs⟩
    · rw [note_nd hm hd hk] at hj
      exact (a5 i d hd).2.2 k x hk j u hj
  · intro h0
    obtain ⟨md, hm⟩ : ∃ md, L[0]? = some md := ⟨_, List.getElem?_eq_getElem h0⟩
    exact cell_lt (hF 0 md hm).1.1
  · intro m md hm h0
    obtain ⟨x, hx⟩ : ∃ x, md.imps[0]? = some x := ⟨_, List.getElem?_eq_getElem h0⟩
    exact cell_lt ((hF m md hm).2.2.2.1 0 x hx).1
  · intro m md hm h0
    obtain ⟨x, hx⟩ : ∃ x, md.defs[0]? = some x := ⟨_, List.getElem?_eq_getElem h0⟩
    exact cell_lt ((hF m md hm).2.2.2.2 0 x hx).1.1
  · intro m md hm i d hd h0
    obtain ⟨x, hx⟩ : ∃ x, d.tree[0]? = some x := ⟨_, List.getElem?_eq_getElem h0⟩
    have := ((hF m md hm).2.2.2.2 i d hd).2.2 0 x hx 0 _ rfl
    exact cell_lt this
end Culp.Er
