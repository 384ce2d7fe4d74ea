/- Walks of the reference of package text: one token. -/
import Derived.Test.YtenbecjnlgmkeaaDoorTxZ
namespace Culp.Tx
set_option linter.unusedSimpArgs false
set_option linter.unusedVariables false
/-- It stands first. -/
def Pfx (m l : List UInt8) : Prop := m.length ≤ l.length ∧ l.take m.length = m
def marksA : List (List UInt8) := marks2 ++ marks1.map fun c => [c]
theorem marksA_lo : ∀ k, k < 5 → ∀ m, marksA[k]? = some m → m ∈ marks2 := by
  intro k hk m hm
  match k, hk with
  | 0, _ => cases hm; decide
  | 1, _ => cases hm; decide
  | 2, _ => cases hm; decide
  | 3, _ => cases hm; decide
  | 4, _ => cases hm; decide
theorem marksA_hi {k : Nat} (hk : 5 ≤ k) {m : List UInt8} (hm : marksA[k]? = some m) : ∃ c, m = [c] ∧ c ∈ marks1 := by
  unfold marksA at hm
  rw [List.getElem?_append_right (show marks2.length ≤ k from hk)] at hm
  rw [List.getElem?_map] at hm
  simp only [Option.map_eq_some_iff] at hm
  obtain ⟨c, h1, rfl⟩ := hm
  exact ⟨c, rfl, List.mem_of_getElem? h1⟩
theorem marks2_in {k : Nat} (hk : 5 ≤ k) {m : List UInt8} (hm : m ∈ marks2) : m ∈ marksA.take k := by
  unfold marksA
  rw [List.take_append]
  rw [List.take_of_length_le (show marks2.length ≤ k from hk)]
  exact List.mem_append_left _ hm
theorem marks2_len : ∀ m ∈ marks2, ∃ a b, m = [a, b] := by
  intro m hm
  simp only [marks2, List.mem_cons, List.not_mem_nil, or_false] at hm
  rcases hm with rfl | rfl | rfl | rfl | rfl <;> exact ⟨_, _, rfl⟩
theorem mark_hit {l m : List UInt8} {k : Nat} (h : ∀ x ∈ marksA.take k, ¬ Pfx x l) (hk : marksA[k]? = some m) (hp : Pfx m l) : mark l = m ∧ m ≠ [] := by
  by_cases h5 : k < 5
  · have hm := marksA_lo k h5 m hk
    obtain ⟨a, b, rfl⟩ := marks2_len m hm
    obtain ⟨h1, h2⟩ := hp
    match l, h1, h2 with
    | c :: d :: r, _, h2 =>
      simp at h2
      obtain ⟨rfl, rfl⟩ := h2
      exact ⟨by rw [mark, if_pos hm], by simp⟩
    | [c], h1, _ => simp at h1
    | [], h1, _ => simp at h1
  · obtain ⟨c, rfl, hc⟩ := marksA_hi (by omega) hk
    obtain ⟨h1, h2⟩ := hp
    match l, h1, h2 with
    | x :: d :: r, _, h2 =>
      simp at h2
      subst h2
      have : [x, d] ∉ marks2 := fun hm => h _ (marks2_in (by omega) hm) ⟨by simp, by simp⟩
      exact ⟨by rw [mark, if_neg this, if_pos hc], by simp⟩
    | [x], _, h2 =>
      simp at h2
      subst h2
      exact ⟨by rw [mark, if_pos hc], by simp⟩
    | [], h1, _ => simp at h1
theorem mark_none {l : List UInt8} (h : ∀ x ∈ marksA, ¬ Pfx x l) : mark l = [] := by
  match l with
  | [] => rfl
  | [c] =>
    rw [mark, if_neg]
    intro hc
    exact h [c] (List.mem_append_right _ (List.mem_map_of_mem hc)) ⟨by simp, by simp⟩
  | c :: d :: r =>
    rw [mark, if_neg, if_neg]
    · intro hc
      exact h [c] (List.mem_append_right _ (List.mem_map_of_mem hc)) ⟨by simp, by simp⟩
    · intro hc
      exact h [c, d] (List.mem_append_left _ hc) ⟨by simp, by simp⟩
end Culp.Tx
namespace Go.Proofs.YtenbecjnlgmkeaaDoor
open Go.RowKit Go.Maps Culp

/-- The reference's token as it lies in memory. -/
def Tok7 (g : Nat) (k n : Int) (s : ByteArray) (l c f t : Int) (w : World) : Prop := w.heap[g]? = some (.cells #[.int .i8 k, .int .i64 n, .string s, .int .i64 l, .int .i64 c, .int .i64 f, .int .i64 t] 44 (0, 0))
section
variable {g : Nat} {k n l c f t : Int} {s : ByteArray} {w w' : World}
theorem Tok7.lt (h : Tok7 g k n s l c f t w) : g < w.heap.size := by
  rcases Nat.lt_or_ge g w.heap.size with hlt | hge
  · exact hlt
  · unfold Tok7 at h; rw [Array.getElem?_eq_none hge] at h; cases h
theorem Tok7.cell (h : Tok7 g k n s l c f t w) (i : Nat) : w.cell? ⟨g, i, none⟩ = [Value.int .i8 k, .int .i64 n, .string s, .int .i64 l, .int .i64 c, .int .i64 f, .int .i64 t][i]? := by unfold Tok7 at h; simp [World.cell?, h]
theorem Tok7.free (h : Tok7 g k n s l c f t w) (i : Nat) : w.frozen? ⟨g, i, none⟩ = false := by unfold Tok7 at h; simp [World.frozen?, h]
theorem Tok7.later (h : Tok7 g k n s l c f t w) (hb : Below w.heap.size w w') : Tok7 g k n s l c f t w' := (hb.block g h.lt).trans h
theorem Tok7.other {g2 i : Nat} {u : Value} (h : Tok7 g k n s l c f t w) (hne : g ≠ g2) : Tok7 g k n s l c f t (w.setCell ⟨g2, i, none⟩ u) := by
  unfold Tok7 at *
  rw [Below.heap_setCell _ _ _ _ hne]; exact h
theorem Tok7.put0 (h : Tok7 g k n s l c f t w) (x : Int) : Tok7 g x n s l c f t (w.setCell ⟨g, 0, none⟩ (.int .i8 x)) := by
  unfold Tok7 at *; simp [World.setCell, Array.getElem?_modify, h]
theorem Tok7.put1 (h : Tok7 g k n s l c f t w) (x : Int) : Tok7 g k x s l c f t (w.setCell ⟨g, 1, none⟩ (.int .i64 x)) := by
  unfold Tok7 at *; simp [World.setCell, Array.getElem?_modify, h]
theorem Tok7.put2 (h : Tok7 g k n s l c f t w) (x : ByteArray) : Tok7 g k n x l c f t (w.setCell ⟨g, 2, none⟩ (.string x)) := by
  unfold Tok7 at *; simp [World.setCell, Array.getElem?_modify, h]
theorem Tok7.put5 (h : Tok7 g k n s l c f t w) (x : Int) : Tok7 g k n s l c f x (w.setCell ⟨g, 6, none⟩ (.int .i64 x)) := by
  unfold Tok7 at *; simp [World.setCell, Array.getElem?_modify, h]
theorem tok7_alloc (w : World) (k n : Int) (s : ByteArray) (l c f t : Int) : Tok7 w.heap.size k n s l c f t (w.alloc (.cells #[.int .i8 k, .int .i64 n, .string s, .int .i64 l, .int .i64 c, .int .i64 f, .int .i64 t] 44)) := (MapKept.heap_alloc w _).1
end
def set7 (g : Nat) (k n : Int) (s : ByteArray) (l c f t : Int) (W : World) : World := ((((((W.setCell ⟨g, 0, none⟩ (.int .i8 k)).setCell ⟨g, 1, none⟩ (.int .i64 n)).setCell ⟨g, 2, none⟩ (.string s)).setCell ⟨g, 3, none⟩ (.int .i64 l)).setCell ⟨g, 4, none⟩ (.int .i64 c)).setCell ⟨g, 5, none⟩ (.int .i64 f)).setCell ⟨g, 6, none⟩ (.int .i64 t)
theorem set7_tok {g : Nat} {k n l c f t k' n' l' c' f' t' : Int} {s s' : ByteArray} {W : World} (h : Tok7 g k n s l c f t W) : Tok7 g k' n' s' l' c' f' t' (set7 g k' n' s' l' c' f' t' W) := by
  unfold Tok7 set7 at *
  simp [World.setCell, Array.getElem?_modify, h]
theorem set7_below {w W : World} {g : Nat} {k n l c f t : Int} {s : ByteArray} (h : Below w.heap.size w W) (hg : w.heap.size ≤ g) : Below w.heap.size w (set7 g k n s l c f t W) := by
  unfold set7
  exact ((((((h.setCell hg _).setCell hg _).setCell hg _).setCell hg _).setCell hg _).setCell hg _).setCell hg _
def noT7 : Value := .agg #[.int .i8 0, .int .i64 0, .string { data := #[] }, .int .i64 0, .int .i64 0, .int .i64 0, .int .i64 0]
/-- What One answers. -/
def OneRes (l : List UInt8) (at_ : Nat) (w : World) (e : Ending) (w' : World) : Prop := Below w.heap.size w w' ∧
  match Tx.one (l.drop at_) with
  | .ok (t, n) => e = .returned (.tuple #[.agg #[.int .i8 t.kind, .int .i64 t.n, .string (bs t.s), .int .i64 0, .int .i64 0, .int .i64 at_, .int .i64 ((at_ + n : Nat) : Int)], .int .i64 0])
  | .error c => e = .returned (.tuple #[noT7, .int .i64 c])
/-- A token in the making. -/
structure OS (s : ByteArray) (b o : Nat) (g0 G : Nat) (k n : Int) (t : ByteArray) (f te : Int) (w W : World) : Prop where
  tok : Tok7 G k n t 0 0 f te W
  res : Tok7 g0 0 0 { data := #[] } 0 0 0 0 W
  byt : Lib.Bytes W b o s
  bel : Below w.heap.size w W
section
variable {s : ByteArray} {b o at_ : Nat} {g0 G : Nat} {k n : Int} {t : ByteArray} {f te : Int} {w W W' : World} {tmps : Array Value}
theorem OS.later (h : OS s b o g0 G k n t f te w W) (hb : Below W.heap.size W W') : OS s b o g0 G k n t f te w W' := ⟨h.tok.later hb, h.res.later hb, bytes_later h.byt hb, below_later hb h.bel⟩
theorem OS.put (h : OS s b o g0 G k n t f te w W) (hG : w.heap.size ≤ G) (h0 : g0 ≠ G) (hb : b < w.heap.size) {i : Nat} {u : Value} {k' n' : Int} {t' : ByteArray} {f' te' : Int} (hT : Tok7 G k' n' t' 0 0 f' te' (W.setCell ⟨G, i, none⟩ u)) :
    OS s b o g0 G k' n' t' f' te' w (W.setCell ⟨G, i, none⟩ u) :=
  ⟨hT, h.res.other h0, fun j hj => by
    rw [World.cell?_of_block (w := W) (Below.heap_setCell _ _ _ _ (show b ≠ G by omega))]
    exact h.byt j hj, h.bel.setCell hG _⟩
theorem one_ok (h : OS s b o g0 G k n t f te w W) (h0 : w.heap.size ≤ g0) {tk : Tx.Tk} {m : Nat} (ho : Tx.one (s.data.toList.drop at_) = .ok (tk, m)) (hk : k = tk.kind) (hn : n = tk.n) (ht : t = bs tk.s) (hf : f = at_) (hte : te = ((at_ + m : Nat) : Int))
    (h2 : tmps.getD 4 undef = .pointer (some ⟨g0, 0, none⟩)) (h3 : tmps.getD 5 undef = .int .i64 0) :
    bodyPost Tryd.prog Tryd.f19 (OneRes s.data.toList at_ w) .ret ⟨tmps, []⟩ (set7 g0 k n t 0 0 f te W) := by
  rw [Array.getD_eq_getD_getElem?] at h2 h3
  have hT := set7_tok (k' := k) (n' := n) (s' := t) (l' := 0) (c' := 0) (f' := f) (t' := te) h.res
  have hK := set7_below (k := k) (n := n) (s := t) (l := 0) (c := 0) (f := f) (t := te) h.bel h0
  generalize set7 g0 k n t 0 0 f te W = W2 at *
  have c0 := hT.cell 0
  have c1 := hT.cell 1
  have c2 := hT.cell 2
  have c3 := hT.cell 3
  have c4 := hT.cell 4
  have c5 := hT.cell 5
  have c6 := hT.cell 6
  simp at c0 c1 c2 c3 c4 c5 c6
  refine bodyPost_ret (v := .tuple #[.agg #[.int .i8 k, .int .i64 n, .string t, .int .i64 0, .int .i64 0, .int .i64 f, .int .i64 te], .int .i64 0]) (by simp [results, Tryd.results19, go_sem, h2, h3, c0, c1, c2, c3, c4, c5, c6]) rfl ?_
  refine ⟨hK, ?_⟩
  rw [ho]
  simp only
  rw [hk, hn, ht, hf, hte]
theorem one_bad (h : OS s b o g0 G k n t f te w W) (h0 : w.heap.size ≤ g0) {x : Nat} {y : Int} (ho : Tx.one (s.data.toList.drop at_) = .error x) (hy : y = x)
    (h2 : tmps.getD 4 undef = .pointer (some ⟨g0, 0, none⟩)) (h3 : tmps.getD 5 undef = .int .i64 y) :
    bodyPost Tryd.prog Tryd.f19 (OneRes s.data.toList at_ w) .ret ⟨tmps, []⟩ (set7 g0 0 0 { data := #[] } 0 0 0 0 W) := by
  rw [Array.getD_eq_getD_getElem?] at h2 h3
  have hT := set7_tok (k' := 0) (n' := 0) (s' := { data := #[] }) (l' := 0) (c' := 0) (f' := 0) (t' := 0) h.res
  have hK := set7_below (k := 0) (n := 0) (s := { data := #[] }) (l := 0) (c := 0) (f := 0) (t := 0) h.bel h0
  generalize set7 g0 0 0 { data := #[] } 0 0 0 0 W = W2 at *
  have c0 := hT.cell 0
  have c1 := hT.cell 1
  have c2 := hT.cell 2
  have c3 := hT.cell 3
  have c4 := hT.cell 4
  have c5 := hT.cell 5
  have c6 := hT.cell 6
  simp at c0 c1 c2 c3 c4 c5 c6
  refine bodyPost_ret (v := .tuple #[noT7, .int .i64 y]) (by simp [results, noT7, Tryd.results19, go_sem, h2, h3, c0, c1, c2, c3, c4, c5, c6]) rfl ?_
  refine ⟨hK, ?_⟩
  rw [ho, hy]
end
end Go.Proofs.YtenbecjnlgmkeaaDoor
