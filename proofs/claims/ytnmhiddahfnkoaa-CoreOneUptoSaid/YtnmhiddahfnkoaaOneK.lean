/- What CoreOne holds: terms, each in its memory; nodes over them. -/
import Derived.Test.YtnmhiddahfnkoaaOneD
import Derived.Test.YtnmhiddahfnkoaaOneQ
namespace Go.Proofs.Ytnmhiddahfnkoaa
set_option linter.unusedSimpArgs false
set_option linter.unusedVariables false
open Go.RowKit Culp

/-- All that was there stays; these terms are held. -/
structure Kept (w0 : World) (L : List (Value × List Nd)) (w : World) : Prop where
  below : Below w0.heap.size w0 w
  at_ : ∀ x ∈ L, Nodes w x.1 x.2
theorem Kept.later {w0 w w' : World} {L : List (Value × List Nd)} (h : Kept w0 L w) (hb : Below w.heap.size w w') : Kept w0 L w' := ⟨below_later hb h.below, fun x hx => (h.at_ x hx).later hb⟩
theorem Kept.add {w0 w : World} {L : List (Value × List Nd)} {v : Value} {T : List Nd} (h : Kept w0 L w) (hn : Nodes w v T) : Kept w0 ((v, T) :: L) w := ⟨h.below, fun x hx => by
  rcases List.mem_cons.1 hx with rfl | hx
  · exact hn
  · exact h.at_ x hx⟩
theorem Kept.drop {w0 w : World} {L : List (Value × List Nd)} {x : Value × List Nd} (h : Kept w0 (x :: L) w) : Kept w0 L w := ⟨h.below, fun y hy => h.at_ y (List.mem_cons_of_mem _ hy)⟩
theorem Kept.lit {w0 w : World} {L : List (Value × List Nd)} (h : Kept w0 L w) (k kd n : Int) (s t u : ByteArray) (l c : Int) (g : Nat) (hg : w.heap.size = g) :
    Kept w0 ((.slice (some ⟨g, 0, none⟩) 1 1, [⟨k, kd, n, s, t, u, l, c⟩]) :: L) (w.alloc (.cells #[.int .i8 k, .int .i64 kd, .int .i64 n, .string s, .string t, .string u, .int .i64 l, .int .i64 c] 44)) := by
  subst hg
  exact (h.later ((Below.refl _ _).alloc (Nat.le_refl _) _)).add (nodes_lit w k kd n s t u l c)

def KRes (w0 : World) (L : List (Value × List Nd)) (T : List Nd) (e : Ending) (w' : World) : Prop := ∃ b off n c, e = .returned (.slice (some ⟨b, off, none⟩) n c) ∧ Kept w0 ((.slice (some ⟨b, off, none⟩) n c, T) :: L) w'
theorem kres {w0 w w1 : World} {L : List (Value × List Nd)} {T : List Nd} (hS : Kept w0 L w) (hb : Below w.heap.size w w1) (h0 : 0 < T.length) {e : Ending} {w' : World} (h : NodeRes T w1 e w') : KRes w0 L T e w' := by
  obtain ⟨v, rfl, hn, hb'⟩ := h
  have hk := (hS.later (hb.trans (hb'.mono hb.size))).add hn
  obtain ⟨b, off, c, rfl, _⟩ := nodes_form hn h0
  exact ⟨b, off, T.length, c, rfl, hk⟩
theorem node1 {w0 w : World} {L : List (Value × List Nd)} (hS : Kept w0 L w) (x : Nd) (v : Value) (A : List Nd) (hv : (v, A) ∈ L) (h0 : 0 < A.length) (hl : A.length ≤ 30000) (g : Nat) (hg : w.heap.size = g) :
    Calls Try.prog 17 #[x.val, .slice (some ⟨g, 0, none⟩) 1 1] (w.alloc (.cells #[v] 22)) (KRes w0 L (over x [A])) :=
  (node_any x [A] _ _ (kids1 w v A (hS.at_ _ hv) h0 g hg) (by simp; omega) (by simp)).mono fun e w' h => kres hS ((Below.refl _ _).alloc (Nat.le_refl _) _) (by simp) h
theorem node2 {w0 w : World} {L : List (Value × List Nd)} (hS : Kept w0 L w) (x : Nd) (v u : Value) (A B : List Nd) (hv : (v, A) ∈ L) (hu : (u, B) ∈ L) (h0 : 0 < A.length) (h1 : 0 < B.length) (hl : A.length ≤ 30000) (hl2 : B.length ≤ 30000) (g : Nat) (hg : w.heap.size = g) :
    Calls Try.prog 17 #[x.val, .slice (some ⟨g, 0, none⟩) 2 2] (w.alloc (.cells #[v, u] 22)) (KRes w0 L (over x [A, B])) :=
  (node_any x [A, B] _ _ (kids2 w v u A B (hS.at_ _ hv) h0 (hS.at_ _ hu) h1 g hg) (by simp; omega) (by simp)).mono fun e w' h => kres hS ((Below.refl _ _).alloc (Nat.le_refl _) _) (by simp) h
theorem kids3 (w : World) (v u y : Value) (L M N : List Nd) (h : Nodes w v L) (h0 : 0 < L.length) (hu : Nodes w u M) (h1 : 0 < M.length) (hy : Nodes w y N) (h2 : 0 < N.length) (g : Nat) (hg : w.heap.size = g) : KidsAt (w.alloc (.cells #[v, u, y] 22)) (.slice (some ⟨g, 0, none⟩) 3 3) [L, M, N] := by
  subst hg
  have hb : Below w.heap.size w (w.alloc (.cells #[v, u, y] 22)) := (Below.refl _ _).alloc (Nat.le_refl _) _
  obtain ⟨b, off, c, rfl, hN⟩ := nodes_form h h0
  obtain ⟨b2, off2, c2, rfl, hN2⟩ := nodes_form hu h1
  obtain ⟨b3, off3, c3, rfl, hN3⟩ := nodes_form hy h2
  refine ⟨_, 3, rfl, fun i l hl => ?_⟩
  match i, hl with
  | 0, hl => cases hl; exact ⟨h0, b, off, c, by rw [World.cell?_alloc_at _ _ _ _ rfl]; rfl, hN.later hb⟩
  | 1, hl => cases hl; exact ⟨h1, b2, off2, c2, by rw [World.cell?_alloc_at _ _ _ _ rfl]; rfl, hN2.later hb⟩
  | 2, hl => cases hl; exact ⟨h2, b3, off3, c3, by rw [World.cell?_alloc_at _ _ _ _ rfl]; rfl, hN3.later hb⟩
  | i + 3, hl => simp at hl
theorem node3 {w0 w : World} {L : List (Value × List Nd)} (hS : Kept w0 L w) (x : Nd) (v u y : Value) (A B C : List Nd) (hv : (v, A) ∈ L) (hu : (u, B) ∈ L) (hy : (y, C) ∈ L) (h0 : 0 < A.length) (h1 : 0 < B.length) (h2 : 0 < C.length) (hl : A.length ≤ 30000) (hl2 : B.length ≤ 30000) (hl3 : C.length ≤ 30000) (g : Nat) (hg : w.heap.size = g) :
    Calls Try.prog 17 #[x.val, .slice (some ⟨g, 0, none⟩) 3 3] (w.alloc (.cells #[v, u, y] 22)) (KRes w0 L (over x [A, B, C])) :=
  (node_any x [A, B, C] _ _ (kids3 w v u y A B C (hS.at_ _ hv) h0 (hS.at_ _ hu) h1 (hS.at_ _ hy) h2 g hg) (by simp; omega) (by simp)).mono fun e w' h => kres hS ((Below.refl _ _).alloc (Nat.le_refl _) _) (by simp) h

/-- It is so. -/
def KYes (w0 : World) (L : List (Value × List Nd)) (e : Ending) (w' : World) : Prop := e = .returned (.bool true) ∧ Kept w0 L w'
theorem is_in {w0 w : World} {L : List (Value × List Nd)} (hS : Kept w0 L w) (v : Value) (T : List Nd) (u : ByteArray) (hv : (v, T) ∈ L) {t : Ty} (hc : Cl T t) (hT : T.length ≤ 1024) (hu : u = t.str) :
    Calls Try.prog 18 #[v, .string u] w (KYes w0 L) :=
  (is_yes T v u w (hS.at_ _ hv) (by omega) (check_of_cl hc hT) hu).mono fun e w' h => ⟨h.1, hS.later h.2⟩
theorem refused_in {w0 w : World} {L : List (Value × List Nd)} (hS : Kept w0 L w) (v : Value) (T : List Nd) (hv : (v, T) ∈ L) (hc : checkM T = .error (23, 0)) (hT : T.length ≤ 1024) :
    Calls Try.prog 19 #[v, .int .i64 23] w (KYes w0 L) :=
  (refused_yes T v w (hS.at_ _ hv) (by omega) hc).mono fun e w' h => ⟨h.1, hS.later h.2⟩
end Go.Proofs.Ytnmhiddahfnkoaa
