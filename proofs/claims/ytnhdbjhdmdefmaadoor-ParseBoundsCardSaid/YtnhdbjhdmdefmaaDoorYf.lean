
/- A statement that leaves its order open, in which two acts may come up in either order. No program in sight. -/
import Derived.Test.YtnhdbjhdmdefmaaDoorR4W
namespace Culp
set_option linter.unusedSimpArgs false
set_option linter.unusedVariables false
open Go
/-- Looks alone; what stands is told. -/
def looksOk (ops : Array Oper) : Array Bool → List (Nat × Bool) → Option (Array Bool)
  | listed, [] => some listed
  | listed, (i, true) :: l => if Region.free .any ops listed i && (Region.ready .any ops listed).contains i then looksOk ops (listed.setIfInBounds i true) l else none
  | _, (_, false) :: _ => none
/-- Looks; then i or j comes up, and all the others behind it. -/
def forkOk (ops : Array Oper) (l : List (Nat × Bool)) (i : Nat) (l1 : List (Nat × Bool)) (j : Nat) (l2 : List (Nat × Bool)) : Bool :=
  match looksOk ops (Array.replicate ops.size false) l with
  | none => false
  | some s => (Region.ready .any ops s == [i, j]) && planOk ops (s.setIfInBounds i true) l1 && planOk ops (s.setIfInBounds j true) l2 && l1.length == l2.length && l.length + (l1.length + 1) == ops.size
section
variable {P : Program} {ops : Array Oper} {Q : Exit → Act → World → Prop} {S : World → Prop}
/-- What is asked where the two come up. -/
def forkQ (P : Program) (ops : Array Oper) (Q : Exit → Act → World → Prop) (S : World → Prop) (i : Nat) (l1 : List (Nat × Bool)) (j : Nat) (l2 : List (Nat × Bool)) : Exit → Act → World → Prop
  | .normal, a, w => wpPlan P ops Q S ((i, false) :: l1) a w ∧ wpPlan P ops Q S ((j, false) :: l2) a w
  | e, a, w => Q e a w
theorem wpPlan_act_any (hs : Region.noSelect ops = true) (hQ : ∀ c a d v w, Q (.panic c) (a.put (some d) v) w → Q (.panic c) a w) {i : Nat} {l : List (Nat × Bool)} {listed : Array Bool} {a : Act} {w : World} (hp : planOk ops (listed.setIfInBounds i true) l = true) (h : wpPlan P ops Q S ((i, false) :: l) a w) :
    wpOp P ops Q i (fun a' w' => S w' ∧ wpAnyH P .any ops Q S l.length (listed.setIfInBounds i true) a' w') a w :=
  wpOp_mono (fun _ _ ⟨S', h1, h2, h3⟩ => ⟨h1 _ h2, wpAnyH_weak h1 _ _ _ _ (wpPlan_any hs hQ l S' _ _ _ hp h2 h3)⟩) h
theorem wpFork_any (hs : Region.noSelect ops = true) (hQ : ∀ c a d v w, Q (.panic c) (a.put (some d) v) w → Q (.panic c) a w) {i j : Nat} {l1 l2 : List (Nat × Bool)} (hn : l1.length = l2.length) :
    ∀ (l : List (Nat × Bool)) (listed s : Array Bool) (a : Act) (w : World), looksOk ops listed l = some s → Region.ready .any ops s = [i, j] → planOk ops (s.setIfInBounds i true) l1 = true → planOk ops (s.setIfInBounds j true) l2 = true → S w → wpPlan P ops (forkQ P ops Q S i l1 j l2) S l a w → wpAnyH P .any ops Q S (l.length + (l1.length + 1)) listed a w := by
  intro l
  induction l with
  | nil =>
    intro listed s a w h1 hr p1 p2 hS h
    injection h1 with h1
    subst h1
    obtain ⟨h1, h2⟩ := h
    rw [List.length_nil, Nat.zero_add]
    refine wpAnyH_all hr (by simp) (fun k hk => ?_)
    simp only [List.mem_cons, List.not_mem_nil, or_false] at hk
    rcases hk with rfl | rfl
    · exact wpPlan_act_any hs hQ p1 h1
    · rw [hn]; exact wpPlan_act_any hs hQ p2 h2
  | cons x l ih =>
    intro listed s a w h1 hr p1 p2 hS h
    obtain ⟨k, b⟩ := x
    cases b with
    | false => cases h1
    | true =>
      rw [looksOk] at h1
      split at h1
      · rename_i hc
        simp only [Bool.and_eq_true] at hc
        obtain ⟨o, v, ho, hy, h⟩ := h
        rw [List.length_cons, Nat.add_right_comm]
        exact wpAnyH_take ho hs hc.1 hc.2 (fun c a w hq => by
          cases hd : o.dst with
          | none => rw [hd] at hq; exact hq
          | some d => rw [hd] at hq; exact hQ c a d v w hq) hy hS (ih _ _ _ _ h1 hr p1 p2 hS h)
      · cases h1
/-- **The rule.** -/
theorem wp_region_fork {id : Nat} {a : Act} {w : World} (l : List (Nat × Bool)) (i : Nat) (l1 : List (Nat × Bool)) (j : Nat) (l2 : List (Nat × Bool)) (hm : P.follows .mixedOrders = true) (hs : Region.noSelect ops = true)
    (hp : forkOk ops l i l1 j l2 = true) (hQ : ∀ c a d v w, Q (.panic c) (a.put (some d) v) w → Q (.panic c) a w)
    (hS : S w.drew) (h : S w.drew → wpPlan P ops (forkQ P ops Q S i l1 j l2) S l a w.drew) : (Code.region id ops true).wp P Q a w := by
  unfold forkOk at hp
  split at hp
  · cases hp
  · rename_i s hl
    simp only [Bool.and_eq_true, beq_iff_eq] at hp
    obtain ⟨⟨⟨⟨h1, h2⟩, h3⟩, h4⟩, h5⟩ := hp
    refine wp_region_held_drew hm hS (fun _ => ?_)
    have := wpFork_any hs hQ h4 l _ s a _ hl h1 h2 h3 hS (h hS)
    rw [h5] at this
    exact this
end
end Culp
