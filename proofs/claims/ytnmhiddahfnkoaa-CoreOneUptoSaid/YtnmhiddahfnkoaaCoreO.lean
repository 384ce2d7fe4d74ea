/- Walks of package core: leaves, and the table of rules. -/
import Derived.Test.YtnmhiddahfnkoaaCoreP
import Derived.Test.YtnmhiddahfnkoaaMap
namespace Go.Proofs.Ytnmhiddahfnkoaa
set_option linter.unusedSimpArgs false
set_option linter.unusedVariables false
open Go.RowKit Culp

/-- The words of the leaves. -/
def leafTable : List (Int × Value) := [(1, .string Ty.int.str), (2, .string Ty.text.str), (3, .string Ty.bool.str)]

set_option maxHeartbeats 800000 in
theorem leaf_any (cp : Value) (k kd n : Int) (s t u : ByteArray) (l c : Int) (kv : Value) (p : Nat) (ty : Ty) (hty : leafTable.lookup k = some (.string ty.str)) (w : World) :
    Calls Try.prog 32 #[cp, (Nd.mk k kd n s t u l c).val, kv, .int .i64 p] w (RuleRes (.ok ty) p w) := by
  unfold Nd.val Nd.cells
  have hB0 : ∀ o, Below w.heap.size w (w.alloc o) := fun o => (Below.refl _ _).alloc (Nat.le_refl _) o
  have HT := Lib.hid hty
  clear hty
  have hk0 : ∀ (c : Array Value) (e : TypeId), MapAt ((w.alloc (.cells c e)).alloc (.map #[] 0)) .i8 (w.heap.size + 1) [] ∧ Below w.heap.size w ((w.alloc (.cells c e)).alloc (.map #[] 0)) := fun c e => by
    have := MapAt.made (w.alloc (.cells c e)) .i8
    simp only [World.size_alloc] at this
    exact ⟨this, (hB0 _).alloc (by simp) _⟩
  have hq0 : ∀ (x2 x3 x4 x5 x6 x7 x8 : Value) (e : TypeId), ((w.alloc (.cells #[.int .i8 k, x2, x3, x4, x5, x6, x7, x8] e)).alloc (.map #[] 0)).cell? ⟨w.heap.size, 0, none⟩ = some (.int .i8 k) := fun _ _ _ _ _ _ _ _ => by go_simp
  have hmm := @run_makeMap Try.prog
  go_enter Try.func32, Try.ntmps32
  go_wp2_with (first
    | (refine wpList_insert_new _ rfl _ _ _ 81 rfl 40 9 .i8 Try.underlying81 Try.underlying40 w.heap.size w (w.heap.size + 1) _ rfl _ _ rfl rfl (by first | exact hk0 _ _ | assumption) (by omega) rfl ?_
       intro w1 hk1 hb1 _
       have hq1 : w1.cell? ⟨w.heap.size, 0, none⟩ = some (.int .i8 k) := (hb1.cell (p := ⟨w.heap.size, 0, none⟩) (by simp)).trans (by first | exact hq0 _ _ _ _ _ _ _ _ | assumption)
       clear hb1)
    | (at_lookup; (refine wpList_lookup_there _ rfl _ _ 81 rfl 40 9 .i8 Try.underlying81 Try.underlying40 (w.heap.size + 1) leafTable rfl _ _ rfl hk1.1 HT.out ?_)))
  go_ret
  exact RuleRes.ok_ rfl rfl hk1.2

/-- A function that asks each kid to be of one type, and answers another. -/
def OpsFn (kid to : Ty) (v : Value) (w : World) : Prop := ∃ a b, v = .func (.func 51) #[] #[.pointer (some ⟨a, 0, none⟩), .pointer (some ⟨b, 0, none⟩)] ∧ w.cell? ⟨a, 0, none⟩ = some (.string kid.str) ∧ w.cell? ⟨b, 0, none⟩ = some (.string to.str)
theorem OpsFn.later {kid to : Ty} {v : Value} {w w' : World} (h : OpsFn kid to v w) (hb : Below w.heap.size w w') : OpsFn kid to v w' := by
  obtain ⟨a, b, rfl, h1, h2⟩ := h
  exact ⟨a, b, rfl, cell_later hb h1, cell_later hb h2⟩
theorem OpsFn.of {kid to : Ty} {a b : Nat} {w : World} (h1 : w.cell? ⟨a, 0, none⟩ = some (.string kid.str)) (h2 : w.cell? ⟨b, 0, none⟩ = some (.string to.str)) : OpsFn kid to (.func (.func 51) #[] #[.pointer (some ⟨a, 0, none⟩), .pointer (some ⟨b, 0, none⟩)]) w := ⟨a, b, rfl, h1, h2⟩

/-- Its two cells. -/
def OpsAt (a b : Nat) (kid to : Ty) (w : World) : Prop := w.cell? ⟨a, 0, none⟩ = some (.string kid.str) ∧ w.cell? ⟨b, 0, none⟩ = some (.string to.str)
theorem OpsAt.other {a b r : Nat} {kid to : Ty} {w w' : World} (h : OpsAt a b kid to w) (ho : ∀ i, i ≠ r → w'.heap[i]? = w.heap[i]?) (ha : a ≠ r) (hb : b ≠ r) : OpsAt a b kid to w' :=
  ⟨by rw [World.cell?_of_block (w := w) (ho a ha)]; exact h.1, by rw [World.cell?_of_block (w := w) (ho b hb)]; exact h.2⟩

/-- The table of rules. -/
def ruleTable (v1 v2 v3 v4 : Value) : List (Int × Value) :=
  let f (n : Nat) : Value := .func (.func n) #[] #[]
  [(1, f 32), (2, f 32), (3, f 32), (30, f 33), (7, f 34), (9, f 35),
   (10, v1), (11, v1), (12, v1), (16, v1), (14, v2), (15, v2), (13, v3), (17, v4), (18, f 36), (19, f 37), (20, f 37), (21, f 38),
   (22, f 39), (23, f 39), (24, f 39), (25, f 40), (26, f 41), (27, f 42), (28, f 43)]
/-- A block holds the rules. -/
def Rules (r : Nat) (w : World) : Prop := ∃ v1 v2 v3 v4, MapAt w .i8 r (ruleTable v1 v2 v3 v4) ∧ OpsFn .int .int v1 w ∧ OpsFn .int .bool v2 w ∧ OpsFn .text .text v3 w ∧ OpsFn .text .int v4 w
def RulesRes (w : World) (e : Ending) (w' : World) : Prop := ∃ r, e = .returned (.map (some r)) ∧ w.heap.size ≤ r ∧ Rules r w' ∧ Below w.heap.size w w'

set_option maxHeartbeats 3200000 in
theorem rules_any (w : World) : Calls Try.prog 25 #[] w (RulesRes w) := by
  have hmm := @run_makeMap Try.prog
  go_enter Try.func25, Try.ntmps25
  go_wp2_with fail
  refine (all_any .int .int _).mono ?_
  rintro e w1 ⟨rfl, ka, kb, hb1⟩
  have o1 := OpsFn.of ka kb
  clear ka kb
  go_wp2_with fail
  refine (all_any .int .bool _).mono ?_
  rintro e w2 ⟨rfl, ka, kb, hb2⟩
  have o2 := OpsFn.of ka kb
  replace o1 := o1.later hb2
  have hB2 := below_later hb2 hb1
  clear ka kb hb1 hb2
  go_wp2_with fail
  refine (all_any .text .text _).mono ?_
  rintro e w3 ⟨rfl, ka, kb, hb3⟩
  have o3 := OpsFn.of ka kb
  replace o1 := o1.later hb3
  replace o2 := o2.later hb3
  have hB3 := below_later hb3 hB2
  clear ka kb hb3 hB2
  have o1' := Lib.hid o1; have o2' := Lib.hid o2; have o3' := Lib.hid o3; have hB3' := Lib.hid hB3
  clear o1 o2 o3 hB3
  have hk1 : MapAt (w3.alloc (.map #[] 0)) .i8 w3.heap.size [] ∧ Below w3.heap.size w3 (w3.alloc (.map #[] 0)) := ⟨MapAt.made w3 .i8, (Below.refl _ _).alloc (by simp) _⟩
  go_wp2_with (refine wpList_insert_new _ rfl _ _ _ 54 rfl 40 67 .i8 Try.underlying54 Try.underlying40 w3.heap.size w3 w3.heap.size _ rfl _ _ rfl rfl hk1 (by omega) rfl ?_; intro w4 hk2 hb4 _; clear hb4; replace hk1 := hk2; clear hk2; simp [go_sem] at hk1)
  refine (all_any .text .int _).mono ?_
  rintro e w5 ⟨rfl, ka, kb, hb5⟩
  have o4 : OpsAt _ _ .text .int w5 := ⟨ka, kb⟩
  have hr4 : w4.heap.size ≠ w3.heap.size := by have := hk1.1.lt; omega
  have hr5 : w4.heap.size + 1 ≠ w3.heap.size := by have := hk1.1.lt; omega
  have hk5 := hk1.1.later hb5 hk1.1.lt
  have hB5 := below_later hb5 hk1.2
  have hk7 : MapAt w5 .i8 w3.heap.size _ ∧ Below w3.heap.size w3 w5 := ⟨hk5, hB5⟩
  clear hk1 hk5 hB5 hb5 ka kb
  have hk1 := hk7
  clear hk7
  go_wp2_with (refine wpList_insert_new _ rfl _ _ _ 54 rfl 40 67 .i8 Try.underlying54 Try.underlying40 w3.heap.size w3 w3.heap.size _ rfl _ _ rfl rfl hk1 (by omega) rfl ?_; intro w6 hk2 hb6 ho6; clear hb6; replace o4 := o4.other ho6 hr4 hr5; clear ho6; replace hk1 := hk2; clear hk2; simp [go_sem] at hk1)
  go_ret
  have hB6 := hk1.2
  exact ⟨_, rfl, hB3'.out.size, ⟨_, _, _, _, hk1.1, o1'.out.later hB6, o2'.out.later hB6, o3'.out.later hB6, OpsFn.of o4.1 o4.2⟩, below_later hB6 hB3'.out⟩
end Go.Proofs.Ytnmhiddahfnkoaa
