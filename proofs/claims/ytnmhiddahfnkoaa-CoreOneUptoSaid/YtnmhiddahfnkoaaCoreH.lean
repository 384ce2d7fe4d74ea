/- Walks of package core: Check, with its deferred closure. -/
import Derived.Test.YtnmhiddahfnkoaaCoreK
import Derived.Defers
import Derived.Recover
import Derived.Laws.Pointers
namespace Go.Proofs.Ytnmhiddahfnkoaa
set_option linter.unusedSimpArgs false
set_option linter.unusedVariables false
open Go.RowKit Culp

theorem assert_nil (w : World) : (Instr.typeAssert .nilIface 20 51 true).run Try.prog w = .ok (.tuple #[.agg #[.int .i64 0, .int .i64 0], .bool false]) w := by kernel_rfl
theorem assert_flaw (e p : Int) (w : World) : (Instr.typeAssert (.iface 51 (.agg #[.int .i64 e, .int .i64 p])) 20 51 true).run Try.prog w = .ok (.tuple #[.agg #[.int .i64 e, .int .i64 p], .bool true]) w := by kernel_rfl

/-- A block of one cell. -/
def One (a : Nat) (t : TypeId) (v : Value) (w : World) : Prop := w.heap[a]? = some (.cells #[v] t (0, 0))
theorem One.cell {a : Nat} {t : TypeId} {v : Value} {w : World} (h : One a t v w) : w.cell? ⟨a, 0, none⟩ = some v := by unfold One at h; simp [World.cell?, h]
theorem One.free {a : Nat} {t : TypeId} {v : Value} {w : World} (h : One a t v w) : w.frozen? ⟨a, 0, none⟩ = false := by unfold One at h; simp [World.frozen?, h]
theorem One.put {a : Nat} {t : TypeId} {v : Value} {w : World} (h : One a t v w) (u : Value) : One a t u (w.setCell ⟨a, 0, none⟩ u) := by
  unfold One at h ⊢
  simp [World.setCell, Array.getElem?_modify, h]
theorem One.other {a b : Nat} {t : TypeId} {v : Value} {w : World} (h : One a t v w) (hb : b ≠ a) (u : Value) : One a t v (w.setCell ⟨b, 0, none⟩ u) := by
  unfold One at h ⊢
  rw [Below.heap_setCell _ _ _ _ (by simpa using hb.symm)]
  exact h
theorem One.later {a : Nat} {t : TypeId} {v : Value} {w w' : World} (h : One a t v w) (hb : Below w.heap.size w w') : One a t v w' := (hb.block a (Array.getElem?_eq_some_iff.1 h).1).trans h
theorem other_cell {a b j : Nat} {v : Value} {w : World} (h : w.cell? ⟨a, j, none⟩ = some v) (hb : b ≠ a) (u : Value) : (w.setCell ⟨b, 0, none⟩ u).cell? ⟨a, j, none⟩ = some v := by
  rw [World.cell?_of_block (w := w) (Below.heap_setCell _ _ _ _ (by simpa using hb.symm))]
  exact h
theorem mode_same {c₀ : Frame} {cs : List Frame} {u : FrameMode} (hu : c₀.mode = u) : c₀ :: cs = { c₀ with mode := u } :: cs := by cases c₀; simp_all

/-- A store in such a statement. -/
theorem wpPlan_run0 {P : Program} {Q : Exit → Act → World → Prop} {S : World → Prop} {L : List Oper} {i : Nat} {o : Oper} {l : List (Nat × Bool)} {a : Act} {w w' : World} (ho : L[i]? = some o) (hw : Region.wanted o (yielded L.toArray a.tmps) = true)
    (hr : (execOp a.eval o).run P w = .ok .skip w') (S' : World → Prop) (hS : ∀ v, S' v → S v) (hS' : S' w') (h : wpPlan P L.toArray Q S' l (a.put o.dst undef) w') : wpPlan P L.toArray Q S ((i, false) :: l) a w :=
  wpPlan_actS ho hw fun _ hK => by
    unfold Oper.wp
    rw [hr, Oper.upon_skip]
    exact hK _ _ ⟨S', hS, hS', h⟩

theorem catch_idle (a b d : Nat) (w : World) :
    CallsD Try.prog 24 #[.pointer (some ⟨a, 0, none⟩), .pointer (some ⟨b, 0, none⟩), .pointer (some ⟨d, 0, none⟩)] .returning w fun e u' w' => e = .returned (.tuple #[]) ∧ u' = .returning ∧ Below w.heap.size w w' := by
  have ha := @assert_nil
  refine callsD_of_wpS Try.func24 rfl fun c₀ cs hu => ?_
  simp only [Try.ntmps24, Array.replicate, List.replicate, List.size_toArray, List.length_cons, List.length_nil]
  apply wpS_seq
  apply wpS_region
  simp [wpOpsS, go_sem, recoverD, hu, Exit.thenS]
  refine wpS_of_wp ?_
  go_wp2
  exact ⟨rfl, _, mode_same hu, _, results_none rfl _ _ _, rfl, rfl, (Below.refl _ _).alloc (Nat.le_refl _) _⟩

theorem catch_flaw (a b d B : Nat) (e p : Int) (x y z : Value) (older : List PanicEntry) (w : World) (hx : w.heap[a]? = some (.cells #[x] 9 (0, 0))) (hy : w.heap[b]? = some (.cells #[y] 26 (0, 0))) (hz : w.heap[d]? = some (.cells #[z] 3 (0, 0)))
    (hab : a ≠ b) (had : a ≠ d) (hbd : b ≠ d) (ha : B ≤ a) (hb : B ≤ b) (hd : B ≤ d) :
    CallsD Try.prog 24 #[.pointer (some ⟨a, 0, none⟩), .pointer (some ⟨b, 0, none⟩), .pointer (some ⟨d, 0, none⟩)] (.panicking ({ v := .iface 51 (.agg #[.int .i64 e, .int .i64 p]), recovered := false } :: older)) w fun en u' w' =>
      en = .returned (.tuple #[]) ∧ u' = .panicking ({ v := .iface 51 (.agg #[.int .i64 e, .int .i64 p]), recovered := true } :: older) ∧
      (w'.cell? ⟨a, 0, none⟩ = some (.string ⟨#[]⟩) ∧ w'.cell? ⟨b, 0, none⟩ = some (.int .i64 e) ∧ w'.cell? ⟨d, 0, none⟩ = some (.int .i64 p)) ∧ Below B w w' := by
  have hta := @assert_flaw
  have hal : a < w.heap.size := (Array.getElem?_eq_some_iff.1 hx).1
  have hbl : b < w.heap.size := (Array.getElem?_eq_some_iff.1 hy).1
  have hdl : d < w.heap.size := (Array.getElem?_eq_some_iff.1 hz).1
  have hx' := Lib.hid hx
  have hy' := Lib.hid hy
  have hz' := Lib.hid hz
  clear hx hy hz
  refine callsD_of_wpS Try.func24 rfl fun c₀ cs hu => ?_
  simp only [Try.ntmps24, Array.replicate, List.replicate, List.size_toArray, List.length_cons, List.length_nil]
  apply wpS_seq
  apply wpS_region
  simp [wpOpsS, go_sem, recoverD, hu, Exit.thenS]
  refine wpS_of_wp ?_
  go_wp2
  have hB0 : Below w.heap.size w (w.alloc (.cells #[.int .i64 e, .int .i64 p] 51)) := (Below.refl _ _).alloc (Nat.le_refl _) _
  have f0 : (w.alloc (.cells #[.int .i64 e, .int .i64 p] 51)).cell? ⟨w.heap.size, 0, none⟩ = some (.int .i64 e) := by go_simp
  have f1 : (w.alloc (.cells #[.int .i64 e, .int .i64 p] 51)).cell? ⟨w.heap.size, 1, none⟩ = some (.int .i64 p) := by go_simp
  have ox : One a 9 x (w.alloc (.cells #[.int .i64 e, .int .i64 p] 51)).drew := (hB0.drew.block a hal).trans hx'.out
  have oy : One b 26 y (w.alloc (.cells #[.int .i64 e, .int .i64 p] 51)).drew := (hB0.drew.block b hbl).trans hy'.out
  have oz : One d 3 z (w.alloc (.cells #[.int .i64 e, .int .i64 p] 51)).drew := (hB0.drew.block d hdl).trans hz'.out
  have hB1 : Below B w (w.alloc (.cells #[.int .i64 e, .int .i64 p] 51)).drew := (hB0.mono (by omega)).drew
  generalize w.alloc (.cells #[.int .i64 e, .int .i64 p] 51) = w0 at *
  refine wp_region_plan (S := fun w' => w'.cell? ⟨w.heap.size, 0, none⟩ = some (.int .i64 e) ∧ w'.cell? ⟨w.heap.size, 1, none⟩ = some (.int .i64 p))
    [(0, true), (1, true), (2, true), (3, true), (4, false), (5, false), (6, false)] (by kernel_rfl) (by kernel_rfl) (by kernel_rfl) (fun _ _ _ _ _ h => h) ⟨f0, f1⟩ ?_
  intro HS
  repeat (first | (apply wpPlan_look; rfl; rfl; (intro wq hq; (try dsimp only at hq); go_split_ands; go_simp; (try rw [if_neg (by omega)]); try with_reducible rfl); simp only [Act.put, List.setIfInBounds_toArray, List.set_cons_zero, List.set_cons_succ]) | (apply wpPlan_skip; rfl; rfl; simp only [Act.put, List.setIfInBounds_toArray, List.set_cons_zero, List.set_cons_succ]) | (apply wpPlan_pass; rfl; rfl; assumption; simp only [Act.put, List.setIfInBounds_toArray, List.set_cons_zero, List.set_cons_succ]))
  clear f0 f1 hB0
  generalize w0.drew = w1 at *
  have o1 := ox.put (.string ⟨#[]⟩)
  have oy1 := oy.other hab (.string ⟨#[]⟩)
  have oz1 := oz.other had (.string ⟨#[]⟩)
  have hB2 : Below B w (w1.setCell ⟨a, 0, none⟩ (.string ⟨#[]⟩)) := hB1.setCell ha _
  have g0 := other_cell HS.1 (b := a) (by omega) (.string ⟨#[]⟩)
  have g1 := other_cell HS.2 (b := a) (by omega) (.string ⟨#[]⟩)
  refine wpPlan_run0 rfl rfl (by simp [execOp, go_sem, ox.cell, ox.free]) _ (fun _ h => h) ⟨g0, g1⟩ ?_
  simp only [Act.put, List.setIfInBounds_toArray, List.set_cons_zero, List.set_cons_succ]
  have oy2 := oy1.put (.int .i64 e)
  have ox2 := o1.other hab.symm (.int .i64 e)
  have oz2 := oz1.other hbd (.int .i64 e)
  have hB3 : Below B w ((w1.setCell ⟨a, 0, none⟩ (.string ⟨#[]⟩)).setCell ⟨b, 0, none⟩ (.int .i64 e)) := hB2.setCell hb _
  have g2 := other_cell g0 (b := b) (by omega) (.int .i64 e)
  have g3 := other_cell g1 (b := b) (by omega) (.int .i64 e)
  refine wpPlan_run0 rfl rfl (by simp [execOp, go_sem, oy1.cell, oy1.free]) _ (fun _ h => h) ⟨g2, g3⟩ ?_
  simp only [Act.put, List.setIfInBounds_toArray, List.set_cons_zero, List.set_cons_succ]
  have oz3 := oz2.put (.int .i64 p)
  have ox3 := ox2.other had.symm (.int .i64 p)
  have oy3 := oy2.other hbd.symm (.int .i64 p)
  have hB4 : Below B w (((w1.setCell ⟨a, 0, none⟩ (.string ⟨#[]⟩)).setCell ⟨b, 0, none⟩ (.int .i64 e)).setCell ⟨d, 0, none⟩ (.int .i64 p)) := hB3.setCell hd _
  have g4 := other_cell g2 (b := d) (by omega) (.int .i64 p)
  have g5 := other_cell g3 (b := d) (by omega) (.int .i64 p)
  refine wpPlan_run0 rfl rfl (by simp [execOp, go_sem, oz2.cell, oz2.free]) _ (fun _ h => h) ⟨g4, g5⟩ ?_
  simp only [Act.put, List.setIfInBounds_toArray, List.set_cons_zero, List.set_cons_succ]
  apply wpPlan_done
  exact ⟨rfl, _, rfl, _, results_none rfl _ _ _, rfl, rfl, ⟨ox3.cell, oy3.cell, oz3.cell⟩, hB4⟩

section
variable {P : Program} {ops : Array Oper} {Q : Exit → Act → World → Prop} {S : World → Prop}
/-- The rule for such a statement, where a panic's end leans on some slots that the statement does not write. -/
theorem wpPlan_any2 (hs : Region.noSelect ops = true) (hQ : ∀ (i : Nat) (o : Oper), ops[i]? = some o → ∀ c a v w, Q (.panic c) (a.put o.dst v) w → Q (.panic c) a w) :
    ∀ (l : List (Nat × Bool)) (S : World → Prop) (listed : Array Bool) (a : Act) (w : World), planOk ops listed l = true → S w → wpPlan P ops Q S l a w → wpAnyH P .any ops Q S l.length listed a w := by
  intro l
  induction l with
  | nil =>
    intro S listed a w hp _ h
    exact wpAnyH_done (by simpa [planOk] using hp) h 0
  | cons x l ih =>
    intro S listed a w hp hS h
    obtain ⟨i, b⟩ := x
    cases b with
    | true =>
      simp only [planOk, Bool.and_eq_true] at hp
      obtain ⟨o, v, ho, hy, h⟩ := h
      exact wpAnyH_take ho hs hp.1.1 hp.1.2 (fun c a w hq => hQ i o ho c a v w hq) hy hS (ih _ _ _ _ hp.2 hS h)
    | false =>
      simp only [planOk, Bool.and_eq_true] at hp
      have hr : Region.ready .any ops listed = [i] := by simpa using hp.1
      refine wpAnyH_all hr (by simp) (fun j hj => ?_)
      have : j = i := by simpa using hj
      subst this
      exact wpOp_mono (fun a' w' ⟨S', h1, h2, h3⟩ => ⟨h1 _ h2, wpAnyH_weak h1 _ _ _ _ (ih S' _ _ _ hp.2 h2 h3)⟩) h
theorem wp_region_plan2 {id : Nat} {a : Act} {w : World} (l : List (Nat × Bool)) (hm : P.follows .mixedOrders = true) (hs : Region.noSelect ops = true)
    (hp : (planOk ops (Array.replicate ops.size false) l && l.length == ops.size) = true) (n : Nat) (hd : (ops.toList.all fun o => match o.dst with | some d => decide (n ≤ d) | none => true) = true) (hQ : ∀ c a d v w, n ≤ d → Q (.panic c) (a.put (some d) v) w → Q (.panic c) a w)
    (hS : S w.drew) (h : S w.drew → wpPlan P ops Q S l a w.drew) : (Code.region id ops true).wp P Q a w := by
  simp only [Bool.and_eq_true, beq_iff_eq] at hp
  refine wp_region_held_drew hm hS (fun _ => ?_)
  have hQ2 : ∀ (i : Nat) (o : Oper), ops[i]? = some o → ∀ c a v w, Q (.panic c) (a.put o.dst v) w → Q (.panic c) a w := by
    intro i o ho c a v w hq
    have h1 := List.all_eq_true.1 hd o (by simpa using Array.mem_of_getElem? ho)
    cases hod : o.dst with
    | none => rw [hod] at hq; exact hq
    | some d =>
      rw [hod] at hq h1
      exact hQ c a d v w (by simpa using h1) hq
  have := wpPlan_any2 hs hQ2 l S _ a _ hp.1 hS (h hS)
  rw [hp.2] at this
  exact this
theorem leaves_tmps {fn : Func} {t1 t2 : Array Value} {R : Ending → World → Prop} (h : results fn t1 = results fn t2) : ∀ (ds : List Deferred) (u : FrameMode) (w : World), Leaves P fn t1 R ds u w → Leaves P fn t2 R ds u w := by
  intro ds
  induction ds with
  | nil =>
    intro u w hl
    cases u with
    | returning => simpa [Leaves, ← h] using hl
    | panicking c => exact hl
    | run => exact hl
  | cons d ds ih =>
    intro u w ⟨h1, fv, cap, f, args, h2, h3, h4⟩
    refine ⟨h1, fv, cap, f, args, h2, h3, h4.mono fun e u' w' hh => ?_⟩
    cases e with
    | returned v => exact ih _ _ hh
    | panicked c => exact ih _ _ hh
    | outgrown => exact hh
end
theorem results_put (t : Array Value) (d : Nat) (v : Value) (h : ¬ (d = 2 ∨ d = 3 ∨ d = 4)) : results Try.f9 (t.setIfInBounds d v) = results Try.f9 t := by
  have h2 : d ≠ 2 := fun e => h (.inl e)
  have h3 : d ≠ 3 := fun e => h (.inr (.inl e))
  have h4 : d ≠ 4 := fun e => h (.inr (.inr e))
  simp [results, Try.results9, Array.getD_eq_getD_getElem?, Array.getElem?_setIfInBounds, h2, h3, h4]

/-- What Check answers. -/
def checkV : Except Flt Ty → Value
  | .ok t => .tuple #[.string t.str, .int .i64 0, .int .i64 0]
  | .error (e, p) => .tuple #[.string ⟨#[]⟩, .int .i64 e, .int .i64 p]

set_option maxHeartbeats 800000 in
theorem Check_many (T : List Nd) (tv : Value) (w : World) (hn : Nodes w tv T) (h : 16384 < T.length) (hT : T.length ≤ 100000000) : Calls Try.prog 9 #[tv] w (Makes (checkV (checkM T)) w) := by
  have X : Hid (checkM T = .error (17, 0)) := by rw [Hid, checkM, if_pos h]
  obtain ⟨A, c, rfl, hlc, hN⟩ := hn
  clear hN
  have i1 : (16384 : Int) < (T.length : Int) := by omega
  go_enter_defers Try.func9, Try.ntmps9
  go_wp2_with fail
  rw [X.out]
  simp [bodyPostD, Leaves, settle, results, Try.results9, go_sem, checkV, Makes]
  exact (((Below.refl _ _).alloc (Nat.le_refl _) _).alloc (by simp) _).alloc (by simp; omega) _

/-- The three results' blocks, as a call goes on. -/
structure Res3 (B : Nat) (W w : World) : Prop where
  x : ∃ v, One B 9 v w
  y : ∃ v, One (B + 1) 26 v w
  z : ∃ v, One (B + 1 + 1) 3 v w
  below : Below B W w
theorem Res3.keep {B g : Nat} {W w w' : World} (h : Res3 B W w) (hk : Keep g w w') (hg : B + 1 + 1 < g) : Res3 B W w' := by
  obtain ⟨⟨v1, h1⟩, ⟨v2, h2⟩, ⟨v3, h3⟩, hb⟩ := h
  have l1 := (Array.getElem?_eq_some_iff.1 h1).1
  have l2 := (Array.getElem?_eq_some_iff.1 h2).1
  have l3 := (Array.getElem?_eq_some_iff.1 h3).1
  refine ⟨⟨v1, (hk.block _ l1 (by omega)).trans h1⟩, ⟨v2, (hk.block _ l2 (by omega)).trans h2⟩, ⟨v3, (hk.block _ l3 (by omega)).trans h3⟩, ?_⟩
  exact ⟨hk.os.trans hb.os, hk.tape.trans hb.tape, hk.output.trans hb.output, Nat.le_trans hb.size hk.size, fun k hk1 => (hk.block k (by omega) (by omega)).trans (hb.block k hk1)⟩

theorem res3_start (w : World) : Res3 w.heap.size w (((w.alloc (.cells #[.string ⟨#[]⟩] 9)).alloc (.cells #[.int .i64 0] 26)).alloc (.cells #[.int .i64 0] 3)) := by
  have b1 : Below (w.heap.size + 1) (w.alloc (.cells #[.string ⟨#[]⟩] 9)) ((w.alloc (.cells #[.string ⟨#[]⟩] 9)).alloc (.cells #[.int .i64 0] 26)) := (Below.refl _ _).alloc (by simp) _
  have b2 : Below (w.heap.size + 1 + 1) ((w.alloc (.cells #[.string ⟨#[]⟩] 9)).alloc (.cells #[.int .i64 0] 26)) (((w.alloc (.cells #[.string ⟨#[]⟩] 9)).alloc (.cells #[.int .i64 0] 26)).alloc (.cells #[.int .i64 0] 3)) := (Below.refl _ _).alloc (by simp) _
  have h1 := heap_alloc_new (w.alloc (.cells #[.string ⟨#[]⟩] 9)) (.cells #[.int .i64 0] 26)
  have h2 := heap_alloc_new ((w.alloc (.cells #[.string ⟨#[]⟩] 9)).alloc (.cells #[.int .i64 0] 26)) (.cells #[.int .i64 0] 3)
  have e1 : (w.alloc (.cells #[.string ⟨#[]⟩] 9)).heap.size = w.heap.size + 1 := by simp
  have e2 : ((w.alloc (.cells #[.string ⟨#[]⟩] 9)).alloc (.cells #[.int .i64 0] 26)).heap.size = w.heap.size + 1 + 1 := by simp
  rw [e1] at h1
  rw [e2] at h2
  refine ⟨⟨.string ⟨#[]⟩, (b2.block _ (by omega)).trans ((b1.block _ (by omega)).trans (heap_alloc_new w _))⟩, ⟨.int .i64 0, (b2.block _ (by omega)).trans h1⟩, ⟨.int .i64 0, h2⟩, (((Below.refl _ _).alloc (Nat.le_refl _) _).alloc (by simp) _).alloc (by simp; omega) _⟩


set_option maxHeartbeats 1600000 in
theorem Check_short (T : List Nd) (tv : Value) (w : World) (hn : Nodes w tv T) (hT : T.length ≤ 16384) : Calls Try.prog 9 #[tv] w (Makes (checkV (checkM T)) w) := by
  have X : Hid (checkM T = match shapeM T 1024 0 with | .error e => .error e | .ok q => if q = T.length then (match typedM T 1024 [] 0 with | .error e => .error e | .ok (t, _) => .ok t) else .error (18, q)) := by rw [Hid, checkM, if_neg (by omega)]; rfl
  have hmf : ∀ (fn : Fn) (first cap : Array Value) (w : World), (Instr.makeFunc fn first cap).run Try.prog w = .ok (.func fn first cap) w := fun _ _ _ _ => rfl
  have HN := Lib.hid hn
  obtain ⟨A, c, rfl, hlc, hN⟩ := hn
  clear hN
  have i1 : ¬ (16384 : Int) < (T.length : Int) := by omega
  go_enter_defers Try.func9, Try.ntmps9
  go_wp2_with fail
  refine (rules_any _).mono ?_
  rintro e w1 ⟨r, rfl, hr, hR, hb⟩
  have hR0 := res3_start w
  have hsz1 : w.heap.size + 1 + 1 < w1.heap.size := by have := hb.size; simp at this; omega
  have hR1 := Lib.hid (hR0.keep (Keep.of (g := w1.heap.size) hb) hsz1)
  have HR := Lib.hid hR
  have hNo1 := (HN.out.later hR0.below).later hb
  have hrl : r < w1.heap.size := by obtain ⟨_, _, _, _, hm, _⟩ := hR; exact hm.lt
  have hB1 : Below w1.heap.size w1 (w1.alloc (.cells #[.slice A T.length c, .int .i64 0, .map (some r)] 57)) := (Below.refl _ _).alloc (Nat.le_refl _) _
  have hI : Inv T w1.heap.size r (.slice A T.length c) 0 (w1.alloc (.cells #[.slice A T.length c, .int .i64 0, .map (some r)] 57)) :=
    ⟨heap_alloc_new w1 _, hNo1.later hB1, by
      obtain ⟨v1, v2, v3, v4, hm, o1, o2, o3, o4⟩ := hR
      exact ⟨v1, v2, v3, v4, hm.later hB1 hm.lt, o1.later hB1, o2.later hB1, o3.later hB1, o4.later hB1⟩, by omega, by simp, by simp⟩
  have HI := Lib.hid hI
  clear hR0 hb hR hNo1 hI hB1
  go_wp2_with fail
  refine (shape_any hT 1024 w1.heap.size (.slice A T.length c) (.map (some r)) 0 1 _ rfl HI.out.ck (by simp) (by simp) HI.out.nodes (by omega)).mono ?_
  have HRa := Lib.hid (fun o => hR1.out.keep (Keep.of (g := w1.heap.size) ((Below.refl _ _).alloc (Nat.le_refl _) o)) hsz1)
  cases hs : shapeM T 1024 0 with
  | error fl =>
    obtain ⟨e0, p0⟩ := fl
    rintro e w2 ⟨hk, rfl⟩
    have hR2 := (HRa.out _).keep hk hsz1
    rw [X.out, hs]
    simp only
    refine leaves_cons (f := 24) (args := #[.pointer (some ⟨w.heap.size, 0, none⟩), .pointer (some ⟨w.heap.size + 1, 0, none⟩), .pointer (some ⟨w.heap.size + 1 + 1, 0, none⟩)]) (by simp) (by simp [go_sem]) ?_
    refine (catch_flaw w.heap.size (w.heap.size + 1) (w.heap.size + 1 + 1) w.heap.size _ _ _ _ _ [] _ hR2.x.choose_spec hR2.y.choose_spec hR2.z.choose_spec (by omega) (by omega) (by omega) (by omega) (by omega) (by omega)).mono ?_
    rintro e u' w'' ⟨rfl, rfl, ⟨k0, k1, k2⟩, hB⟩
    simp [Leaves, settle, results, Try.results9, go_sem, k0, k1, k2, checkV, Makes]
    exact hR2.below.trans hB
  | ok q =>
    rintro e w2 ⟨hk, rfl, hc2⟩
    have hR2 := Lib.hid ((HRa.out _).keep hk hsz1)
    have HI2 := Lib.hid (HI.out.keep hk hc2)
    have HS := Lib.hid hs
    have hgl : w1.heap.size < w2.heap.size := by have := hk.size; simp at this; omega
    clear hs hk hc2 HI
    have c1 := HI2.out.ck.c1
    go_wp2_with fail
    have hqe : ((q : Int) == (T.length : Int)) = decide (q = T.length) := by rw [Bool.eq_iff_iff]; simp only [beq_iff_eq, decide_eq_true_eq]; omega
    refine wp_region_plan2 (S := fun w' => w'.cell? ⟨w1.heap.size, 1, none⟩ = some (.int .i64 q))
      [(0, true), (1, true), (2, true), (3, true), (4, true), (5, true), (6, true), (7, true), (8, true), (9, true), (10, true), (11, false)] (by kernel_rfl) (by kernel_rfl) (by kernel_rfl) 5 (by kernel_rfl) (fun c a d v w' hd hq => leaves_tmps (results_put a.tmps d v (by omega)) _ _ _ hq) c1 ?_
    intro HSt
    by_cases hql : q = T.length
    · rw [decide_eq_true hql] at hqe
      have HQ := Lib.hid hql
      clear hql
      repeat (first | (apply wpPlan_look; rfl; rfl; (intro wq hq; (try dsimp only at hq); go_split_ands; go_simp; (try rw [if_neg (by omega)]); try with_reducible rfl); simp only [Act.put, List.setIfInBounds_toArray, List.set_cons_zero, List.set_cons_succ]) | (apply wpPlan_skip; rfl; rfl; simp only [Act.put, List.setIfInBounds_toArray, List.set_cons_zero, List.set_cons_succ]) | (apply wpPlan_pass; rfl; rfl; assumption; simp only [Act.put, List.setIfInBounds_toArray, List.set_cons_zero, List.set_cons_succ]))
      apply wpPlan_call2; rfl; rfl; rfl; rfl; kernel_rfl; exact need_yes 18 q _; rfl; rintro e w' ⟨rfl, rfl⟩
      refine .inl ⟨_, rfl, HSt, ?_⟩
      simp only [Act.put, List.setIfInBounds_toArray, List.set_cons_zero, List.set_cons_succ]
      apply wpPlan_done
      have hbd : Below w2.heap.size w2 w2.drew := (Below.refl _ _).drew
      have HI3 := Lib.hid (HI2.out.later hbd)
      have HR3 := Lib.hid (hR2.out.keep (Keep.of (g := w1.heap.size) hbd) hsz1)
      clear HSt hqe c1 hR2 HI2
      have hgl3 : w1.heap.size < w2.drew.heap.size := hgl
      clear hgl hbd
      generalize w2.drew = w3 at *
      have c1 := HI3.out.ck.c1
      have fz := HI3.out.ck.free 1
      go_wp2_with fail
      have HI4 := Lib.hid (HI3.out.step 0)
      refine (typed_any hT 1024 w1.heap.size r (.slice A T.length c) (.slice none 0 0) [] 0 q _ HI4.out (.inl ⟨rfl, rfl⟩) (by simp) (by simp) HS.out).mono ?_
      have HR4 := Lib.hid (HR3.out.keep ((Keep.refl w1.heap.size w3).setCell 1 (.int .i64 0)) hsz1)
      cases hty : typedM T 1024 [] 0 with
      | error fl =>
        obtain ⟨e0, p0⟩ := fl
        rintro e w4 ⟨hk, rfl⟩
        have hR5 := HR4.out.keep hk hsz1
        rw [X.out, HS.out]
        simp only [if_pos HQ.out, hty]
        refine leaves_cons (f := 24) (args := #[.pointer (some ⟨w.heap.size, 0, none⟩), .pointer (some ⟨w.heap.size + 1, 0, none⟩), .pointer (some ⟨w.heap.size + 1 + 1, 0, none⟩)]) (by simp) (by simp [go_sem]) ?_
        refine (catch_flaw w.heap.size (w.heap.size + 1) (w.heap.size + 1 + 1) w.heap.size _ _ _ _ _ [] _ hR5.x.choose_spec hR5.y.choose_spec hR5.z.choose_spec (by omega) (by omega) (by omega) (by omega) (by omega) (by omega)).mono ?_
        rintro e u' w'' ⟨rfl, rfl, ⟨k0, k1, k2⟩, hB⟩
        simp [Leaves, settle, results, Try.results9, go_sem, k0, k1, k2, checkV, Makes]
        exact hR5.below.trans hB
      | ok tq =>
        obtain ⟨t0, q0⟩ := tq
        rintro e w4 ⟨hk, rfl, hc4⟩
        have hR5 := HR4.out.keep hk hsz1
        obtain ⟨x1, hx1⟩ := hR5.x
        obtain ⟨y1, hy1⟩ := hR5.y
        obtain ⟨z1, hz1⟩ := hR5.z
        have k0 := hx1.cell
        have k0' := hx1.free
        have k1 := hy1.cell
        have k1' := hy1.free
        have k2 := hz1.cell
        have k2' := hz1.free
        have HT := Lib.hid hty
        have HB := Lib.hid hR5.below
        have HZ : Hid (w.heap.size + 1 + 1 < w4.heap.size) := (Array.getElem?_eq_some_iff.1 hz1).1
        have HX1 := Lib.hid hx1
        have HY1 := Lib.hid hy1
        have HZ1 := Lib.hid hz1
        clear hk hc4 hR5 hx1 hy1 hz1 hty
        go_wp2_with fail
        refine leaves_cons (f := 24) (args := #[.pointer (some ⟨w.heap.size, 0, none⟩), .pointer (some ⟨w.heap.size + 1, 0, none⟩), .pointer (some ⟨w.heap.size + 1 + 1, 0, none⟩)]) (by simp) (by simp [go_sem]) ?_
        refine (catch_idle _ _ _ _).mono ?_
        rintro e u' w'' ⟨rfl, rfl, hB⟩
        have z0 := (((HX1.out.put (.string t0.str)).other (b := w.heap.size + 1) (by omega) (.int .i64 0)).other (b := w.heap.size + 1 + 1) (by omega) (.int .i64 0)).later hB
        have z1 := (((HY1.out.other (b := w.heap.size) (by omega) (.string t0.str)).put (.int .i64 0)).other (b := w.heap.size + 1 + 1) (by omega) (.int .i64 0)).later hB
        have z2 := (((HZ1.out.other (b := w.heap.size) (by omega) (.string t0.str)).other (b := w.heap.size + 1) (by omega) (.int .i64 0)).put (.int .i64 0)).later hB
        have q0 := z0.cell
        have q1 := z1.cell
        have q2 := z2.cell
        have hBe : Below w.heap.size w w'' := (((HB.out.setCell (Nat.le_refl _) _).setCell (by simp) _).setCell (by simp; omega) _).trans (hB.mono (by have := HZ.out; simp [World.setCell]; omega))
        rw [X.out, HS.out]
        simp only [if_pos HQ.out, HT.out]
        simp [Leaves, settle, results, Try.results9, go_sem, q0, q1, q2, checkV, Makes]
        exact hBe
    · rw [decide_eq_false hql] at hqe
      have HQ := Lib.hid hql
      clear hql
      repeat (first | (apply wpPlan_look; rfl; rfl; (intro wq hq; (try dsimp only at hq); go_split_ands; go_simp; (try rw [if_neg (by omega)]); try with_reducible rfl); simp only [Act.put, List.setIfInBounds_toArray, List.set_cons_zero, List.set_cons_succ]) | (apply wpPlan_skip; rfl; rfl; simp only [Act.put, List.setIfInBounds_toArray, List.set_cons_zero, List.set_cons_succ]) | (apply wpPlan_pass; rfl; rfl; assumption; simp only [Act.put, List.setIfInBounds_toArray, List.set_cons_zero, List.set_cons_succ]))
      apply wpPlan_call2; rfl; rfl; rfl; rfl; kernel_rfl; exact need_no 18 q _; rfl; rintro e w' ⟨rfl, rfl⟩
      refine .inr ⟨_, rfl, ?_⟩
      have hR3 := hR2.out.keep (Keep.of (g := w1.heap.size) ((Below.refl _ _).drew)) hsz1
      rw [X.out, HS.out]
      simp only [if_neg HQ.out]
      refine leaves_cons (f := 24) (args := #[.pointer (some ⟨w.heap.size, 0, none⟩), .pointer (some ⟨w.heap.size + 1, 0, none⟩), .pointer (some ⟨w.heap.size + 1 + 1, 0, none⟩)]) (by simp) (by simp [go_sem]) ?_
      refine (catch_flaw w.heap.size (w.heap.size + 1) (w.heap.size + 1 + 1) w.heap.size _ _ _ _ _ [] _ hR3.x.choose_spec hR3.y.choose_spec hR3.z.choose_spec (by omega) (by omega) (by omega) (by omega) (by omega) (by omega)).mono ?_
      rintro e u' w'' ⟨rfl, rfl, ⟨k0, k1, k2⟩, hB⟩
      simp [Leaves, settle, results, Try.results9, go_sem, k0, k1, k2, checkV, Makes]
      exact hR3.below.trans hB

theorem coreCheck_any (T : List Nd) (tv : Value) (w : World) (hn : Nodes w tv T) (hT : T.length ≤ 100000000) : Calls Try.prog 9 #[tv] w (Makes (checkV (checkM T)) w) := by
  rcases Nat.lt_or_ge 16384 T.length with h | h
  · exact Check_many T tv w hn h hT
  · exact Check_short T tv w hn h
end Go.Proofs.Ytnmhiddahfnkoaa
