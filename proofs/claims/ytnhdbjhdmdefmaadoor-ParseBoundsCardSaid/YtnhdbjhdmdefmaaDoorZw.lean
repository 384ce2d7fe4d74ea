
/- Walks of parse: a source is read whole. -/
import Derived.Test.YtnhdbjhdmdefmaaDoorZv
namespace Culp.Gr
set_option linter.unusedSimpArgs false
set_option linter.unusedVariables false
open Go Go.RowKit Culp Culp.Tr Go.Proofs.YtnhdbjhdmdefmaaDoor
section
variable {α : Type} {L : List Tok} {e : Nat × Nat} {a : α} {k k2 : Nat} {lg : List Nat}
theorem fin_more (h : k < L.length) : fin L e (.ok (a, k, lg)) = .error (15, here L e k) := if_pos h
theorem fin_all (h : ¬ k < L.length) : fin L e (.ok (a, k, [])) = .ok a := if_neg h
theorem fin_large (h : ¬ k < L.length) : fin L e (.ok (a, k, k2 :: lg)) = .error (21, pl L k2) := if_neg h
end
/-- What all answers. -/
def AllRes {α : Type} (R : World → Value → α → Prop) (spec : List Tok → Except Nat (α × Nat × List Nat)) (tc : TypeId) (c : Nat) (l : List UInt8) (w : World) (E : Ending) (w' : World) : Prop := match Tx.toks l with
  | .error (x, p) => E = .returned (.tuple #[.pointer none, .int .i64 x, .agg #[.int .i64 p.1, .int .i64 p.2]]) ∧ Below w.heap.size w w'
  | .ok L => match fin L (endOf l) (spec L) with
    | .error (x, p) => E = .returned (.tuple #[.pointer none, .int .i64 x, .agg #[.int .i64 p.1, .int .i64 p.2]]) ∧ Keep c w w'
    | .ok a => ∃ (pb B : Nat) (tv : Value) (k : Nat) (lv u : Value), E = .returned (.tuple #[.pointer (some ⟨pb, 0, none⟩), .int .i64 0, .agg #[.int .i64 0, .int .i64 0]]) ∧ R w' u a ∧ Blk c #[u] tc w' ∧ PS pb B L tv (endOf l) k [] lv w' ∧ Keep c w w'
section
variable {pb B i c g j : Nat} {L : List Tok} {tv lv u : Value} {e : Nat × Nat} {lg : List Nat} {w wa wb : World}
theorem PS.far (h : PS pb B L tv e i lg lv w) (h1 : g ≠ pb) (h2 : tv.ownBlock ≠ some g) (h3 : lv.ownBlock ≠ some g) : PS pb B L tv e i lg lv (w.setCell ⟨g, j, none⟩ u) := { h with
  blk := blk_other h.blk h1 u
  toks := own_apart_keep h.toks ((Keep.refl _ _).setCell _ _) h2
  lrow := own_apart_keep h.lrow ((Keep.refl _ _).setCell _ _) h3 }
theorem kc_below (h : Keep c w wa) (hb : Below w.heap.size wa wb) : Keep c w wb := ⟨hb.os.trans h.os, hb.tape.trans h.tape, hb.output.trans h.output, Nat.le_trans h.size hb.size, fun k hk hne => (hb.block k hk).trans (h.block k hk hne)⟩
theorem kc_keepN (h : Keep c w wa) (k : KeepN pb (some c) wa wb) (hp : w.heap.size ≤ pb) : Keep c w wb := ⟨k.os.trans h.os, k.tape.trans h.tape, k.output.trans h.output, Nat.le_trans h.size k.size, fun b hb hne => (k.block b (Nat.lt_of_lt_of_le hb h.size) (by omega) (fun e => hne (by injection e with e; exact e.symm))).trans (h.block b hb hne)⟩
end
end Culp.Gr
namespace Go.Proofs.YtnhdbjhdmdefmaaDoor
set_option linter.unusedSimpArgs false
set_option linter.unusedVariables false
open Go.RowKit Culp Culp.Tr Culp.Gr
section
variable {P : Program} {ops : Array Oper} {Q : Exit → Act → World → Prop} {S : World → Prop}
/-- The rule for such a statement, where a panic's end leans on some slots that the statement does not write. -/
theorem wpPlan_any2 (hs : Region.noSelect ops = true) (hQ : ∀ (i : Nat) (o : Oper), ops[i]? = some o → ∀ c a v w, Q (.panic c) (a.put o.dst v) w → Q (.panic c) a w) :
    ∀ (l : List (Nat × Bool)) (S : World → Prop) (listed : Array Bool) (a : Act) (w : World), planOk ops listed l = true → S w → wpPlan P ops Q S l a w → wpAnyH P .any ops Q S l.length listed a w := by
  intro l
  induction l with
  | nil =>
    intro S listed a w hp _ h
    exact wpAnyH_done (by simpa [planOk] using hp) h 0
  | cons x l ih =>
    intro S listed a w hp hS h
    obtain ⟨i, b⟩ := x
    cases b with
    | true =>
      simp only [planOk, Bool.and_eq_true] at hp
      obtain ⟨o, v, ho, hy, h⟩ := h
      exact wpAnyH_take ho hs hp.1.1 hp.1.2 (fun c a w hq => hQ i o ho c a v w hq) hy hS (ih _ _ _ _ hp.2 hS h)
    | false =>
      simp only [planOk, Bool.and_eq_true] at hp
      have hr : Region.ready .any ops listed = [i] := by simpa using hp.1
      refine wpAnyH_all hr (by simp) (fun j hj => ?_)
      have : j = i := by simpa using hj
      subst this
      exact wpOp_mono (fun a' w' ⟨S', h1, h2, h3⟩ => ⟨h1 _ h2, wpAnyH_weak h1 _ _ _ _ (ih S' _ _ _ hp.2 h2 h3)⟩) h
theorem wp_region_plan2 {id : Nat} {a : Act} {w : World} (l : List (Nat × Bool)) (hm : P.follows .mixedOrders = true) (hs : Region.noSelect ops = true)
    (hp : (planOk ops (Array.replicate ops.size false) l && l.length == ops.size) = true) (n : Nat) (hd : (ops.toList.all fun o => match o.dst with | some d => decide (n ≤ d) | none => true) = true) (hQ : ∀ c a d v w, n ≤ d → Q (.panic c) (a.put (some d) v) w → Q (.panic c) a w)
    (hS : S w.drew) (h : S w.drew → wpPlan P ops Q S l a w.drew) : (Code.region id ops true).wp P Q a w := by
  simp only [Bool.and_eq_true, beq_iff_eq] at hp
  refine wp_region_held_drew hm hS (fun _ => ?_)
  have hQ2 : ∀ (i : Nat) (o : Oper), ops[i]? = some o → ∀ c a v w, Q (.panic c) (a.put o.dst v) w → Q (.panic c) a w := by
    intro i o ho c a v w hq
    have h1 := List.all_eq_true.1 hd o (by simpa using Array.mem_of_getElem? ho)
    cases hod : o.dst with
    | none => rw [hod] at hq; exact hq
    | some d =>
      rw [hod] at hq h1
      exact hQ c a d v w (by simpa using h1) hq
  have := wpPlan_any2 hs hQ2 l S _ a _ hp.1 hS (h hS)
  rw [hp.2] at this
  exact this
theorem leaves_tmps {fn : Func} {t1 t2 : Array Value} {R : Ending → World → Prop} (h : results fn t1 = results fn t2) : ∀ (ds : List Deferred) (u : FrameMode) (w : World), Leaves P fn t1 R ds u w → Leaves P fn t2 R ds u w := by
  intro ds
  induction ds with
  | nil =>
    intro u w hl
    cases u with
    | returning => simpa [Leaves, ← h] using hl
    | panicking c => exact hl
    | run => exact hl
  | cons d ds ih =>
    intro u w ⟨h1, fv, cap, f, args, h2, h3, h4⟩
    refine ⟨h1, fv, cap, f, args, h2, h3, h4.mono fun e u' w' hh => ?_⟩
    cases e with
    | returned v => exact ih _ _ hh
    | panicked c => exact ih _ _ hh
    | outgrown => exact hh
end
theorem aresults_put (t : Array Value) (d : Nat) (v : Value) (h : ¬ (d = 4 ∨ d = 5 ∨ d = 6)) : results Tryd.f14 (t.setIfInBounds d v) = results Tryd.f14 t := by
  have h2 : d ≠ 4 := fun e => h (.inl e)
  have h3 : d ≠ 5 := fun e => h (.inr (.inl e))
  have h4 : d ≠ 6 := fun e => h (.inr (.inr e))
  simp [results, Tryd.results14, Array.getD_eq_getD_getElem?, Array.getElem?_setIfInBounds, h2, h3, h4]
/-- What such a closure comes to. -/
def CloRes {α : Type} (R : World → Value → α → Prop) (spec : Except Nat (α × Nat × List Nat)) (tc : TypeId) (pb B : Nat) (L : List Tok) (tv : Value) (e : Nat × Nat) (c : Nat) (w : World) (E : Ending) (w' : World) : Prop := match spec with
  | .error j => E = .panicked (refV (here L e j)) ∧ KeepN pb (some c) w w'
  | .ok (a, k, lg) => E = .returned (.tuple #[]) ∧ ∃ (u lv : Value), R w' u a ∧ Blk c #[u] tc w' ∧ PS pb B L tv e k lg lv w' ∧ KeepN pb (some c) w w'
/-- A closure that reads, and keeps what it read in a block of one cell. -/
def CloC {α : Type} (F : FuncId) (tc : TypeId) (R : World → Value → α → Prop) (spec : List Tok → Except Nat (α × Nat × List Nat)) (c : Nat) (z : Value) : Prop := ∀ (pb B : Nat) (L : List Tok) (tv : Value) (e : Nat × Nat) (w : World), PS pb B L tv e 0 [] (.slice none 0 0) w → c < pb → c < B → Blk c #[z] tc w →
  Calls Tryd.prog F #[.pointer (some ⟨pb, 0, none⟩), .pointer (some ⟨c, 0, none⟩)] w (CloRes R (spec L) tc pb B L tv e c w)
set_option maxRecDepth 100000 in
set_option maxHeartbeats 6400000 in
theorem all_any {α : Type} {R : World → Value → α → Prop} {spec : List Tok → Except Nat (α × Nat × List Nat)} {tc : TypeId} {F : Nat} {c : Nat} {z : Value} (hRm : ∀ (w w' : World) (u : Value) (a : α), R w u a → Below w.heap.size w w' → R w' u a) (hF : CloC F tc R spec c z) (hbF : bodied Tryd.prog F = true) (s : ByteArray) (sv : Value) (w : World) (hb : BytesV w sv s) (hs : s.size ≤ 65536) (hS : Sp w) (hX : ∀ x, Tx.toks s.data.toList = .error x → 0 < x.1) (hL : ∀ L, Tx.toks s.data.toList = .ok L → L.length ≤ 65536 ∧ ∀ t ∈ L, t.1.s.length ≤ 64) (hc : Blk c #[z] tc w) :
    Calls Tryd.prog 14 #[sv, .func (.func F) #[] #[.pointer (some ⟨c, 0, none⟩)]] w (AllRes R spec tc c s.data.toList w) := by
  have HRM := Lib.hid hRm
  clear hRm
  have hmf : ∀ (fn : Fn) (first cap : Array Value) (w : World), (Instr.makeFunc fn first cap).run Tryd.prog w = .ok (.func fn first cap) w := fun _ _ _ _ => rfl
  have hcl := hc.lt
  have hba : Below w.heap.size w (((w.alloc (.cells #[.pointer none] 52)).alloc (.cells #[.int .i64 0] 23)).alloc (.cells #[.int .i64 0, .int .i64 0] 25)) := (((Below.refl _ _).alloc (Nat.le_refl _) _).alloc (by simp) _).alloc (by simp; omega) _
  have HR := Lib.hid (ready_any s sv _ (hb.later hba) hs (hS.later hba) hX hL)
  have HA3 : Hid (Blk w.heap.size #[.pointer none] 52 (((w.alloc (.cells #[.pointer none] 52)).alloc (.cells #[.int .i64 0] 23)).alloc (.cells #[.int .i64 0, .int .i64 0] 25))) := Lib.hid (((Blk.alloc w _ _).later ((Below.refl _ _).alloc (Nat.le_refl _) _)).later ((Below.refl _ _).alloc (Nat.le_refl _) _))
  have HB3 : Hid (Blk (w.heap.size + 1) #[.int .i64 0] 23 (((w.alloc (.cells #[.pointer none] 52)).alloc (.cells #[.int .i64 0] 23)).alloc (.cells #[.int .i64 0, .int .i64 0] 25))) := Lib.hid ((Blk.alloc2 w _ _ _).later ((Below.refl _ _).alloc (Nat.le_refl _) _))
  have HD3 : Hid (Blk (w.heap.size + 1 + 1) #[.int .i64 0, .int .i64 0] 25 (((w.alloc (.cells #[.pointer none] 52)).alloc (.cells #[.int .i64 0] 23)).alloc (.cells #[.int .i64 0, .int .i64 0] 25))) := Lib.hid (by
    have := Blk.alloc2 (w.alloc (.cells #[.pointer none] 52)) (.cells #[.int .i64 0] 23) #[.int .i64 0, .int .i64 0] 25
    rwa [World.size_alloc] at this)
  have HBA := Lib.hid hba
  have HC := Lib.hid hc
  have HF := Lib.hid hF
  have HE := Lib.hid (fun (args : Array Value) (w : World) => run_enter (args := args) (w := w) hbF)
  have HXX := Lib.hid hX
  clear hba hc hF hb hS hX hL hbF
  go_enter_defers Tryd.func14, Tryd.ntmps14
  go_wp2_with fail
  refine HR.out.mono ?_
  clear HR
  generalize ((w.alloc (.cells #[.pointer none] 52)).alloc (.cells #[.int .i64 0] 23)).alloc (.cells #[.int .i64 0, .int .i64 0] 25) = W3 at *
  rintro E w1 ⟨hb1, hr⟩
  have HA4 := Lib.hid (HA3.out.later hb1)
  have HB4 := Lib.hid (HB3.out.later hb1)
  have HD4 := Lib.hid (HD3.out.later hb1)
  have HW4 := Lib.hid (below_later hb1 HBA.out)
  have hs3 : w.heap.size + 2 < W3.heap.size := by have := HD3.out.lt; omega
  clear HA3 HB3 HD3 hb1 HBA
  have a0 := HA4.out.cell (i := 0) rfl
  have fa := HA4.out.free 0
  have b0 := HB4.out.cell (i := 0) rfl
  have fb := HB4.out.free 0
  have d0 := HD4.out.cell (i := 0) rfl
  have d1 := HD4.out.cell (i := 1) rfl
  have fd0 := HD4.out.free 0
  have fd1 := HD4.out.free 1
  cases ho : Tx.toks s.data.toList with
  | error x =>
    obtain ⟨x, p⟩ := x
    rw [ho] at hr
    simp only at hr
    subst hr
    have hx := HXX.out _ ho
    simp only at hx
    have ex : (((x : Nat) : Int) != 0) = true := bne_iff_ne.2 (by omega)
    have HQ : Hid (∀ w'', Below w.heap.size w w'' → AllRes R spec tc c s.data.toList w (.returned (.tuple #[.pointer none, .int .i64 x, .agg #[.int .i64 p.1, .int .i64 p.2]])) w'') := Lib.hid fun w'' hbw => by
      unfold AllRes
      rw [ho]
      exact ⟨rfl, hbw⟩
    obtain ⟨px1, hp1⟩ : ∃ px1 : Int, px1 = (p.1 : Int) := ⟨_, rfl⟩
    obtain ⟨px2, hp2⟩ : ∃ px2 : Int, px2 = (p.2 : Int) := ⟨_, rfl⟩
    rw [← hp1, ← hp2]
    have HP12 := Lib.hid (And.intro hp1 hp2)
    clear hp1 hp2 ho hx HXX HRM HC HF HE hmf
    go_wp2_with fail
    have ha5 := blk_other (j := 1) (b := w.heap.size + 1 + 1) (blk_other (j := 0) (b := w.heap.size + 1 + 1) (blk_other (j := 0) (b := w.heap.size + 1) (blk_set HA4.out 0 (.pointer none)) (by omega) (.int .i64 x)) (by omega) (.int .i64 px1)) (by omega) (.int .i64 px2)
    have hb5 := blk_other (j := 1) (b := w.heap.size + 1 + 1) (blk_other (j := 0) (b := w.heap.size + 1 + 1) (blk_set (blk_other (j := 0) (b := w.heap.size) HB4.out (by omega) (.pointer none)) 0 (.int .i64 x)) (by omega) (.int .i64 px1)) (by omega) (.int .i64 px2)
    have hd5 := blk_set (blk_set (blk_other (j := 0) (b := w.heap.size + 1) (blk_other (j := 0) (b := w.heap.size) HD4.out (by omega) (.pointer none)) (by omega) (.int .i64 x)) 0 (.int .i64 px1)) 1 (.int .i64 px2)
    have hw5 := (((HW4.out.setCell (p := ⟨w.heap.size, 0, none⟩) (Nat.le_refl _) (.pointer none)).setCell (p := ⟨w.heap.size + 1, 0, none⟩) (by show w.heap.size ≤ w.heap.size + 1; omega) (.int .i64 x)).setCell (p := ⟨w.heap.size + 1 + 1, 0, none⟩) (by show w.heap.size ≤ w.heap.size + 1 + 1; omega) (.int .i64 px1)).setCell (p := ⟨w.heap.size + 1 + 1, 1, none⟩) (by show w.heap.size ≤ w.heap.size + 1 + 1; omega) (.int .i64 px2)
    clear a0 fa b0 fb d0 d1 fd0 fd1 HA4 HB4 HD4 HW4
    generalize (((w1.setCell ⟨w.heap.size, 0, none⟩ (.pointer none)).setCell ⟨w.heap.size + 1, 0, none⟩ (.int .i64 x)).setCell ⟨w.heap.size + 1 + 1, 0, none⟩ (.int .i64 px1)).setCell ⟨w.heap.size + 1 + 1, 1, none⟩ (.int .i64 px2) = W5 at *
    have o1 : Blk w.heap.size #[.pointer none] 52 W5.drew := ha5
    have o2 : Blk (w.heap.size + 1) #[.int .i64 x] 23 W5.drew := hb5
    have o3 : Blk (w.heap.size + 1 + 1) #[.int .i64 px1, .int .i64 px2] 25 W5.drew := hd5
    have c2 := o2.cell (i := 0) rfl
    have c3 := o3.cell (i := 0) rfl
    have c4 := o3.cell (i := 1) rfl
    refine wp_region_plan2 (S := fun w' => w'.cell? ⟨w.heap.size + 1, 0, none⟩ = some (.int .i64 x) ∧ w'.cell? ⟨w.heap.size + 1 + 1, 0, none⟩ = some (.int .i64 px1) ∧ w'.cell? ⟨w.heap.size + 1 + 1, 1, none⟩ = some (.int .i64 px2)) [(0, true), (1, true), (2, false), (3, false), (4, false)] (by kernel_rfl) (by kernel_rfl) (by kernel_rfl) 7 (by kernel_rfl) (fun c a d v w' hd hq => leaves_tmps (aresults_put a.tmps d v (by omega)) _ _ _ hq) ⟨c2, c3, c4⟩ ?_
    intro HSt
    have hres := HQ.out _ (hw5.drew)
    clear HQ hw5 ha5 hb5 hd5
    generalize W5.drew = w8 at *
    have e1 : w8.setCell ⟨w.heap.size, 0, none⟩ (.pointer none) = w8 := set_selfz (i := 0) o1 rfl
    have e2 : w8.setCell ⟨w.heap.size + 1, 0, none⟩ (.int .i64 x) = w8 := set_selfz (i := 0) o2 rfl
    have e3 : w8.setCell ⟨w.heap.size + 1 + 1, 0, none⟩ (.int .i64 px1) = w8 := set_selfz (i := 0) o3 rfl
    have e4 : w8.setCell ⟨w.heap.size + 1 + 1, 1, none⟩ (.int .i64 px2) = w8 := set_selfz (i := 1) o3 rfl
    have c1 := o1.cell (i := 0) rfl
    have f1 := o1.free 0
    have f2 := o2.free 0
    have f3 := o3.free 0
    have f4 := o3.free 1
    have HRS := Lib.hid hres
    clear hres
    repeat (first | (apply wpPlan_look; rfl; rfl; (intro wq hq; (try dsimp only at hq); go_split_ands; go_simp; (try rw [if_neg (by omega)]); (try rw [if_pos (by omega)]); try with_reducible rfl); simp only [Act.put, List.setIfInBounds_toArray, List.set_cons_zero, List.set_cons_succ]) | (apply wpPlan_skip; rfl; rfl; simp only [Act.put, List.setIfInBounds_toArray, List.set_cons_zero, List.set_cons_succ]) | (apply wpPlan_pass; rfl; rfl; assumption; simp only [Act.put, List.setIfInBounds_toArray, List.set_cons_zero, List.set_cons_succ]))
    refine wpPlan_run0 (w' := w8) rfl rfl (by simp [execOp, go_sem, c1, f1, e1]) _ (fun _ h => h) HSt ?_
    simp only [Act.put, List.setIfInBounds_toArray, List.set_cons_zero, List.set_cons_succ]
    refine wpPlan_run0 (w' := w8) rfl rfl (by simp [execOp, go_sem, c2, f2, e2]) _ (fun _ h => h) HSt ?_
    simp only [Act.put, List.setIfInBounds_toArray, List.set_cons_zero, List.set_cons_succ]
    refine wpPlan_run0 (w' := w8) rfl rfl (by simp [execOp, go_sem, c3, c4, f3, f4, e3, e4]) _ (fun _ h => h) HSt ?_
    simp only [Act.put, List.setIfInBounds_toArray, List.set_cons_zero, List.set_cons_succ]
    apply wpPlan_done
    clear HSt
    go_wp2_with fail
    have hres := HRS.out
    rw [← HP12.out.1, ← HP12.out.2] at hres
    clear HRS e1 e2 e3 e4
    simp [bodyPostD, Leaves, settle, results, Tryd.results14, go_sem, c1, c2, c3, c4]
    exact hres
  | ok L =>
    rw [ho] at hr
    obtain ⟨pb, B, tv, rfl, hpb, hB, hps⟩ := hr
    have HPS := Lib.hid hps
    have HO := Lib.hid ho
    have hen := HE.out
    clear hps ho HXX
    go_wp2_with fail
    have hap : w.heap.size < pb := by omega
    have hto : ∀ g, g < B → tv.ownBlock ≠ some g := fun g hg he => by have := (HPS.out.toks.lt g he).1; omega
    have hnl : ∀ g, (Value.slice none 0 0).ownBlock ≠ some g := fun g he => by cases he
    have hp5 := (((HPS.out.far (j := 0) (u := .pointer (some ⟨pb, 0, none⟩)) (g := w.heap.size) (by omega) (hto _ (by omega)) (hnl _)).far (j := 0) (u := .int .i64 0) (g := w.heap.size + 1) (by omega) (hto _ (by omega)) (hnl _)).far (j := 0) (u := .int .i64 0) (g := w.heap.size + 1 + 1) (by omega) (hto _ (by omega)) (hnl _)).far (j := 1) (u := .int .i64 0) (g := w.heap.size + 1 + 1) (by omega) (hto _ (by omega)) (hnl _)
    have hc5 := blk_other (j := 1) (b := w.heap.size + 1 + 1) (blk_other (j := 0) (b := w.heap.size + 1 + 1) (blk_other (j := 0) (b := w.heap.size + 1) (blk_other (j := 0) (b := w.heap.size) (HC.out.later HW4.out) (by omega) (.pointer (some ⟨pb, 0, none⟩))) (by omega) (.int .i64 0)) (by omega) (.int .i64 0)) (by omega) (.int .i64 0)
    have ha5 := blk_other (j := 1) (b := w.heap.size + 1 + 1) (blk_other (j := 0) (b := w.heap.size + 1 + 1) (blk_other (j := 0) (b := w.heap.size + 1) (blk_set HA4.out 0 (.pointer (some ⟨pb, 0, none⟩))) (by omega) (.int .i64 0)) (by omega) (.int .i64 0)) (by omega) (.int .i64 0)
    have hb5 := blk_other (j := 1) (b := w.heap.size + 1 + 1) (blk_other (j := 0) (b := w.heap.size + 1 + 1) (blk_set (blk_other (j := 0) (b := w.heap.size) HB4.out (by omega) (.pointer (some ⟨pb, 0, none⟩))) 0 (.int .i64 0)) (by omega) (.int .i64 0)) (by omega) (.int .i64 0)
    have hd5 := blk_set (blk_set (blk_other (j := 0) (b := w.heap.size + 1) (blk_other (j := 0) (b := w.heap.size) HD4.out (by omega) (.pointer (some ⟨pb, 0, none⟩))) (by omega) (.int .i64 0)) 0 (.int .i64 0)) 1 (.int .i64 0)
    have hw5 := (((HW4.out.setCell (p := ⟨w.heap.size, 0, none⟩) (Nat.le_refl _) (.pointer (some ⟨pb, 0, none⟩))).setCell (p := ⟨w.heap.size + 1, 0, none⟩) (by show w.heap.size ≤ w.heap.size + 1; omega) (.int .i64 0)).setCell (p := ⟨w.heap.size + 1 + 1, 0, none⟩) (by show w.heap.size ≤ w.heap.size + 1 + 1; omega) (.int .i64 0)).setCell (p := ⟨w.heap.size + 1 + 1, 1, none⟩) (by show w.heap.size ≤ w.heap.size + 1 + 1; omega) (.int .i64 0)
    clear a0 fa b0 fb d0 d1 fd0 fd1 HA4 HB4 HD4 HW4 hto hnl
    generalize (((w1.setCell ⟨w.heap.size, 0, none⟩ (.pointer (some ⟨pb, 0, none⟩))).setCell ⟨w.heap.size + 1, 0, none⟩ (.int .i64 0)).setCell ⟨w.heap.size + 1 + 1, 0, none⟩ (.int .i64 0)).setCell ⟨w.heap.size + 1 + 1, 1, none⟩ (.int .i64 0) = W5 at *
    have HA5 : Hid (Blk w.heap.size #[.pointer (some ⟨pb, 0, none⟩)] 52 W5) := Lib.hid ha5
    have HB5 : Hid (Blk (w.heap.size + 1) #[.int .i64 0] 23 W5) := Lib.hid hb5
    have HD5 : Hid (Blk (w.heap.size + 1 + 1) #[.int .i64 0, .int .i64 0] 25 W5) := Lib.hid hd5
    have HK5 : Hid (Keep c w W5) := Lib.hid (kc_below (Keep.refl c w) hw5)
    have HCALL := Lib.hid (HF.out pb B L tv (endOf s.data.toList) W5 hp5 (by omega) (by omega) hc5)
    clear ha5 hb5 hd5 hw5 hp5 hc5 HPS HC HF
    refine HCALL.out.mono ?_
    clear HCALL hen HE hmf
    intro E w6 hr6
    unfold CloRes at hr6
    cases hsp : spec L with
    | error jj =>
      rw [hsp] at hr6
      obtain ⟨rfl, hk6⟩ := hr6
      have ha6 := keepN_blk hk6 HA5.out (by omega) (fun e => by injection e with e; omega)
      have hb6 := keepN_blk hk6 HB5.out (by omega) (fun e => by injection e with e; omega)
      have hd6 := keepN_blk hk6 HD5.out (by omega) (fun e => by injection e with e; omega)
      have hk7 := kc_keepN HK5.out hk6 (by omega)
      have HQ : Hid (∀ w'', Below w.heap.size w6 w'' → AllRes R spec tc c s.data.toList w (.returned (.tuple #[.pointer none, .int .i64 15, .agg #[.int .i64 (here L (endOf s.data.toList) jj).1, .int .i64 (here L (endOf s.data.toList) jj).2]])) w'') := Lib.hid fun w'' hbw => by
        unfold AllRes
        rw [HO.out]
        simp only
        rw [hsp]
        exact ⟨rfl, kc_below hk7 hbw⟩
      refine leaves_cons (f := 27) (args := #[.pointer (some ⟨w.heap.size, 0, none⟩), .pointer (some ⟨w.heap.size + 1, 0, none⟩), .pointer (some ⟨w.heap.size + 1 + 1, 0, none⟩)]) (by simp) (by simp [go_sem]) ?_
      refine (acatch_refused w.heap.size (w.heap.size + 1) (w.heap.size + 1 + 1) w.heap.size _ _ _ _ _ _ [] _ ha6 hb6 hd6 (by omega) (by omega) (by omega) (by omega) (by omega) (by omega)).mono ?_
      rintro e u' w'' ⟨rfl, rfl, ⟨k0, k1, k2⟩, hB2⟩
      have q0 := k0.cell (i := 0) rfl
      have q1 := k1.cell (i := 0) rfl
      have q2 := k2.cell (i := 0) rfl
      have q3 := k2.cell (i := 1) rfl
      have hres := HQ.out w'' hB2
      clear HQ k0 k1 k2
      simp [Leaves, settle, results, Tryd.results14, go_sem, q0, q1, q2, q3]
      exact hres
    | ok r =>
      obtain ⟨ra, k, lg⟩ := r
      rw [hsp] at hr6
      obtain ⟨rfl, u, lv, hR, hcu, hps6, hk6⟩ := hr6
      obtain ⟨Av, cv, rfl⟩ := own_shape hps6.toks
      obtain ⟨Al, cl, rfl⟩ := own_shape hps6.lrow
      have HA6 := Lib.hid (keepN_blk hk6 HA5.out (by omega) (fun e => by injection e with e; omega))
      have HB6 := Lib.hid (keepN_blk hk6 HB5.out (by omega) (fun e => by injection e with e; omega))
      have HD6 := Lib.hid (keepN_blk hk6 HD5.out (by omega) (fun e => by injection e with e; omega))
      have HK7 := Lib.hid (kc_keepN HK5.out hk6 (by omega))
      have HPS6 := Lib.hid hps6
      have HCU := Lib.hid hcu
      have HRR := Lib.hid hR
      have HSP := Lib.hid hsp
      have hLs := hps6.small
      have hks := hps6.le
      have a0 := HA6.out.cell (i := 0) rfl
      have p0 := hps6.blk.cell (i := 0) rfl
      have p1 := hps6.blk.cell (i := 1) rfl
      clear HA5 HB5 HD5 HK5 hps6 hcu hR hsp hk6
      go_wp2_with fail
      have hqe : decide ((k : Int) < (L.length : Int)) = decide (k < L.length) := by rw [decide_eq_decide]; omega
      refine wp_region_plan2 (S := fun w' => w'.cell? ⟨w.heap.size, 0, none⟩ = some (.pointer (some ⟨pb, 0, none⟩)) ∧ w'.cell? ⟨pb, 0, none⟩ = some (.slice Av L.length cv) ∧ w'.cell? ⟨pb, 1, none⟩ = some (.int .i64 k)) [(0, true), (1, true), (2, true), (3, true), (4, true), (5, true), (6, true), (7, true), (8, true), (9, true)] (by kernel_rfl) (by kernel_rfl) (by kernel_rfl) 7 (by kernel_rfl) (fun c a d v w' hd hq => leaves_tmps (aresults_put a.tmps d v (by omega)) _ _ _ hq) ⟨a0, p0, p1⟩ ?_
      intro HSt
      repeat (first | (apply wpPlan_look; rfl; rfl; (intro wq hq; (try dsimp only at hq); go_split_ands; go_simp; (try rw [if_neg (by omega)]); (try rw [if_pos (by omega)]); try with_reducible rfl); simp only [Act.put, List.setIfInBounds_toArray, List.set_cons_zero, List.set_cons_succ]) | (apply wpPlan_skip; rfl; rfl; simp only [Act.put, List.setIfInBounds_toArray, List.set_cons_zero, List.set_cons_succ]) | (apply wpPlan_pass; rfl; rfl; assumption; simp only [Act.put, List.setIfInBounds_toArray, List.set_cons_zero, List.set_cons_succ]))
      apply wpPlan_done
      clear HSt p0 p1 a0
      have hbd : Below w6.heap.size w6 w6.drew := (Below.refl _ _).drew
      have HPS7 := Lib.hid (HPS6.out.later hbd)
      have HA7 := Lib.hid (HA6.out.later hbd)
      have HB7 := Lib.hid (HB6.out.later hbd)
      have HD7 := Lib.hid (HD6.out.later hbd)
      have HC7 := Lib.hid (HCU.out.later hbd)
      have HR7 := Lib.hid (HRM.out _ _ _ _ HRR.out hbd)
      have HK8 := Lib.hid (kc_below HK7.out (hbd.mono (by have := HK7.out.size; exact this)))
      clear HPS6 HA6 HB6 HD6 HCU HRR HK7 hbd hqe
      generalize w6.drew = w7 at *
      have a0 := HA7.out.cell (i := 0) rfl
      by_cases hkl : k < L.length
      · have HQ : Hid (∀ w'', Below w.heap.size w7 w'' → AllRes R spec tc c s.data.toList w (.returned (.tuple #[.pointer none, .int .i64 15, .agg #[.int .i64 (here L (endOf s.data.toList) k).1, .int .i64 (here L (endOf s.data.toList) k).2]])) w'') := Lib.hid fun w'' hbw => by
          unfold AllRes
          rw [HO.out]
          simp only
          rw [HSP.out, fin_more hkl]
          exact ⟨rfl, kc_below HK8.out hbw⟩
        have hsz7 : w.heap.size ≤ w7.heap.size := HK8.out.size
        clear HO HSP HK8 HR7 HC7 HRM
        go_wp2_with fail
        refine (fail_any HPS7.out).mono ?_
        rintro E w8 ⟨rfl, hb8⟩
        refine leaves_cons (f := 27) (args := #[.pointer (some ⟨w.heap.size, 0, none⟩), .pointer (some ⟨w.heap.size + 1, 0, none⟩), .pointer (some ⟨w.heap.size + 1 + 1, 0, none⟩)]) (by simp) (by simp [go_sem]) ?_
        refine (acatch_refused w.heap.size (w.heap.size + 1) (w.heap.size + 1 + 1) w.heap.size _ _ _ _ _ _ [] _ (HA7.out.later hb8) (HB7.out.later hb8) (HD7.out.later hb8) (by omega) (by omega) (by omega) (by omega) (by omega) (by omega)).mono ?_
        rintro e u' w'' ⟨rfl, rfl, ⟨k0, k1, k2⟩, hB2⟩
        have q0 := k0.cell (i := 0) rfl
        have q1 := k1.cell (i := 0) rfl
        have q2 := k2.cell (i := 0) rfl
        have q3 := k2.cell (i := 1) rfl
        have hres := HQ.out w'' ((hb8.mono hsz7).trans hB2)
        clear HQ k0 k1 k2
        simp [Leaves, settle, results, Tryd.results14, go_sem, q0, q1, q2, q3]
        exact hres
      · have p4 := HPS7.out.blk.cell (i := 4) rfl
        cases lg with
        | nil =>
          have b0 := HB7.out.cell (i := 0) rfl
          have d0 := HD7.out.cell (i := 0) rfl
          have d1 := HD7.out.cell (i := 1) rfl
          have fa := HA7.out.free 0
          have fb := HB7.out.free 0
          have fd0 := HD7.out.free 0
          have fd1 := HD7.out.free 1
          have HQ : Hid (AllRes R spec tc c s.data.toList w (.returned (.tuple #[.pointer (some ⟨pb, 0, none⟩), .int .i64 0, .agg #[.int .i64 0, .int .i64 0]])) w7) := Lib.hid (by
            unfold AllRes
            rw [HO.out]
            simp only
            rw [HSP.out, fin_all hkl]
            exact ⟨pb, B, _, k, _, u, rfl, HR7.out, HC7.out, HPS7.out, HK8.out⟩)
          clear HO HSP HK8 HR7 HC7 HRM HPS7
          go_wp2_with fail
          have e1 : w7.setCell ⟨w.heap.size, 0, none⟩ (.pointer (some ⟨pb, 0, none⟩)) = w7 := set_selfz (i := 0) HA7.out rfl
          have e2 : w7.setCell ⟨w.heap.size + 1, 0, none⟩ (.int .i64 0) = w7 := set_selfz (i := 0) HB7.out rfl
          have e3 : w7.setCell ⟨w.heap.size + 1 + 1, 0, none⟩ (.int .i64 0) = w7 := set_selfz (i := 0) HD7.out rfl
          have e4 : w7.setCell ⟨w.heap.size + 1 + 1, 1, none⟩ (.int .i64 0) = w7 := set_selfz (i := 1) HD7.out rfl
          rw [e1, e2, e3, e4]
          refine leaves_cons (f := 27) (args := #[.pointer (some ⟨w.heap.size, 0, none⟩), .pointer (some ⟨w.heap.size + 1, 0, none⟩), .pointer (some ⟨w.heap.size + 1 + 1, 0, none⟩)]) (by simp) (by simp [go_sem]) ?_
          refine (acatch_idle _ _ _ _).mono ?_
          rintro e u' w'' ⟨rfl, rfl, rfl⟩
          have hres := HQ.out
          clear HQ
          simp [Leaves, settle, results, Tryd.results14, go_sem, a0, b0, d0, d1]
          exact hres
        | cons k2 lg =>
          rcases HPS7.out.lrow.2 with ⟨_, h0⟩ | ⟨g, cap, cur, hv, hbg, hh, hcc, _, hsz, htk⟩
          · simp at h0
          · simp only [Value.slice.injEq] at hv
            obtain ⟨rfl, -, rfl⟩ := hv
            have l0 := HPS7.out.lrow.cellAt 0 (by simp)
            have l1 := HPS7.out.lrow.cellAt 1 (by simp; omega)
            replace l0 : w7.cell? ⟨g, 0, none⟩ = some (.int .i64 (pl L k2).1) := l0
            replace l1 : w7.cell? ⟨g, 1, none⟩ = some (.int .i64 (pl L k2).2) := l1
            have HQ : Hid (∀ w'', Keep c w w'' → AllRes R spec tc c s.data.toList w (.returned (.tuple #[.pointer none, .int .i64 21, .agg #[.int .i64 (pl L k2).1, .int .i64 (pl L k2).2]])) w'') := Lib.hid fun w'' hbw => by
              unfold AllRes
              rw [HO.out]
              simp only
              rw [HSP.out, fin_large hkl]
              exact ⟨rfl, hbw⟩
            have hdg : w.heap.size + 1 + 1 ≠ g := by
              have h1 : w.heap.size + 2 < W3.heap.size := hs3
              omega
            have HH := Lib.hid hh
            clear HO HSP HR7 HC7 HRM HPS7 hh hcc hsz htk hbg
            generalize (pl L k2).1 = px1 at *
            generalize (pl L k2).2 = px2 at *
            simp only [List.length_cons] at p4
            go_wp2_with fail
            have hap2 : w.heap.size ≠ g := fun e => by
              have h2 := HA7.out
              unfold Blk at h2
              rw [e, HH.out] at h2
              simp only [Option.some.injEq, Obj.cells.injEq] at h2
              exact absurd h2.2.1 (by decide)
            have hbp2 : w.heap.size + 1 ≠ g := fun e => by
              have h2 := HB7.out
              unfold Blk at h2
              rw [e, HH.out] at h2
              simp only [Option.some.injEq, Obj.cells.injEq] at h2
              exact absurd h2.2.1 (by decide)
            have hdp2 : w.heap.size + 1 + 1 ≠ g := hdg
            refine wp_region_plan2 (S := fun w' => w'.cell? ⟨pb, 4, none⟩ = some (.slice (some ⟨g, 0, none⟩) (lg.length + 1) cl) ∧ w'.cell? ⟨g, 0, none⟩ = some (.int .i64 px1) ∧ w'.cell? ⟨g, 1, none⟩ = some (.int .i64 px2)) [(0, false), (1, true), (2, true), (3, true), (4, true), (5, true), (6, false), (7, false), (8, false)] (by kernel_rfl) (by kernel_rfl) (by kernel_rfl) 7 (by kernel_rfl) (fun c a d v w' hd hq => leaves_tmps (aresults_put a.tmps d v (by omega)) _ _ _ hq) ⟨p4, l0, l1⟩ ?_
            intro HSt
            have a0d : w7.drew.cell? ⟨w.heap.size, 0, none⟩ = some (.pointer (some ⟨pb, 0, none⟩)) := a0
            have o1 : Blk w.heap.size #[.pointer (some ⟨pb, 0, none⟩)] 52 w7.drew := HA7.out
            have o2 : Blk (w.heap.size + 1) #[.int .i64 0] 23 w7.drew := HB7.out
            have o3 : Blk (w.heap.size + 1 + 1) #[.int .i64 0, .int .i64 0] 25 w7.drew := HD7.out
            have hk8 : Keep c w w7.drew := kc_below HK8.out (Below.refl _ _).drew
            clear a0 p4 l0 l1
            generalize w7.drew = w8 at *
            refine wpPlan_run rfl rfl (by simp [execOp, go_sem, a0d] <;> (first | exact ⟨rfl, rfl⟩ | rfl)) _ (fun _ h => h) HSt ?_
            simp only [Act.put, List.setIfInBounds_toArray, List.set_cons_zero, List.set_cons_succ]
            repeat (first | (apply wpPlan_look; rfl; rfl; (intro wq hq; (try dsimp only at hq); go_split_ands; go_simp; (try rw [if_neg (by omega)]); (try rw [if_pos (by omega)]); try with_reducible rfl); simp only [Act.put, List.setIfInBounds_toArray, List.set_cons_zero, List.set_cons_succ]) | (apply wpPlan_skip; rfl; rfl; simp only [Act.put, List.setIfInBounds_toArray, List.set_cons_zero, List.set_cons_succ]) | (apply wpPlan_pass; rfl; rfl; assumption; simp only [Act.put, List.setIfInBounds_toArray, List.set_cons_zero, List.set_cons_succ]))
            have ca := o1.cell (i := 0) rfl
            have fa := o1.free 0
            refine wpPlan_run0 (w' := w8.setCell ⟨w.heap.size, 0, none⟩ (.pointer none)) rfl rfl (by simp [execOp, go_sem, ca, fa]) _ (fun _ h => h) ⟨far_cell HSt.1 (by omega) _, far_cell HSt.2.1 hap2 _, far_cell HSt.2.2 hap2 _⟩ ?_
            simp only [Act.put, List.setIfInBounds_toArray, List.set_cons_zero, List.set_cons_succ]
            have s1 := And.intro (far_cell (j := 0) HSt.1 (b := w.heap.size) (by omega) (.pointer none)) (And.intro (far_cell (j := 0) HSt.2.1 hap2 (.pointer none)) (far_cell (j := 0) HSt.2.2 hap2 (.pointer none)))
            have p1 : Blk w.heap.size #[.pointer none] 52 (w8.setCell ⟨w.heap.size, 0, none⟩ (.pointer none)) := blk_set o1 0 _
            have p2 := blk_other (j := 0) (b := w.heap.size) o2 (by omega) (.pointer none)
            have p3 := blk_other (j := 0) (b := w.heap.size) o3 (by omega) (.pointer none)
            have hk9 := kc_below hk8 (((Below.refl w.heap.size w8).setCell (p := ⟨w.heap.size, 0, none⟩) (Nat.le_refl _) (.pointer none)))
            clear HSt o1 o2 o3 hk8 ca fa
            generalize w8.setCell ⟨w.heap.size, 0, none⟩ (.pointer none) = w9 at *
            have cb := p2.cell (i := 0) rfl
            have fb := p2.free 0
            have s2 := And.intro (far_cell (j := 0) s1.1 (b := w.heap.size + 1) (by omega) (.int .i64 21)) (And.intro (far_cell (j := 0) s1.2.1 hbp2 (.int .i64 21)) (far_cell (j := 0) s1.2.2 hbp2 (.int .i64 21)))
            refine wpPlan_run0 (w' := w9.setCell ⟨w.heap.size + 1, 0, none⟩ (.int .i64 21)) rfl rfl (by simp [execOp, go_sem, cb, fb]) _ (fun _ h => h) s2 ?_
            simp only [Act.put, List.setIfInBounds_toArray, List.set_cons_zero, List.set_cons_succ]
            have q1 := blk_other (j := 0) (b := w.heap.size + 1) p1 (by omega) (.int .i64 21)
            have q2 : Blk (w.heap.size + 1) #[.int .i64 21] 23 (w9.setCell ⟨w.heap.size + 1, 0, none⟩ (.int .i64 21)) := blk_set p2 0 _
            have q3 := blk_other (j := 0) (b := w.heap.size + 1) p3 (by omega) (.int .i64 21)
            have hk10 := kc_below hk9 (((Below.refl w.heap.size w9).setCell (p := ⟨w.heap.size + 1, 0, none⟩) (by show w.heap.size ≤ w.heap.size + 1; omega) (.int .i64 21)))
            clear s1 p1 p2 p3 hk9 cb fb
            generalize w9.setCell ⟨w.heap.size + 1, 0, none⟩ (.int .i64 21) = w10 at *
            have cd0 := q3.cell (i := 0) rfl
            have cd1 := q3.cell (i := 1) rfl
            have fd0 := q3.free 0
            have fd1 := q3.free 1
            have ce1 := (blk_set q3 0 (.int .i64 px1)).cell (i := 1) rfl
            have fe1 := (blk_set q3 0 (.int .i64 px1)).free 1
            have s3 := And.intro (far_cell (j := 1) (far_cell (j := 0) s2.1 (b := w.heap.size + 1 + 1) (by omega) (.int .i64 px1)) (b := w.heap.size + 1 + 1) (by omega) (.int .i64 px2)) (And.intro (far_cell (j := 1) (far_cell (j := 0) s2.2.1 hdp2 (.int .i64 px1)) hdp2 (.int .i64 px2)) (far_cell (j := 1) (far_cell (j := 0) s2.2.2 hdp2 (.int .i64 px1)) hdp2 (.int .i64 px2)))
            refine wpPlan_run0 (w' := (w10.setCell ⟨w.heap.size + 1 + 1, 0, none⟩ (.int .i64 px1)).setCell ⟨w.heap.size + 1 + 1, 1, none⟩ (.int .i64 px2)) rfl rfl (by simp [execOp, go_sem, cd0, cd1, fd0, fd1, ce1, fe1]) _ (fun _ h => h) s3 ?_
            simp only [Act.put, List.setIfInBounds_toArray, List.set_cons_zero, List.set_cons_succ]
            apply wpPlan_done
            have r1 := blk_other (j := 1) (b := w.heap.size + 1 + 1) (blk_other (j := 0) (b := w.heap.size + 1 + 1) q1 (by omega) (.int .i64 px1)) (by omega) (.int .i64 px2)
            have r2 := blk_other (j := 1) (b := w.heap.size + 1 + 1) (blk_other (j := 0) (b := w.heap.size + 1 + 1) q2 (by omega) (.int .i64 px1)) (by omega) (.int .i64 px2)
            have r3 : Blk (w.heap.size + 1 + 1) #[.int .i64 px1, .int .i64 px2] 25 ((w10.setCell ⟨w.heap.size + 1 + 1, 0, none⟩ (.int .i64 px1)).setCell ⟨w.heap.size + 1 + 1, 1, none⟩ (.int .i64 px2)) := blk_set (blk_set q3 0 _) 1 _
            have hres := HQ.out _ (kc_below hk10 (((Below.refl w.heap.size w10).setCell (p := ⟨w.heap.size + 1 + 1, 0, none⟩) (by show w.heap.size ≤ w.heap.size + 1 + 1; omega) (.int .i64 px1)).setCell (p := ⟨w.heap.size + 1 + 1, 1, none⟩) (by show w.heap.size ≤ w.heap.size + 1 + 1; omega) (.int .i64 px2)))
            clear HQ s2 s3 q1 q2 q3 hk10 cd0 cd1 fd0 fd1 ce1 fe1
            generalize (w10.setCell ⟨w.heap.size + 1 + 1, 0, none⟩ (.int .i64 px1)).setCell ⟨w.heap.size + 1 + 1, 1, none⟩ (.int .i64 px2) = w11 at *
            have t0 := r1.cell (i := 0) rfl
            have t1 := r2.cell (i := 0) rfl
            have t2 := r3.cell (i := 0) rfl
            have t3 := r3.cell (i := 1) rfl
            have HRS := Lib.hid hres
            clear r1 r2 r3 hres
            go_wp2_with fail
            refine leaves_cons (f := 27) (args := #[.pointer (some ⟨w.heap.size, 0, none⟩), .pointer (some ⟨w.heap.size + 1, 0, none⟩), .pointer (some ⟨w.heap.size + 1 + 1, 0, none⟩)]) (by simp) (by simp [go_sem]) ?_
            refine (acatch_idle _ _ _ _).mono ?_
            rintro e u' w'' ⟨rfl, rfl, rfl⟩
            have hres := HRS.out
            clear HRS
            simp [Leaves, settle, results, Tryd.results14, go_sem, t0, t1, t2, t3]
            exact hres
end Go.Proofs.YtnhdbjhdmdefmaaDoor
