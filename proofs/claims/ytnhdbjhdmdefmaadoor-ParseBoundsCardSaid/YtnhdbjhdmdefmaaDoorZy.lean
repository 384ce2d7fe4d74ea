
/- Walks of parse: Type. -/
import Derived.Test.YtnhdbjhdmdefmaaDoorZx
namespace Culp.Gr
set_option linter.unusedSimpArgs false
set_option linter.unusedVariables false
open Go Go.RowKit Culp Culp.Tr Go.Proofs.YtnhdbjhdmdefmaaDoor
/-- A source, read whole. -/
def readAll {α : Type} (spec : List Tok → Except Nat (α × Nat × List Nat)) (l : List UInt8) : Except (Nat × (Nat × Nat)) α := match Tx.toks l with
  | .error x => .error x
  | .ok L => fin L (endOf l) (spec L)
theorem fin_pos {α : Type} {L : List Tok} {e : Nat × Nat} {r : Except Nat (α × Nat × List Nat)} {x : Nat × (Nat × Nat)} (h : fin L e r = .error x) : 0 < x.1 := by
  unfold fin at h
  split at h
  · injection h with h; subst h; exact Nat.succ_pos _
  · split at h
    · injection h with h; subst h; exact Nat.succ_pos _
    · split at h
      · injection h with h; subst h; exact Nat.succ_pos _
      · cases h
theorem kc_all {c : Nat} {w W w' : World} (h : Keep c W w') (hc : w.heap.size ≤ c) (hb : Below w.heap.size w W) : Below w.heap.size w w' :=
  ⟨h.os.trans hb.os, h.tape.trans hb.tape, h.output.trans hb.output, Nat.le_trans hb.size h.size, fun b hbs => (h.block b (Nat.lt_of_lt_of_le hbs hb.size) (by omega)).trans (hb.block b hbs)⟩
/-- Two ways that all ends. -/
theorem AllRes.two {α : Type} {R : World → Value → α → Prop} {spec : List Tok → Except Nat (α × Nat × List Nat)} {tc : TypeId} {c : Nat} {l : List UInt8} {w W w' : World} {E : Ending} (h : AllRes R spec tc c l W E w') (hc : w.heap.size ≤ c) (hb : Below w.heap.size w W) (hX : ∀ x, Tx.toks l = .error x → 0 < x.1) :
    (∃ (x : Nat) (p : Nat × Nat), 0 < x ∧ readAll spec l = .error (x, p) ∧ E = .returned (.tuple #[.pointer none, .int .i64 x, .agg #[.int .i64 p.1, .int .i64 p.2]]) ∧ Below w.heap.size w w' ∧ ∀ b, b < W.heap.size → b ≠ c → w'.heap[b]? = W.heap[b]?) ∨
    ∃ (a : α) (L : List Tok) (pb B : Nat) (tv : Value) (k : Nat) (lv u : Value), readAll spec l = .ok a ∧ Tx.toks l = .ok L ∧ E = .returned (.tuple #[.pointer (some ⟨pb, 0, none⟩), .int .i64 0, .agg #[.int .i64 0, .int .i64 0]]) ∧ R w' u a ∧ Blk c #[u] tc w' ∧ PS pb B L tv (endOf l) k [] lv w' ∧ Below w.heap.size w w' ∧ ∀ b, b < W.heap.size → b ≠ c → w'.heap[b]? = W.heap[b]? := by
  unfold AllRes at h
  unfold readAll
  cases ht : Tx.toks l with
  | error x =>
    rw [ht] at h
    obtain ⟨x, p⟩ := x
    exact .inl ⟨x, p, hX _ ht, rfl, h.1, hb.trans (h.2.mono hb.size), fun b hb _ => h.2.block b hb⟩
  | ok L =>
    rw [ht] at h
    simp only at h ⊢
    cases hf : fin L (endOf l) (spec L) with
    | error x =>
      rw [hf] at h
      obtain ⟨x, p⟩ := x
      exact .inl ⟨x, p, fin_pos hf, rfl, h.1, kc_all h.2 hc hb, fun b hb hne => h.2.block b hb hne⟩
    | ok a =>
      rw [hf] at h
      obtain ⟨pb, B, tv, k, lv, u, h1, h2, h3, h4, h5⟩ := h
      exact .inr ⟨a, L, pb, B, tv, k, lv, u, rfl, rfl, h1, h2, h3, h4, kc_all h5 hc hb, fun b hb hne => h5.block b hb hne⟩
/-- What Type answers. -/
def TypeRes (l : List UInt8) (w : World) (E : Ending) (w' : World) : Prop := Below w.heap.size w w' ∧ match readAll (fun L => whole L 0 []) l with
  | .ok t => E = .returned (.tuple #[.string (by_ t), .int .i64 0, .agg #[.int .i64 0, .int .i64 0]])
  | .error (x, p) => E = .returned (.tuple #[.string { data := #[] }, .int .i64 x, .agg #[.int .i64 p.1, .int .i64 p.2]])
end Culp.Gr
namespace Go.Proofs.YtnhdbjhdmdefmaaDoor
set_option linter.unusedSimpArgs false
set_option linter.unusedVariables false
open Go.RowKit Culp Culp.Tr Culp.Gr
set_option maxRecDepth 100000 in
set_option maxHeartbeats 3200000 in
theorem type_any (s : ByteArray) (sv : Value) (w : World) (hb : BytesV w sv s) (hs : s.size ≤ 65536) (hS : Sp w) (hX : ∀ x, Tx.toks s.data.toList = .error x → 0 < x.1) (hL : ∀ L, Tx.toks s.data.toList = .ok L → L.length ≤ 65536 ∧ ∀ t ∈ L, t.1.s.length ≤ 64) :
    Calls Tryd.prog 10 #[sv] w (TypeRes s.data.toList w) := by
  have hmf : ∀ (fn : Fn) (first cap : Array Value) (w : World), (Instr.makeFunc fn first cap).run Tryd.prog w = .ok (.func fn first cap) w := fun _ _ _ _ => rfl
  have hba : Below w.heap.size w ((w.alloc (.cells #[.int .i64 0, .int .i64 0] 25)).alloc (.cells #[.string { data := #[] }] 9)) := ((Below.refl _ _).alloc (Nat.le_refl _) _).alloc (by simp) _
  have hcb : Blk (w.heap.size + 1) #[.string { data := #[] }] 9 ((w.alloc (.cells #[.int .i64 0, .int .i64 0] 25)).alloc (.cells #[.string { data := #[] }] 9)) := Blk.alloc2 _ _ _ _
  have HP0 : Hid (Pl2 w.heap.size 0 0 ((w.alloc (.cells #[.int .i64 0, .int .i64 0] 25)).alloc (.cells #[.string { data := #[] }] 9))) := Lib.hid ((pl2_alloc w 0 0).later ((Below.refl _ _).alloc (Nat.le_refl _) _))
  have HALL := Lib.hid (all_any (fun _ _ _ _ h _ => h) (type_clo (w.heap.size + 1) _) (by kernel_rfl) s sv _ (hb.later hba) hs (hS.later hba) hX hL hcb)
  have HBA := Lib.hid hba
  have HXX := Lib.hid hX
  clear hba hcb hb hS hX hL
  go_enter Tryd.func10, Tryd.ntmps10
  go_wp2_with fail
  refine HALL.out.mono ?_
  clear HALL
  intro E w1 hr
  rcases hr.two (w := w) (by omega) HBA.out HXX.out with ⟨x, p, hx, hra, rfl, hbw, hbl⟩ | ⟨t, L, pb, B, tv, k, lv, u, hra, -, rfl, hR, hcu, -, hbw, hbl⟩
  · have hp1 : Pl2 w.heap.size 0 0 w1 := (hbl _ HP0.out.lt (by omega)).trans HP0.out
    have ex : (((x : Nat) : Int) != 0) = true := bne_iff_ne.2 (by omega)
    have HOK := Lib.hid hra
    have hba : Below w1.heap.size w1 (w1.alloc (.cells #[.int .i64 p.1, .int .i64 p.2] 25)) := (Below.refl _ _).alloc (Nat.le_refl _) _
    have HP7 := Lib.hid (pl2_alloc w1 p.1 p.2)
    have HP4 := Lib.hid (hp1.later hba)
    have HB4 := Lib.hid (below_later hba hbw)
    have hne : w.heap.size ≠ w1.heap.size := by have := hp1.lt; omega
    clear hba hra hx hp1 hbw hbl hr HXX HBA HP0
    go_wp2_with fail
    generalize w1.alloc (.cells #[.int .i64 p.1, .int .i64 p.2] 25) = W4 at *
    generalize w1.heap.size = g7 at *
    have p0 := HP7.out.c0
    have p1 := HP7.out.c1
    go_still_tail 4, (by kernel_rfl)
    change wpList _ _ _ _ _ W4.drew
    clear p0 p1
    have r0 := (HP4.out.later (Below.refl _ _).drew).c0
    have r1 := (HP4.out.later (Below.refl _ _).drew).c1
    have f0 := (HP4.out.later (Below.refl _ _).drew).free 0
    have f1 := (HP4.out.later (Below.refl _ _).drew).free 1
    have HP5 := Lib.hid (HP4.out.later (Below.refl _ _).drew)
    have HB5 := Lib.hid HB4.out.drew
    clear HP4 HB4 HP7
    generalize W4.drew = W8 at *
    go_wp2_with fail
    have HT2 := set2_pl (a' := p.1) (b' := p.2) HP5.out
    have d0 := HT2.c0
    have d1 := HT2.c1
    unfold set2 at d0 d1
    refine bodyPost_ret (v := .tuple #[.string { data := #[] }, .int .i64 x, .agg #[.int .i64 p.1, .int .i64 p.2]]) (by simp [results, Tryd.results10, go_sem, d0, d1]) rfl ⟨(HB5.out.setCell (Nat.le_refl _) _).setCell (Nat.le_refl _) _, ?_⟩
    rw [HOK.out]
  · have q4 : Pl2 w.heap.size 0 0 w1 := (hbl _ HP0.out.lt (by omega)).trans HP0.out
    obtain rfl : u = _ := hR
    have hq : ∀ o, Pl2 w.heap.size 0 0 (w1.alloc o) := fun o => q4.later ((Below.refl _ _).alloc (Nat.le_refl _) o)
    have a0 : ∀ o, (w1.alloc o).cell? ⟨w.heap.size, 0, none⟩ = some (.int .i64 0) := fun o => (hq o).c0
    have a1 : ∀ o, (w1.alloc o).cell? ⟨w.heap.size, 1, none⟩ = some (.int .i64 0) := fun o => (hq o).c1
    have b0 : ∀ o, (w1.alloc o).frozen? ⟨w.heap.size, 0, none⟩ = false := fun o => (hq o).free 0
    have b1 : ∀ o, (w1.alloc o).frozen? ⟨w.heap.size, 1, none⟩ = false := fun o => (hq o).free 1
    have cc : ∀ o, (w1.alloc o).cell? ⟨w.heap.size + 1, 0, none⟩ = some (.string (by_ t)) := fun o => (hcu.later ((Below.refl _ _).alloc (Nat.le_refl _) o)).cell (i := 0) rfl
    have HRES : Hid (TypeRes s.data.toList w (.returned (.tuple #[.string (by_ t), .int .i64 0, .agg #[.int .i64 0, .int .i64 0]])) (w1.alloc (.cells #[.int .i64 0, .int .i64 0] 25))) := Lib.hid (by
      refine ⟨below_later ((Below.refl _ _).alloc (Nat.le_refl _) _) hbw, ?_⟩
      rw [hra])
    have HQA := Lib.hid hq
    clear hq q4 hra hcu hbw hbl hr HXX HBA HP0
    go_wp2_with fail
    have d0 := a0 (.cells #[.int .i64 0, .int .i64 0] 25 (0, 0))
    have d1 := a1 (.cells #[.int .i64 0, .int .i64 0] 25 (0, 0))
    have s0 := set_selfz (i := 0) (HQA.out (.cells #[.int .i64 0, .int .i64 0] 25 (0, 0))) (v := .int .i64 0) rfl
    have s1 := set_selfz (i := 1) (HQA.out (.cells #[.int .i64 0, .int .i64 0] 25 (0, 0))) (v := .int .i64 0) rfl
    rw [s0, s1]
    refine bodyPost_ret (v := .tuple #[.string (by_ t), .int .i64 0, .agg #[.int .i64 0, .int .i64 0]]) (by simp [results, Tryd.results10, go_sem, d0, d1]) rfl HRES.out
end Go.Proofs.YtnhdbjhdmdefmaaDoor
