/- Walks of the document's answer for layer 10: small ones, and the shape of a term. -/
import Derived.Test.YtnmhiddahfnkoaaCoreM
import Derived.Test.YtnmhiddahfnkoaaCoreU
namespace Go.Proofs.Ytnmhiddahfnkoaa
set_option linter.unusedSimpArgs false
set_option linter.unusedVariables false
open Go.RowKit Culp

/-- The walk's block: the term, the place, the error and its node, the types so far. -/
def Wk (g : Nat) (tv : Value) (p e n : Int) (av : Value) (w : World) : Prop := w.heap[g]? = some (.cells #[tv, .int .i64 p, .int .i64 e, .int .i64 n, av] 79 (0, 0))
section
variable {g : Nat} {tv av : Value} {p e n : Int} {w w' : World}
theorem Wk.lt (h : Wk g tv p e n av w) : g < w.heap.size := (Array.getElem?_eq_some_iff.1 h).1
theorem Wk.c0 (h : Wk g tv p e n av w) : w.cell? ⟨g, 0, none⟩ = some tv := by unfold Wk at h; simp [World.cell?, h]
theorem Wk.c1 (h : Wk g tv p e n av w) : w.cell? ⟨g, 1, none⟩ = some (.int .i64 p) := by unfold Wk at h; simp [World.cell?, h]
theorem Wk.c2 (h : Wk g tv p e n av w) : w.cell? ⟨g, 2, none⟩ = some (.int .i64 e) := by unfold Wk at h; simp [World.cell?, h]
theorem Wk.c3 (h : Wk g tv p e n av w) : w.cell? ⟨g, 3, none⟩ = some (.int .i64 n) := by unfold Wk at h; simp [World.cell?, h]
theorem Wk.c4 (h : Wk g tv p e n av w) : w.cell? ⟨g, 4, none⟩ = some av := by unfold Wk at h; simp [World.cell?, h]
theorem Wk.free (h : Wk g tv p e n av w) (i : Nat) : w.frozen? ⟨g, i, none⟩ = false := by unfold Wk at h; simp [World.frozen?, h]
theorem Wk.later (h : Wk g tv p e n av w) (hb : Below w.heap.size w w') : Wk g tv p e n av w' := (hb.block g h.lt).trans h
theorem Wk.set1 (h : Wk g tv p e n av w) (q : Int) : Wk g tv q e n av (w.setCell ⟨g, 1, none⟩ (.int .i64 q)) := by unfold Wk at h ⊢; simp [World.setCell, Array.getElem?_modify, h]
theorem Wk.set2 (h : Wk g tv p e n av w) (q : Int) : Wk g tv p q n av (w.setCell ⟨g, 2, none⟩ (.int .i64 q)) := by unfold Wk at h ⊢; simp [World.setCell, Array.getElem?_modify, h]
theorem Wk.set3 (h : Wk g tv p e n av w) (q : Int) : Wk g tv p e q av (w.setCell ⟨g, 3, none⟩ (.int .i64 q)) := by unfold Wk at h ⊢; simp [World.setCell, Array.getElem?_modify, h]
end

/-- What fail leaves: the first error counts. -/
def FailRes (g : Nat) (tv : Value) (p : Int) (av : Value) (e n e1 n1 : Int) (w : World) (en : Ending) (w' : World) : Prop :=
  en = .returned (.tuple #[]) ∧ Keep g w w' ∧ w.heap.size = w'.heap.size ∧ if e = 0 then Wk g tv p e1 n1 av w' else (w = w' ∧ Wk g tv p e n av w')
set_option maxHeartbeats 400000 in
theorem rfail_any (g : Nat) (tv : Value) (p e n : Int) (av : Value) (e1 n1 : Int) (w : World) (h : Wk g tv p e n av w) :
    Calls Try.prog 57 #[.pointer (some ⟨g, 0, none⟩), .int .i64 e1, .int .i64 n1] w (FailRes g tv p av e n e1 n1 w) := by
  have H := Lib.hid h
  have c2 := h.c2
  have c3 := h.c3
  have f2 := h.free 2
  have f3 := h.free 3
  clear h
  by_cases he : e = 0
  · have e0 : (e == 0) = true := beq_iff_eq.2 he
    have HE := Lib.hid he
    clear he
    go_enter Try.func57, Try.ntmps57
    go_wp2
    go_end0
    exact ⟨rfl, ((Keep.refl _ _).setCell _ _).setCell _ _, by simp [World.setCell], by rw [if_pos HE.out]; exact (H.out.set2 e1).set3 n1⟩
  · have e0 : (e == 0) = false := beq_eq_false_iff_ne.2 he
    have HE := Lib.hid he
    clear he
    go_enter Try.func57, Try.ntmps57
    go_wp2
    go_end0
    exact ⟨rfl, Keep.refl _ _, rfl, by rw [if_neg HE.out]; exact ⟨rfl, H.out⟩⟩

/-- How many kids a kind has, as the document's answer says it. -/
def kdM (k : Int) : Int := match arM k with | some a => a | none => -2
set_option maxHeartbeats 1600000 in
theorem rKids_any (k : Int) (w : World) : Calls Try.prog 64 #[.int .i8 k] w (Gives (.int .i64 (kdM k)) w) := by
  go_enter Try.func64, Try.ntmps64
  go_wp2
  all_goals
    go_ret
    refine Gives.mk ?_
    simp_all [kdM, arM]

theorem tys_src {w : World} {v : Value} {l : List Ty} (h : Tys w v l) : ∃ A c, v = .slice A l.length c ∧ (0 < l.length → ∃ g, A = some ⟨g, 0, none⟩ ∧ ∀ i u, (strs l)[i]? = some u → w.cell? ⟨g, i, none⟩ = some u) ∧ (l.length = 0 → A = none ∨ ∃ g, A = some ⟨g, 0, none⟩) := by
  rcases h with ⟨rfl, rfl⟩ | ⟨g, c, rfl, hc⟩
  · exact ⟨none, 0, rfl, fun h => absurd h (by simp), fun _ => .inl rfl⟩
  · refine ⟨_, c, rfl, fun _ => ⟨g, rfl, fun i u hu => ?_⟩, fun _ => .inr ⟨g, rfl⟩⟩
    have hi : i < l.length := by have := (List.getElem?_eq_some_iff.1 hu).1; simpa [strs] using this
    rw [hc i hi]
    simpa [strs, hi] using hu
theorem strs_cell (l : List Ty) : ∀ u ∈ strs l, u.oneCell' = true := by
  intro u hu; simp [strs] at hu; obtain ⟨t, _, rfl⟩ := hu; rfl

set_option maxHeartbeats 800000 in
theorem under_any (ev lv : Value) (ns ts : List Ty) (w : World) (hl : Tys w lv ns) (he : Tys w ev ts) (hn : ns.length + ts.length ≤ 100000) :
    Calls Try.prog 69 #[ev, lv] w fun e w' => ∃ v, e = .returned v ∧ w'.ownsRow w.heap.size 9 1 v (ns.length + ts.length) (strs (ns ++ ts)) ∧ Below w.heap.size w w' := by
  obtain ⟨A1, d1, rfl, hA1, hn1⟩ := tys_src hl
  have HE := Lib.hid he
  have H1 := Lib.hid hA1
  have N1 := Lib.hid hn1
  clear hl hA1 hn1
  obtain ⟨EA, ec, rfl⟩ := tys_form he
  clear he
  have h0 := World.ownsRow_nil w w.heap.size 9 1
  go_enter Try.func69, Try.ntmps69
  go_wp2_with (at_builtin; refine append_many rfl (.tmp 6) (.tmp 7) 61 9 rfl w.heap.size _ 16 Try.underlying61 string_info rfl _ _ _ rfl h0 A1 ns.length d1 (strs ns) rfl (by simp [strs]) H1.out (strs_cell ns) (by omega) (by omega) (Nat.le_refl _) N1.out ?_)
  intro v1 w1 ho1 _ hb1
  have HO := Lib.hid ho1
  have HE1 := HE.out.later hb1
  have HB := Lib.hid hb1
  clear ho1 hb1 h0
  obtain ⟨A2, d2, e2, hA2, hn2⟩ := tys_src HE1
  simp only [Value.slice.injEq] at e2
  obtain ⟨rfl, _, rfl⟩ := e2
  have H2 := Lib.hid hA2
  have N2 := Lib.hid hn2
  clear hA2 hn2 HE1
  go_wp2_with (at_builtin; refine append_many rfl (.tmp 9) (.tmp 10) 61 9 rfl w.heap.size _ 16 Try.underlying61 string_info rfl _ _ _ rfl HO.out EA ts.length ec (strs ts) rfl (by simp [strs]) H2.out (strs_cell ts) (by omega) (by omega) HB.out.size N2.out ?_)
  intro v2 w2 ho2 _ hb2
  have HO2 := Lib.hid ho2
  have HB2 := Lib.hid (HB.out.trans hb2)
  clear ho2 hb2
  go_wp2
  go_ret
  exact ⟨_, rfl, by simpa [strs] using HO2.out, HB2.out⟩
theorem under_tys (ev lv : Value) (ns ts : List Ty) (w : World) (hl : Tys w lv ns) (he : Tys w ev ts) (hn : ns.length + ts.length ≤ 100000) :
    Calls Try.prog 69 #[ev, lv] w (PushRes (ns ++ ts) w) :=
  (under_any ev lv ns ts w hl he hn).mono fun e w' ⟨v, h1, h2, h3⟩ => ⟨v, h1, Tys.own h2, h3⟩
end Go.Proofs.Ytnmhiddahfnkoaa
