
/- What the statements of print lean on: no idle program; the same answer on both sides. -/
import Derived.Test.YtacihffkjadbbaaGreatDoorUs
import Derived.Test.YtacihffkjadbbaaGreatDoorTrW
namespace Culp.Pt
set_option linter.unusedSimpArgs false
set_option linter.unusedVariables false
open Culp Culp.Tr
def lS : Nd := ⟨11, 2, 0, ⟨#[]⟩, ⟨#[]⟩, ⟨#[]⟩, 0, 0⟩
def l1 : Nd := ⟨1, 0, 1, ⟨#[]⟩, ⟨#[]⟩, ⟨#[]⟩, 0, 0⟩
def l2 : Nd := ⟨1, 0, 2, ⟨#[]⟩, ⟨#[]⟩, ⟨#[]⟩, 0, 0⟩
def l0 : Nd := ⟨1, 0, 0, ⟨#[]⟩, ⟨#[]⟩, ⟨#[]⟩, 0, 0⟩
def lX : Nd := ⟨4, 0, 0, ⟨#[120]⟩, ⟨#[]⟩, ⟨#[]⟩, 0, 0⟩
def lT : List Nd := [lS, l1, lS, l2, lX]
def lK : F := .cons l1 .nil (.cons lS (.cons l2 .nil (.cons lX .nil .nil)) .nil)
theorem l_eq : lT = lS :: lK.flat := rfl
theorem l_ok : (F.cons lS lK .nil).Ok := ⟨rfl, ⟨rfl, trivial, rfl, ⟨rfl, trivial, rfl, trivial, trivial⟩, trivial⟩, trivial⟩
theorem l_may : ∀ y ∈ lT, may y = true := by
  intro y hy
  simp only [lT, List.mem_cons, List.not_mem_nil, or_false] at hy
  rcases hy with rfl | rfl | rfl | rfl | rfl <;> rfl
theorem l_check : check lT = (0, 0) := by rfl
theorem l_part : part lS lK = [49, 32, 45, 32, 40, 50, 32, 45, 32, 120, 41] := by rfl
def mD : Df := ⟨⟨#[120]⟩, false, ⟨#[105]⟩, [l0], 0, 0⟩
def mM : Md := ⟨⟨#[109]⟩, [], [mD], 0, 0⟩
theorem m_mods : Mo.mods [mM] = 0 := by rfl
theorem m_text : modsT (fun _ => [48]) [mM] = [109, 111, 100, 117, 108, 101, 32, 109, 32, 123, 10, 32, 32, 108, 101, 116, 32, 120, 32, 58, 32, 105, 110, 116, 32, 61, 32, 48, 59, 10, 125, 10] := by rfl
theorem m_good : ∀ m ∈ [mM], GoodM (fun _ => [48]) m := by
  intro m hm
  simp only [List.mem_cons, List.not_mem_nil, or_false] at hm
  subst hm
  refine ⟨by decide, by decide, by decide, by simp [mM], fun d hd => ?_⟩
  simp only [mM, List.mem_cons, List.not_mem_nil, or_false] at hd
  subst hd
  refine ⟨by decide, .inr (by rfl), by decide, fun y hy => ?_, l0, .nil, rfl, ⟨rfl, trivial, trivial⟩, rfl⟩
  simp only [mD, List.mem_cons, List.not_mem_nil, or_false] at hy
  subst hy
  rfl
/-- A text for each tree. -/
theorem texts_of : ∃ g : List Nd → List UInt8, ∀ T, (∃ x ks, T = x :: ks.flat ∧ (F.cons x ks .nil).Ok) → ∃ x ks, T = x :: ks.flat ∧ (F.cons x ks .nil).Ok ∧ g T = part x ks := by
  have : ∀ T : List Nd, ∃ t : List UInt8, (∃ x ks, T = x :: ks.flat ∧ (F.cons x ks .nil).Ok) → ∃ x ks, T = x :: ks.flat ∧ (F.cons x ks .nil).Ok ∧ t = part x ks := by
    intro T
    by_cases h : ∃ x ks, T = x :: ks.flat ∧ (F.cons x ks .nil).Ok
    · obtain ⟨x, ks, h1, h2⟩ := h
      exact ⟨part x ks, fun _ => ⟨x, ks, h1, h2, rfl⟩⟩
    · exact ⟨[], fun h' => absurd h' h⟩
  exact ⟨fun T => (this T).choose, fun T => (this T).choose_spec⟩
theorem mods_trees {L : List Md} (h : Mo.mods L = 0) : ∀ m ∈ L, ∀ d ∈ m.defs, (check d.tree).1 = 0 := by
  unfold Mo.mods at h
  split at h
  · split at h
    · rename_i h0
      intro m hm d hd
      have hE := Mo.firstE_mem h0 (Mo.modE m) (List.mem_map_of_mem hm)
      have hh : Mo.headOk m = true := by
        cases hc : Mo.headOk m with
        | true => rfl
        | false => unfold Mo.modE at hE; rw [hc] at hE; simp at hE
      unfold Mo.modE at hE
      rw [if_pos hh] at hE
      have hD := Mo.firstE_mem hE (Mo.defE d) (List.mem_map_of_mem hd)
      unfold Mo.defE at hD
      split at hD
      · exact hD
      · cases hD
    · rename_i h0
      exact absurd h h0
  · cases h
end Culp.Pt
namespace Go.Proofs.YtacihffkjadbbaaGreatDoor
set_option linter.unusedSimpArgs false
set_option linter.unusedVariables false
open Go.RowKit Go.Maps Culp
theorem outV_form (s : List UInt8) : ∃ (a : ByteArray) (e : Nat), outV s = .tuple #[.string a, .int .i64 e] := by
  unfold outV
  split
  · exact ⟨_, 10, rfl⟩
  · exact ⟨_, 0, rfl⟩
theorem mods_same (L : List Md) (hl : L.length ≤ 1000000000000000) (hz : ∀ m ∈ L, MdSz m) : ∃ (a : ByteArray) (e : Nat), (∀ v w, Mods w v L → Sp w → Pw w → Calls Tryz.prog 19 #[v] w (Makes (.tuple #[.string a, .int .i64 e]) w)) ∧ ∀ v w, Mods w v L → Calls Tryz.prog 20 #[v] w (Makes (.tuple #[.string a, .int .i64 e]) w) := by
  by_cases hc : Mo.mods L = 0
  · obtain ⟨g, hg⟩ := Pt.texts_of
    obtain ⟨h8, hG⟩ := Pt.good_of hc g (fun m hm d hd => hg _ (by obtain ⟨_, x, ks, h1, h2, _⟩ := Tr.F.of_check (Pt.mods_trees hc m hm d hd); exact ⟨x, ks, h1, h2⟩))
    obtain ⟨a, e, h⟩ := outV_form (Pt.modsT g L)
    exact ⟨a, e, fun v w hL hS hP => by rw [← h]; exact pModules_ok g L v w hL hS hP hl hz hc h8 hG, fun v w hL => by rw [← h]; exact rpModules_ok g L v w hL hl hz hc h8 hG⟩
  · exact ⟨⟨#[]⟩, Mo.mods L, fun v w hL hS _ => pModules_bad L v w hL hS hl hz hc, fun v w hL => rpModules_bad L v w hL hl hz hc⟩
theorem exprs_same (T : List Nd) (hz : ∀ x ∈ T, x.s.size ≤ 140737488351232 ∧ x.n ≤ 9223372036854775807) (hk : ∀ x ∈ T, x.kids ≤ 9223372036854775807) : ∃ (a : ByteArray) (e : Nat), (∀ v w, Nodes w v T → Sp w → Pw w → Calls Tryz.prog 15 #[v] w (Makes (.tuple #[.string a, .int .i64 e]) w)) ∧ ∀ v w, Nodes w v T → Sp w → Calls Tryz.prog 16 #[v] w (Makes (.tuple #[.string a, .int .i64 e]) w) := by
  by_cases hc : (Tr.check T).1 = 0
  · obtain ⟨hl, x, ks, he, hO, hm, hh⟩ := Tr.F.of_check hc
    have hc0 : Tr.check T = (0, 0) := by rw [he]; exact Tr.F.check_one (by rw [← he]; exact hl) hO (by rw [← he]; exact hm) hh
    obtain ⟨a, e, h⟩ := outV_form (Pt.part x ks)
    exact ⟨a, e, fun v w hn hS hP => by rw [← h]; exact pExpr_ok T v w hn hS hP hz hk hc0 hl x ks he hO hm, fun v w hn _ => by rw [← h]; exact rpExpr_ok T v w hn hz hk hc0 hl x ks he hO hm⟩
  · exact ⟨⟨#[]⟩, (Tr.check T).1, fun v w hn hS _ => pExpr_bad T v w hn hS (fun x hx => (hz x hx).1) hk hc, fun v w hn hS => rpExpr_bad T v w hn hS (fun x hx => (hz x hx).1) hk hc⟩
/-- A row of one struct that was just laid. -/
theorem rows_one {α : Type} {sz : Nat} {R : World → α → List Value → Prop} (w : World) (x : α) (cs : List Value) (t : TypeId) (g : Nat) (hg : w.heap.size = g) (hR : R (w.alloc (.cells cs.toArray t)) x cs) (hl : cs.length = sz) : RowsV sz R (w.alloc (.cells cs.toArray t)) (.slice (some ⟨g, 0, none⟩) 1 1) [x] := by
  subst hg
  refine ⟨_, 1, rfl, by simp, fun _ => ⟨w.heap.size, 0, rfl, fun i y hy => ?_⟩⟩
  have hi : i = 0 := by have := (List.getElem?_eq_some_iff.1 hy).1; simp at this; omega
  subst hi
  simp at hy
  subst hy
  refine ⟨cs, hR, hl, fun j u hu => ?_⟩
  simp only [Nat.zero_mul, Nat.zero_add]
  rw [World.cell?_alloc_at _ _ _ _ rfl]
  simpa using hu
theorem m_lies (w : World) : Mods (((w.alloc (.cells #[.int .i8 1, .int .i64 0, .int .i64 0, .string ⟨#[]⟩, .string ⟨#[]⟩, .string ⟨#[]⟩, .int .i64 0, .int .i64 0] 41)).alloc (.cells #[.string ⟨#[120]⟩, .bool false, .string ⟨#[105]⟩, .slice (some ⟨w.heap.size, 0, none⟩) 1 1, .int .i64 0, .int .i64 0] 60)).alloc (.cells #[.string ⟨#[109]⟩, .slice none 0 0, .slice (some ⟨w.heap.size + 1, 0, none⟩) 1 1, .int .i64 0, .int .i64 0] 55)) (.slice (some ⟨w.heap.size + 1 + 1, 0, none⟩) 1 1) [Pt.mM] := by
  refine rows_one _ Pt.mM _ _ _ (by simp) ?_ rfl
  refine ⟨.slice none 0 0, .slice (some ⟨w.heap.size + 1, 0, none⟩) 1 1, rfl, RowsV.nil, ?_⟩
  have hd : Defs ((w.alloc (.cells #[.int .i8 1, .int .i64 0, .int .i64 0, .string ⟨#[]⟩, .string ⟨#[]⟩, .string ⟨#[]⟩, .int .i64 0, .int .i64 0] 41)).alloc (.cells #[.string ⟨#[120]⟩, .bool false, .string ⟨#[105]⟩, .slice (some ⟨w.heap.size, 0, none⟩) 1 1, .int .i64 0, .int .i64 0] 60)) (.slice (some ⟨w.heap.size + 1, 0, none⟩) 1 1) [Pt.mD] := by
    refine rows_one _ Pt.mD _ _ _ (by simp) ?_ rfl
    exact ⟨.slice (some ⟨w.heap.size, 0, none⟩) 1 1, rfl, (lit_nodes w [Pt.l0] _ _ rfl).later ((Below.refl _ _).alloc (Nat.le_refl _) _)⟩
  exact hd.later ((Below.refl _ _).alloc (Nat.le_refl _) _)
theorem m_size : ∀ m ∈ [Pt.mM], MdSz m := by
  intro m hm
  simp only [List.mem_cons, List.not_mem_nil, or_false] at hm
  subst hm
  refine ⟨by decide, ⟨by decide, by simp [Pt.mM]⟩, by decide, fun d hd => ?_⟩
  simp only [Pt.mM, List.mem_cons, List.not_mem_nil, or_false] at hd
  subst hd
  refine ⟨by decide, by decide, by decide, fun y hy => ?_, fun y hy => ?_⟩
  all_goals
    simp only [Pt.mD, List.mem_cons, List.not_mem_nil, or_false] at hy
    subst hy
  · exact ⟨by decide, by decide, by decide, by decide⟩
  · decide
set_option maxRecDepth 100000 in
set_option maxHeartbeats 3200000 in
theorem pworks_any (w : World) (hS : Sp w) (hP : Pw w) : Calls Tryz.prog 13 #[] w (Makes (.bool true) w) := by
  have HS := Lib.hid hS
  have HP := Lib.hid hP
  have hb1 : ∀ cs, Below w.heap.size w (w.alloc (.cells cs 41)) := fun cs => (Below.refl _ _).alloc (Nat.le_refl _) _
  have HB1 := Lib.hid hb1
  have HN1 := Lib.hid (lit_nodes w Pt.lT (Pt.lT.flatMap Nd.cells).toArray 41 rfl)
  clear hS hP hb1
  go_enter Tryz.func13, Tryz.ntmps13
  go_wp2_with fail
  refine (pExpr_ok Pt.lT _ _ HN1.out (HS.out.later (HB1.out _)) (HP.out.later (HB1.out _) HP.out.lt) (by decide) (by decide) Pt.l_check (by decide) Pt.lS Pt.lK Pt.l_eq Pt.l_ok Pt.l_may).mono ?_
  rw [Pt.l_part]
  rintro e w2 ⟨rfl, hb2⟩
  have HB2 := Lib.hid (below_later hb2 (HB1.out _))
  clear hb2
  rw [show outV [49, 32, 45, 32, 40, 50, 32, 45, 32, 120, 41] = .tuple #[.string ⟨#[49, 32, 45, 32, 40, 50, 32, 45, 32, 120, 41]⟩, .int .i64 0] from rfl]
  have hb3 := ((Below.refl w2.heap.size w2).alloc (Nat.le_refl _) (.cells #[.int .i8 1, .int .i64 0, .int .i64 0, .string ⟨#[]⟩, .string ⟨#[]⟩, .string ⟨#[]⟩, .int .i64 0, .int .i64 0] 41)).alloc (by simp) (.cells #[.string ⟨#[120]⟩, .bool false, .string ⟨#[105]⟩, .slice (some ⟨w2.heap.size, 0, none⟩) 1 1, .int .i64 0, .int .i64 0] 60)
  have hb4 := hb3.alloc (by simp; omega) (.cells #[.string ⟨#[109]⟩, .slice none 0 0, .slice (some ⟨w2.heap.size + 1, 0, none⟩) 1 1, .int .i64 0, .int .i64 0] 55)
  have HB4 := Lib.hid (below_later hb4 HB2.out)
  have HM := Lib.hid (m_lies w2)
  clear hb3 hb4
  go_wp2_with fail
  refine (pModules_ok (fun _ => [48]) [Pt.mM] _ _ HM.out (HS.out.later HB4.out) (HP.out.later HB4.out HP.out.lt) (by decide) m_size Pt.m_mods (by decide) Pt.m_good).mono ?_
  rw [Pt.m_text]
  rintro e w5 ⟨rfl, hb5⟩
  have HB5 := Lib.hid (below_later hb5 HB4.out)
  clear hb5
  rw [show outV [109, 111, 100, 117, 108, 101, 32, 109, 32, 123, 10, 32, 32, 108, 101, 116, 32, 120, 32, 58, 32, 105, 110, 116, 32, 61, 32, 48, 59, 10, 125, 10] = .tuple #[.string ⟨#[109, 111, 100, 117, 108, 101, 32, 109, 32, 123, 10, 32, 32, 108, 101, 116, 32, 120, 32, 58, 32, 105, 110, 116, 32, 61, 32, 48, 59, 10, 125, 10]⟩, .int .i64 0] from rfl]
  go_wp2_with fail
  refine (pExpr_bad [] (.slice none 0 0) _ ⟨none, 0, rfl, Nat.le_refl _, fun h => absurd h (Nat.lt_irrefl _)⟩ (HS.out.later HB5.out) (by simp) (by simp) (by decide)).mono ?_
  rintro e w6 ⟨rfl, hb6⟩
  have HB6 := Lib.hid (below_later hb6 HB5.out)
  clear hb6
  rw [show badV (Tr.check []).1 = .tuple #[.string ⟨#[]⟩, .int .i64 17] from rfl]
  go_wp2_with fail
  go_ret
  exact Makes.mk rfl HB6.out
set_option maxRecDepth 100000 in
set_option maxHeartbeats 6400000 in
theorem printexprs_walk (T : List Nd) (tv : Value) (w : World) (hn : Nodes w tv T) (hS : Sp w) (hP : Pw w) (hT : T.length ≤ 1000000000000000) (hz : ∀ x ∈ T, x.s.size ≤ 140737488351232 ∧ x.n ≤ 9223372036854775807) (hk : ∀ x ∈ T, x.kids ≤ 9223372036854775807) :
    Calls Tryz.prog 4 #[tv] w (Makes (.bool true) w) := by
  obtain ⟨a, en, hp, hr⟩ := exprs_same T hz hk
  have HEP := Lib.hid hp
  have HER := Lib.hid hr
  have HN := Lib.hid hn
  have HS := Lib.hid hS
  have HP := Lib.hid hP
  obtain ⟨A, c, rfl, -⟩ := hn
  clear hS hP hz hk hp hr
  go_enter Tryz.func4, Tryz.ntmps4
  go_wp2_with fail
  refine (pworks_any _ HS.out HP.out).mono ?_
  rintro e w1 ⟨rfl, hb1⟩
  have HB1 := Lib.hid hb1
  clear hb1
  by_cases hbig : 500 < T.length
  · go_wp2_with fail
    go_ret
    exact Makes.mk rfl HB1.out
  have hlen : T.length ≤ 500 := by omega
  go_wp2_with fail
  refine (WideNodes_any T _ _ (HN.out.later HB1.out) (by omega)).mono ?_
  rintro e w3 ⟨g, rfl, hw3, hb3⟩
  have HB3 := Lib.hid (below_later hb3 HB1.out)
  have HW3 := Lib.hid hw3
  clear hw3 hb3
  go_wp2_with fail
  refine (HEP.out _ _ (wide_nodes HW3.out) (HS.out.later HB3.out) (HP.out.later HB3.out HP.out.lt)).mono ?_
  rintro e w4 ⟨rfl, hb4⟩
  have HB4 := Lib.hid (below_later hb4 HB3.out)
  have HW4 := Lib.hid (HW3.out.later hb4)
  clear hb4
  go_wp2_with fail
  refine (HER.out _ _ (HN.out.later HB4.out) (HS.out.later HB4.out)).mono ?_
  rintro e w5 ⟨rfl, hb5⟩
  have HB5 := Lib.hid (below_later hb5 HB4.out)
  have HW5 := Lib.hid (HW4.out.later hb5)
  clear hb5
  go_wp2_with fail
  refine (EqNodes_same T _ _ _ (wide_nodes HW5.out) (HN.out.later HB5.out) (by omega)).mono ?_
  rintro e w6 ⟨rfl, hb6⟩
  have HB6 := Lib.hid (below_later hb6 HB5.out)
  have HW6 := Lib.hid (HW5.out.later hb6)
  clear hb6
  go_wp2_with fail
  refine (SpareNodes_any T g _ HW6.out (by omega)).mono ?_
  rintro e w7 ⟨rfl, hb7⟩
  have HB7 := Lib.hid (below_later hb7 HB6.out)
  clear hb7
  go_wp2_with fail
  go_ret
  exact Makes.mk rfl HB7.out
end Go.Proofs.YtacihffkjadbbaaGreatDoor
