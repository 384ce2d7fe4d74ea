
/- Walks of trees: likeness of a list and itself. -/
import Derived.Test.YtdobaililmkkcaaDoorTrO
namespace Go.Proofs.YtdobaililmkkcaaDoor
set_option linter.unusedSimpArgs false
set_option linter.unusedVariables false
open Go.RowKit Go.Maps Culp

end Go.Proofs.YtdobaililmkkcaaDoor

/- Walks of trees: the free names of a known list. -/
namespace Culp.Tr
/-- A sum of a number and a name. -/
def l3 : List Nd := [⟨10, 2, 0, ⟨#[]⟩, ⟨#[]⟩, ⟨#[]⟩, 0, 0⟩, ⟨1, 0, 1, ⟨#[]⟩, ⟨#[]⟩, ⟨#[]⟩, 0, 0⟩, ⟨4, 0, 0, ⟨#[120]⟩, ⟨#[]⟩, ⟨#[]⟩, 0, 0⟩]
theorem kids0 : kidsOf l3 0 = [1, 2] := by rfl
theorem kids1 : kidsOf l3 1 = [] := by rfl
theorem kids2 : kidsOf l3 2 = [] := by rfl
theorem check3 : check l3 = (0, 0) := by rfl
end Culp.Tr
namespace Go.Proofs.YtdobaililmkkcaaDoor
open Go.RowKit Go.Maps Culp

theorem strings_info : (Tryd.prog.info? 9).map (fun i => (i.zero, i.size, i.bytes)) = some (some (.string ByteArray.empty), 1, 16) := by kernel_rfl
theorem One.later {a : Nat} {t : TypeId} {v : Value} {w w' : World} (h : One a t v w) (hb : Below w.heap.size w w') : One a t v w' := (hb.block a (Array.getElem?_eq_some_iff.1 h).1).trans h
/-- What the closure leaves: the one name. -/
def FreeRes (a : Nat) (w : World) (e : Ending) (w' : World) : Prop := e = .returned (.tuple #[]) ∧ Keep a w w' ∧ ∃ g cap, One a 22 (.slice (some ⟨g, 0, none⟩) 1 cap) w' ∧ w'.cell? ⟨g, 0, none⟩ = some (.string ⟨#[120]⟩)
set_option maxRecDepth 100000 in
theorem add_first (a : Nat) (w : World) (hO : One a 22 (.slice none 0 0) w) :
    Calls Tryd.prog 28 #[.string ⟨#[120]⟩, .pointer (some ⟨a, 0, none⟩)] w (FreeRes a w) := by
  have c0 := hO.cell
  have f0 := hO.free
  have hal : a < w.heap.size := (Array.getElem?_eq_some_iff.1 hO).1
  have HO := Lib.hid hO
  clear hO
  go_enter Tryd.func28, Tryd.ntmps28
  go_wp2_with fail
  go_loopw [7] (fun i wr => i = .int .i64 0 ∧ w = wr) (fun _ _ => 0)
  case atStart => exact ⟨rfl, rfl⟩
  case round =>
    obtain ⟨rfl, rfl⟩ := hrel
    have own4 := World.ownsRow_nil w w.heap.size 9 1
    go_wp2_with (at_builtin; refine append_agg rfl (.tmp 15) (.tmp 17) 22 9 rfl w.heap.size _ 1 16 Tryd.underlying22 strings_info rfl (by decide) _ _ _ rfl own4 [.string ⟨#[120]⟩] rfl w.heap.size rfl rfl ?_ ?_ ?_ ?_ ?_)
    · first
        | rfl
        | (intro y hy; simp only [List.mem_cons, List.not_mem_nil, or_false] at hy; subst hy; rfl)
    · omega
    · omega
    · exact Nat.le_refl _
    intro v' w5 hown' hg' hb'
    obtain ⟨g, cap, rfl, hbg, _, _, _, hcg⟩ := own_read hown' (by omega)
    have hx0 := hcg 0 _ rfl
    have hO5 := HO.out.later hb'
    have c5 := hO5.cell
    have f5 := hO5.free
    have hne : g ≠ a := by omega
    have hO6 := hO5.put (.slice (some ⟨g, 0, none⟩) (0 + 1) cap)
    have hk : Keep a w (w5.setCell ⟨a, 0, none⟩ (.slice (some ⟨g, 0, none⟩) (0 + 1) cap)) := (Keep.of hb').setCell 0 _
    have hx1 : (w5.setCell ⟨a, 0, none⟩ (.slice (some ⟨g, 0, none⟩) (0 + 1) cap)).cell? ⟨g, 0, none⟩ = some (.string ⟨#[120]⟩) := by
      rw [World.cell?_of_block (w := w5) (Below.heap_setCell _ _ _ _ (by simpa using hne))]
      exact hx0
    have HR : Hid (FreeRes a w (.returned (.tuple #[])) (w5.setCell ⟨a, 0, none⟩ (.slice (some ⟨g, 0, none⟩) (0 + 1) cap))) := Lib.hid ⟨rfl, hk, g, cap, hO6, hx1⟩
    clear hown' hg' hb' hcg hO5 hO6 hk hx0 hx1 own4
    go_wp2_with fail
    exact bodyPost_end (v := .tuple #[]) (by simp [results, Tryd.results28, go_sem]) rfl HR.out
set_option maxRecDepth 100000 in
theorem free_num (tv bv av : Value) (w : World) (hn : Nodes w tv Tr.l3) : Calls Tryd.prog 27 #[tv, .int .i64 1, bv, av] w (Makes (.tuple #[]) w) := by
  have HN := Lib.hid hn
  have HKD := Lib.hid (fun w' (hb : Below w.heap.size w w') => tKids_any Tr.l3 tv 1 w' (hn.later hb) (by decide))
  obtain ⟨A, c, rfl, hlc, hN⟩ := hn
  obtain ⟨b, off, rfl, hM⟩ := hN (by decide)
  obtain ⟨n0, n1, n2, n3, n4, n5, n6, n7⟩ := hM.at_ (i := 1) rfl
  have HB : Hid (Below w.heap.size w (w.alloc (.cells #[.int .i8 1, .int .i64 0, .int .i64 1, .string ⟨#[]⟩, .string ⟨#[]⟩, .string ⟨#[]⟩, .int .i64 0, .int .i64 0] 32))) := Lib.hid ((Below.refl _ _).alloc (Nat.le_refl _) _)
  clear hM hN
  have HC : Hid ((w.alloc (.cells #[.int .i8 1, .int .i64 0, .int .i64 1, .string ⟨#[]⟩, .string ⟨#[]⟩, .string ⟨#[]⟩, .int .i64 0, .int .i64 0] 32)).cell? ⟨w.heap.size, 0, none⟩ = some (.int .i8 1)) := Lib.hid (World.cell?_alloc_at _ _ _ _ rfl)
  go_enter Tryd.func27, Tryd.ntmps27
  go_wp2_with fail
  refine (HKD.out _ HB.out).mono ?_
  rintro e w2 ⟨v, rfl, hown, hb2⟩
  rw [Tr.kids1] at hown
  obtain ⟨A3, c3, rfl⟩ := own_shape hown
  have k0 := cell_later hb2 HC.out
  have HB2 := Lib.hid (below_later hb2 HB.out)
  clear hown hb2 n0 n1 n2 n3 n4 n5 n6 n7
  rw [List.length_nil]
  go_wp2_with fail
  go_loopw [25] (fun i wr => i = .int .i64 0 ∧ w2 = wr) (fun _ _ => 0)
  case atStart => exact ⟨rfl, rfl⟩
  case round =>
    obtain ⟨rfl, rfl⟩ := hrel
    go_wp2_with fail
    exact bodyPost_end (v := .tuple #[]) (by simp [results, Tryd.results27, go_sem]) rfl (Makes.mk rfl HB2.out)
set_option maxRecDepth 100000 in
theorem free_var (tv : Value) (a : Nat) (w : World) (hn : Nodes w tv Tr.l3) (hO : One a 22 (.slice none 0 0) w) : Calls Tryd.prog 27 #[tv, .int .i64 2, .slice none 0 0, .func (.func 28) #[] #[.pointer (some ⟨a, 0, none⟩)]] w (FreeRes a w) := by
  have HKD := Lib.hid (fun w' (hb : Below w.heap.size w w') => tKids_any Tr.l3 tv 2 w' (hn.later hb) (by decide))
  have HO := Lib.hid hO
  obtain ⟨A, c, rfl, hlc, hN⟩ := hn
  obtain ⟨b, off, rfl, hM⟩ := hN (by decide)
  obtain ⟨n0, n1, n2, n3, n4, n5, n6, n7⟩ := hM.at_ (i := 2) rfl
  have HB : Hid (Below w.heap.size w (w.alloc (.cells #[.int .i8 4, .int .i64 0, .int .i64 0, .string ⟨#[120]⟩, .string ⟨#[]⟩, .string ⟨#[]⟩, .int .i64 0, .int .i64 0] 32))) := Lib.hid ((Below.refl _ _).alloc (Nat.le_refl _) _)
  have HC : Hid ((w.alloc (.cells #[.int .i8 4, .int .i64 0, .int .i64 0, .string ⟨#[120]⟩, .string ⟨#[]⟩, .string ⟨#[]⟩, .int .i64 0, .int .i64 0] 32)).cell? ⟨w.heap.size, 0, none⟩ = some (.int .i8 4)) := Lib.hid (World.cell?_alloc_at _ _ _ _ rfl)
  have HC3 : Hid ((w.alloc (.cells #[.int .i8 4, .int .i64 0, .int .i64 0, .string ⟨#[120]⟩, .string ⟨#[]⟩, .string ⟨#[]⟩, .int .i64 0, .int .i64 0] 32)).cell? ⟨w.heap.size, 3, none⟩ = some (.string ⟨#[120]⟩)) := Lib.hid (World.cell?_alloc_at _ _ _ _ rfl)
  clear hM hN hO
  go_enter Tryd.func27, Tryd.ntmps27
  go_wp2_with fail
  refine (HKD.out _ HB.out).mono ?_
  rintro e w2 ⟨v, rfl, hown, hb2⟩
  rw [Tr.kids2] at hown
  obtain ⟨A3, c3, rfl⟩ := own_shape hown
  have k0 := cell_later hb2 HC.out
  have k3 := cell_later hb2 HC3.out
  have HB2 := Lib.hid (below_later hb2 HB.out)
  have HO2 := Lib.hid ((HO.out.later HB.out).later hb2)
  clear hown hb2 n0 n1 n2 n3 n4 n5 n6 n7
  rw [List.length_nil]
  go_wp2_with fail
  go_loopw [39] (fun i wr => i = .int .i64 0 ∧ w2 = wr) (fun _ _ => 0)
  case atStart => exact ⟨rfl, rfl⟩
  case round =>
    obtain ⟨rfl, rfl⟩ := hrel
    go_wp2_with fail
    refine (add_first a _ HO2.out).mono ?_
    rintro e w3 ⟨rfl, hk, hr⟩
    have HR : Hid (FreeRes a w (.returned (.tuple #[])) w3) := Lib.hid ⟨rfl, (Keep.of HB2.out).trans hk, hr⟩
    clear hk hr
    go_wp2_with fail
    exact bodyPost_end (v := .tuple #[]) (by simp [results, Tryd.results27, go_sem]) rfl HR.out
set_option maxRecDepth 100000 in
set_option maxHeartbeats 1600000 in
theorem free_add (tv : Value) (a : Nat) (w : World) (hn : Nodes w tv Tr.l3) (hO : One a 22 (.slice none 0 0) w) : Calls Tryd.prog 27 #[tv, .int .i64 0, .slice none 0 0, .func (.func 28) #[] #[.pointer (some ⟨a, 0, none⟩)]] w (FreeRes a w) := by
  have HN := Lib.hid hn
  have HKD := Lib.hid (fun w' (hb : Below w.heap.size w w') => tKids_any Tr.l3 tv 0 w' (hn.later hb) (by decide))
  have HO := Lib.hid hO
  obtain ⟨A, c, rfl, hlc, hN⟩ := hn
  obtain ⟨b, off, rfl, hM⟩ := hN (by decide)
  obtain ⟨n0, n1, n2, n3, n4, n5, n6, n7⟩ := hM.at_ (i := 0) rfl
  rw [Nat.zero_mul, Nat.add_zero] at n0 n1 n2 n3 n4 n5 n6 n7
  have HB : Hid (Below w.heap.size w (w.alloc (.cells #[.int .i8 10, .int .i64 2, .int .i64 0, .string ⟨#[]⟩, .string ⟨#[]⟩, .string ⟨#[]⟩, .int .i64 0, .int .i64 0] 32))) := Lib.hid ((Below.refl _ _).alloc (Nat.le_refl _) _)
  have HC : Hid ((w.alloc (.cells #[.int .i8 10, .int .i64 2, .int .i64 0, .string ⟨#[]⟩, .string ⟨#[]⟩, .string ⟨#[]⟩, .int .i64 0, .int .i64 0] 32)).cell? ⟨w.heap.size, 0, none⟩ = some (.int .i8 10)) := Lib.hid (World.cell?_alloc_at _ _ _ _ rfl)
  clear hM hN hO
  go_enter Tryd.func27, Tryd.ntmps27
  go_wp2_with fail
  refine (HKD.out _ HB.out).mono ?_
  rintro e w2 ⟨v, rfl, hown, hb2⟩
  rw [Tr.kids0] at hown
  obtain ⟨g, cap, rfl, h0, h1⟩ := own_two hown rfl
  have k0 := cell_later hb2 HC.out
  have HB2 := Lib.hid (below_later hb2 HB.out)
  have HO2 := Lib.hid ((HO.out.later HB.out).later hb2)
  have H0 := Lib.hid h0
  have H1 := Lib.hid h1
  clear hown hb2 n0 n1 n2 n3 n4 n5 n6 n7 h0 h1
  go_wp2_with fail
  go_loopw [25] (fun i wr => (i = .int .i64 0 ∧ Hid (Below w2.heap.size w2 wr)) ∨ (i = .int .i64 1 ∧ Hid (Below w2.heap.size w2 wr)) ∨ (i = .int .i64 2 ∧ Hid (FreeRes a w (.returned (.tuple #[])) wr))) (fun i _ => 2 - (intOf i).toNat)
  case atStart => exact .inl ⟨rfl, Lib.hid (Below.refl _ _)⟩
  case round =>
    rcases hrel with ⟨rfl, HBr⟩ | ⟨rfl, HBr⟩ | ⟨rfl, HR⟩
    · have m0 : wr.cell? ⟨g, 0, none⟩ = some (.int .i64 1) := cell_later HBr.out H0.out
      go_wp2_with fail
      refine (free_num _ _ _ _ (HN.out.later (below_later HBr.out HB2.out))).mono ?_
      rintro e w3 ⟨rfl, hb3⟩
      have HB3 := Lib.hid (below_later hb3 HBr.out)
      clear hb3
      go_wp2_with fail
      go_roundw
      case rel => exact .inr (.inl ⟨rfl, HB3⟩)
      case measure => simp [intOf]
    · have m0 : wr.cell? ⟨g, 1, none⟩ = some (.int .i64 2) := cell_later HBr.out H1.out
      go_wp2_with fail
      refine (free_var _ a _ (HN.out.later (below_later HBr.out HB2.out)) (HO2.out.later HBr.out)).mono ?_
      rintro e w3 ⟨rfl, hk, hr⟩
      have HR : Hid (FreeRes a w (.returned (.tuple #[])) w3) := Lib.hid ⟨rfl, (Keep.of (below_later HBr.out HB2.out)).trans hk, hr⟩
      clear hk hr
      go_wp2_with fail
      go_roundw
      case rel => exact .inr (.inr ⟨rfl, HR⟩)
      case measure => simp [intOf]
    · go_wp2_with fail
      exact bodyPost_end (v := .tuple #[]) (by simp [results, Tryd.results27, go_sem]) rfl HR.out
/-- What Free answers there. -/
def NameRes (w : World) (e : Ending) (w' : World) : Prop := ∃ g cap, e = .returned (.slice (some ⟨g, 0, none⟩) 1 cap) ∧ w'.cell? ⟨g, 0, none⟩ = some (.string ⟨#[120]⟩) ∧ Below w.heap.size w w'
set_option maxRecDepth 100000 in
theorem Free_three (tv : Value) (w : World) (hn : Nodes w tv Tr.l3) (hS : Sp w) : Calls Tryd.prog 15 #[tv] w (NameRes w) := by
  have hmf : ∀ (fn : Fn) (first cap : Array Value) (w : World), (Instr.makeFunc fn first cap).run Tryd.prog w = .ok (.func fn first cap) w := fun _ _ _ _ => rfl
  have HN := Lib.hid hn
  have HCK := Lib.hid (tCheck_any Tr.l3 tv w hn hS (by decide) (by decide))
  rw [Tr.check3] at HCK
  go_enter Tryd.func15, Tryd.ntmps15
  go_wp2_with fail
  refine HCK.out.mono ?_
  rintro e w1 ⟨rfl, hb1⟩
  have HB1 := Lib.hid hb1
  have hb2 : Below w1.heap.size w1 (w1.alloc (.cells #[.slice none 0 0] 22)) := (Below.refl _ _).alloc (Nat.le_refl _) _
  have HB2 := Lib.hid (below_later hb2 HB1.out)
  have HO := Lib.hid (one_alloc w1 22 (.slice none 0 0))
  clear hb1 hb2 HCK
  go_wp2_with fail
  refine (free_add tv w1.heap.size _ (HN.out.later HB2.out) HO.out).mono ?_
  rintro e w3 ⟨rfl, hk, g, cap, hO3, hc3⟩
  have q0 := hO3.cell
  have HF : Hid (NameRes w (.returned (.slice (some ⟨g, 0, none⟩) 1 cap)) w3) := Lib.hid ⟨g, cap, rfl, hc3, by
    have hs := HB1.out.size
    have h2 := HB2.out
    exact ⟨hk.os.trans h2.os, hk.tape.trans h2.tape, hk.output.trans h2.output, Nat.le_trans h2.size hk.size, fun j hj => (hk.block j (Nat.lt_of_lt_of_le hj h2.size) (by omega)).trans (h2.block j hj)⟩⟩
  clear hk hO3 hc3
  go_wp2_with fail
  go_ret
  exact HF.out
end Go.Proofs.YtdobaililmkkcaaDoor

/- Walks of trees: no idle program. -/
namespace Culp.Tr
/-- A sign before a number that may not be. -/
def l2 : List Nd := [⟨16, 1, 0, ⟨#[]⟩, ⟨#[]⟩, ⟨#[]⟩, 0, 0⟩, ⟨1, 0, -1, ⟨#[]⟩, ⟨#[]⟩, ⟨#[]⟩, 0, 0⟩]
theorem check2 : check l2 = (18, 1) := by rfl
theorem behind3 : behind l3 0 = 3 := by rfl
theorem deep3 : deepOf l3 = 2 := by rfl
end Culp.Tr
namespace Go.Proofs.YtdobaililmkkcaaDoor
open Go.RowKit Go.Maps Culp

/-- Nodes that were just laid. -/
theorem lit_nodes (w : World) (T : List Nd) (cs : Array Value) (t : TypeId) (h : cs = (T.flatMap Nd.cells).toArray) : Nodes (w.alloc (.cells cs t)) (.slice (some ⟨w.heap.size, 0, none⟩) T.length T.length) T := by
  subst h
  refine ⟨_, _, rfl, Nat.le_refl _, fun _ => ⟨w.heap.size, 0, rfl, fun i x hx j u hu => ?_⟩⟩
  rw [Nat.zero_add, World.cell?_alloc_at _ _ _ _ rfl]
  have : ∀ (T : List Nd) (i : Nat), T[i]? = some x → (T.flatMap Nd.cells)[i * 8 + j]? = some u := by
    intro T
    induction T with
    | nil => intro i h; simp at h
    | cons y T ih =>
      intro i h
      have hj : j < 8 := by have := (List.getElem?_eq_some_iff.1 hu).1; simpa [Nd.cells] using this
      cases i with
      | zero =>
        simp at h; subst h
        rw [List.flatMap_cons, Nat.zero_mul, Nat.zero_add, List.getElem?_append_left (by simpa [Nd.cells] using hj)]
        exact hu
      | succ i =>
        have h8 : y.cells.length = 8 := rfl
        rw [List.flatMap_cons, List.getElem?_append_right (by rw [h8]; omega), h8, show (i + 1) * 8 + j - 8 = i * 8 + j by omega]
        exact ih i (by simpa using h)
  simpa using this T i hx
end Go.Proofs.YtdobaililmkkcaaDoor
