
/- Walks of trees: likeness of a list and itself. -/
import Derived.Test.YtebameiaeldfiaaGreatDoorTrO
namespace Go.Proofs.YtebameiaeldfiaaGreatDoor
set_option linter.unusedSimpArgs false
set_option linter.unusedVariables false
open Go.RowKit Go.Maps Culp

set_option maxRecDepth 100000 in
set_option maxHeartbeats 1600000 in
theorem Equal_same (T : List Nd) (tv uv : Value) (w : World) (hn : Nodes w tv T) (hu : Nodes w uv T) (hT : T.length ≤ 100000000000) :
    Calls Tryz.prog 25 #[tv, uv] w (Makes (.bool true) w) := by
  have HN := Lib.hid hn
  have HU := Lib.hid hu
  obtain ⟨A, c, rfl, hlc, _⟩ := hn
  obtain ⟨B, d, rfl, hld, _⟩ := hu
  go_enter Tryz.func25, Tryz.ntmps25
  go_wp2_with fail
  go_loopw [14] (fun i wr => ∃ k : Nat, k ≤ T.length ∧ i = .int .i64 k ∧ Hid (Below w.heap.size w wr)) (fun i _ => T.length - (intOf i).toNat)
  case atStart => exact ⟨0, Nat.zero_le _, rfl, Lib.hid (Below.refl _ _)⟩
  case round =>
    obtain ⟨k, hk, rfl, HB⟩ := hrel
    by_cases hlt : k < T.length
    · obtain ⟨A2, c2, e2, _, hN⟩ := HN.out.later HB.out
      simp only [Value.slice.injEq] at e2
      obtain ⟨rfl, _, rfl⟩ := e2
      obtain ⟨b, off, rfl, hM⟩ := hN (by omega)
      obtain ⟨B2, d2, e3, _, hN2⟩ := HU.out.later HB.out
      simp only [Value.slice.injEq] at e3
      obtain ⟨rfl, _, rfl⟩ := e3
      obtain ⟨b2, off2, rfl, hM2⟩ := hN2 (by omega)
      have hx : T[k]? = some T[k] := List.getElem?_eq_getElem hlt
      obtain ⟨n0, n1, n2, n3, n4, n5, n6, n7⟩ := hM.at_ hx
      obtain ⟨q0, q1, q2, q3, q4, q5, q6, q7⟩ := hM2.at_ hx
      generalize T[k] = x at *
      have hl2 : b2 < wr.heap.size := World.block_lt_of_cell? _ _ q0
      clear hx hN hM hN2 hM2
      have HBX : Hid (Box wr.heap.size x (wr.alloc (.cells #[.int .i8 x.kind, .int .i64 x.kids, .int .i64 x.n, .string x.s, .string x.t, .string x.u, .int .i64 x.line, .int .i64 x.col] 63))) := Lib.hid (box_alloc wr x)
      have hb2 : Below wr.heap.size wr (wr.alloc (.cells #[.int .i8 x.kind, .int .i64 x.kids, .int .i64 x.n, .string x.s, .string x.t, .string x.u, .int .i64 x.line, .int .i64 x.col] 63)) := (Below.refl _ _).alloc (Nat.le_refl _) _
      have HB1 := Lib.hid (below_later hb2 HB.out)
      have r0 := cell_later hb2 q0
      have r1 := cell_later hb2 q1
      have r2 := cell_later hb2 q2
      have r3 := cell_later hb2 q3
      have r4 := cell_later hb2 q4
      have r5 := cell_later hb2 q5
      have r6 := cell_later hb2 q6
      have r7 := cell_later hb2 q7
      have hne : ¬ b2 = wr.heap.size := by omega
      clear hb2 HB
      go_wp2_with fail
      clear n0 n1 n2 n3 n4 n5 n6 n7 q0 q1 q2 q3 q4 q5 q6 q7
      generalize wr.alloc (.cells #[.int .i8 x.kind, .int .i64 x.kids, .int .i64 x.n, .string x.s, .string x.t, .string x.u, .int .i64 x.line, .int .i64 x.col] 63) = w3 at *
      generalize wr.heap.size = gx at *
      have c0 : w3.cell? ⟨gx, 0, none⟩ = some (.int .i8 x.kind) := HBX.out.cell 0
      have c1 : w3.cell? ⟨gx, 1, none⟩ = some (.int .i64 x.kids) := HBX.out.cell 1
      have c2 : w3.cell? ⟨gx, 2, none⟩ = some (.int .i64 x.n) := HBX.out.cell 2
      have c3 : w3.cell? ⟨gx, 3, none⟩ = some (.string x.s) := HBX.out.cell 3
      have c4 : w3.cell? ⟨gx, 4, none⟩ = some (.string x.t) := HBX.out.cell 4
      have c5 : w3.cell? ⟨gx, 5, none⟩ = some (.string x.u) := HBX.out.cell 5
      have c6 : w3.cell? ⟨gx, 6, none⟩ = some (.int .i64 x.line) := HBX.out.cell 6
      have c7 : w3.cell? ⟨gx, 7, none⟩ = some (.int .i64 x.col) := HBX.out.cell 7
      refine wp_region_plan (S := fun w' => (w'.cell? ⟨gx, 0, none⟩ = some (.int .i8 x.kind) ∧ w'.cell? ⟨gx, 1, none⟩ = some (.int .i64 x.kids) ∧ w'.cell? ⟨gx, 2, none⟩ = some (.int .i64 x.n) ∧ w'.cell? ⟨gx, 3, none⟩ = some (.string x.s) ∧ w'.cell? ⟨gx, 4, none⟩ = some (.string x.t) ∧ w'.cell? ⟨gx, 5, none⟩ = some (.string x.u) ∧ w'.cell? ⟨gx, 6, none⟩ = some (.int .i64 x.line) ∧ w'.cell? ⟨gx, 7, none⟩ = some (.int .i64 x.col)) ∧
          (w'.cell? ⟨b2, off2 + k * 8, none⟩ = some (.int .i8 x.kind) ∧ w'.cell? ⟨b2, off2 + k * 8 + 1, none⟩ = some (.int .i64 x.kids) ∧ w'.cell? ⟨b2, off2 + k * 8 + 2, none⟩ = some (.int .i64 x.n) ∧ w'.cell? ⟨b2, off2 + k * 8 + 3, none⟩ = some (.string x.s) ∧ w'.cell? ⟨b2, off2 + k * 8 + 4, none⟩ = some (.string x.t) ∧ w'.cell? ⟨b2, off2 + k * 8 + 5, none⟩ = some (.string x.u) ∧ w'.cell? ⟨b2, off2 + k * 8 + 6, none⟩ = some (.int .i64 x.line) ∧ w'.cell? ⟨b2, off2 + k * 8 + 7, none⟩ = some (.int .i64 x.col)))
        [(0, true), (1, true), (2, true), (3, true), (4, true), (5, true)] (by kernel_rfl) (by kernel_rfl) (by kernel_rfl) (fun _ _ _ _ _ h => h) ⟨⟨c0, c1, c2, c3, c4, c5, c6, c7⟩, ⟨r0, r1, r2, r3, r4, r5, r6, r7⟩⟩ ?_
      clear c0 c1 c2 c3 c4 c5 c6 c7 r0 r1 r2 r3 r4 r5 r6 r7
      intro HP
      repeat (first | (apply wpPlan_look; rfl; rfl; (intro wq hq; (try dsimp only at hq); go_split_ands; go_simp; (try rw [if_neg (by omega)]); (try rw [if_pos (by omega)]); try with_reducible rfl); simp only [Act.put, List.setIfInBounds_toArray, List.set_cons_zero, List.set_cons_succ]) | (apply wpPlan_skip; rfl; rfl; simp only [Act.put, List.setIfInBounds_toArray, List.set_cons_zero, List.set_cons_succ]) | (apply wpPlan_pass; rfl; rfl; assumption; simp only [Act.put, List.setIfInBounds_toArray, List.set_cons_zero, List.set_cons_succ]))
      apply wpPlan_done
      clear HP
      have HB2 := Lib.hid HB1.out.drew
      go_wp2_with fail
      go_roundw
      case rel => exact ⟨k + 1, by omega, by go_num, HB2⟩
      case measure => simp [intOf]; omega
    · go_wp2_with fail
      go_ret
      exact Makes.mk rfl HB.out
end Go.Proofs.YtebameiaeldfiaaGreatDoor

/- Walks of trees: the free names of a known list. -/
namespace Culp.Tr
/-- A sum of a number and a name. -/
def l3 : List Nd := [⟨10, 2, 0, ⟨#[]⟩, ⟨#[]⟩, ⟨#[]⟩, 0, 0⟩, ⟨1, 0, 1, ⟨#[]⟩, ⟨#[]⟩, ⟨#[]⟩, 0, 0⟩, ⟨4, 0, 0, ⟨#[120]⟩, ⟨#[]⟩, ⟨#[]⟩, 0, 0⟩]
theorem kids0 : kidsOf l3 0 = [1, 2] := by rfl
theorem kids1 : kidsOf l3 1 = [] := by rfl
theorem kids2 : kidsOf l3 2 = [] := by rfl
theorem check3 : check l3 = (0, 0) := by rfl
end Culp.Tr
namespace Go.Proofs.YtebameiaeldfiaaGreatDoor
open Go.RowKit Go.Maps Culp

theorem strings_info : (Tryz.prog.info? 9).map (fun i => (i.zero, i.size, i.bytes)) = some (some (.string ByteArray.empty), 1, 16) := by kernel_rfl
theorem One.later {a : Nat} {t : TypeId} {v : Value} {w w' : World} (h : One a t v w) (hb : Below w.heap.size w w') : One a t v w' := (hb.block a (Array.getElem?_eq_some_iff.1 h).1).trans h
/-- What the closure leaves: the one name. -/
def FreeRes (a : Nat) (w : World) (e : Ending) (w' : World) : Prop := e = .returned (.tuple #[]) ∧ Keep a w w' ∧ ∃ g cap, One a 25 (.slice (some ⟨g, 0, none⟩) 1 cap) w' ∧ w'.cell? ⟨g, 0, none⟩ = some (.string ⟨#[120]⟩)
set_option maxRecDepth 100000 in
theorem add_first (a : Nat) (w : World) (hO : One a 25 (.slice none 0 0) w) :
    Calls Tryz.prog 28 #[.string ⟨#[120]⟩, .pointer (some ⟨a, 0, none⟩)] w (FreeRes a w) := by
  have c0 := hO.cell
  have f0 := hO.free
  have hal : a < w.heap.size := (Array.getElem?_eq_some_iff.1 hO).1
  have HO := Lib.hid hO
  clear hO
  go_enter Tryz.func28, Tryz.ntmps28
  go_wp2_with fail
  go_loopw [7] (fun i wr => i = .int .i64 0 ∧ w = wr) (fun _ _ => 0)
  case atStart => exact ⟨rfl, rfl⟩
  case round =>
    obtain ⟨rfl, rfl⟩ := hrel
    have own4 := World.ownsRow_nil w w.heap.size 9 1
    go_wp2_with (at_builtin; refine append_agg rfl (.tmp 15) (.tmp 17) 25 9 rfl w.heap.size _ 1 16 Tryz.underlying25 strings_info rfl (by decide) _ _ _ rfl own4 [.string ⟨#[120]⟩] rfl w.heap.size rfl rfl ?_ ?_ ?_ ?_ ?_)
    · first
        | rfl
        | (intro y hy; simp only [List.mem_cons, List.not_mem_nil, or_false] at hy; subst hy; rfl)
    · omega
    · omega
    · exact Nat.le_refl _
    intro v' w5 hown' hg' hb'
    obtain ⟨g, cap, rfl, hbg, _, _, _, hcg⟩ := own_read hown' (by omega)
    have hx0 := hcg 0 _ rfl
    have hO5 := HO.out.later hb'
    have c5 := hO5.cell
    have f5 := hO5.free
    have hne : g ≠ a := by omega
    have hO6 := hO5.put (.slice (some ⟨g, 0, none⟩) (0 + 1) cap)
    have hk : Keep a w (w5.setCell ⟨a, 0, none⟩ (.slice (some ⟨g, 0, none⟩) (0 + 1) cap)) := (Keep.of hb').setCell 0 _
    have hx1 : (w5.setCell ⟨a, 0, none⟩ (.slice (some ⟨g, 0, none⟩) (0 + 1) cap)).cell? ⟨g, 0, none⟩ = some (.string ⟨#[120]⟩) := by
      rw [World.cell?_of_block (w := w5) (Below.heap_setCell _ _ _ _ (by simpa using hne))]
      exact hx0
    have HR : Hid (FreeRes a w (.returned (.tuple #[])) (w5.setCell ⟨a, 0, none⟩ (.slice (some ⟨g, 0, none⟩) (0 + 1) cap))) := Lib.hid ⟨rfl, hk, g, cap, hO6, hx1⟩
    clear hown' hg' hb' hcg hO5 hO6 hk hx0 hx1 own4
    go_wp2_with fail
    exact bodyPost_end (v := .tuple #[]) (by simp [results, Tryz.results28, go_sem]) rfl HR.out
set_option maxRecDepth 100000 in
theorem free_num (tv bv av : Value) (w : World) (hn : Nodes w tv Tr.l3) : Calls Tryz.prog 27 #[tv, .int .i64 1, bv, av] w (Makes (.tuple #[]) w) := by
  have HN := Lib.hid hn
  have HKD := Lib.hid (fun w' (hb : Below w.heap.size w w') => tKids_any Tr.l3 tv 1 w' (hn.later hb) (by decide))
  obtain ⟨A, c, rfl, hlc, hN⟩ := hn
  obtain ⟨b, off, rfl, hM⟩ := hN (by decide)
  obtain ⟨n0, n1, n2, n3, n4, n5, n6, n7⟩ := hM.at_ (i := 1) rfl
  have HB : Hid (Below w.heap.size w (w.alloc (.cells #[.int .i8 1, .int .i64 0, .int .i64 1, .string ⟨#[]⟩, .string ⟨#[]⟩, .string ⟨#[]⟩, .int .i64 0, .int .i64 0] 63))) := Lib.hid ((Below.refl _ _).alloc (Nat.le_refl _) _)
  clear hM hN
  have HC : Hid ((w.alloc (.cells #[.int .i8 1, .int .i64 0, .int .i64 1, .string ⟨#[]⟩, .string ⟨#[]⟩, .string ⟨#[]⟩, .int .i64 0, .int .i64 0] 63)).cell? ⟨w.heap.size, 0, none⟩ = some (.int .i8 1)) := Lib.hid (World.cell?_alloc_at _ _ _ _ rfl)
  go_enter Tryz.func27, Tryz.ntmps27
  go_wp2_with fail
  refine (HKD.out _ HB.out).mono ?_
  rintro e w2 ⟨v, rfl, hown, hb2⟩
  rw [Tr.kids1] at hown
  obtain ⟨A3, c3, rfl⟩ := own_shape hown
  have k0 := cell_later hb2 HC.out
  have HB2 := Lib.hid (below_later hb2 HB.out)
  clear hown hb2 n0 n1 n2 n3 n4 n5 n6 n7
  rw [List.length_nil]
  go_wp2_with fail
  go_loopw [25] (fun i wr => i = .int .i64 0 ∧ w2 = wr) (fun _ _ => 0)
  case atStart => exact ⟨rfl, rfl⟩
  case round =>
    obtain ⟨rfl, rfl⟩ := hrel
    go_wp2_with fail
    exact bodyPost_end (v := .tuple #[]) (by simp [results, Tryz.results27, go_sem]) rfl (Makes.mk rfl HB2.out)
set_option maxRecDepth 100000 in
theorem free_var (tv : Value) (a : Nat) (w : World) (hn : Nodes w tv Tr.l3) (hO : One a 25 (.slice none 0 0) w) : Calls Tryz.prog 27 #[tv, .int .i64 2, .slice none 0 0, .func (.func 28) #[] #[.pointer (some ⟨a, 0, none⟩)]] w (FreeRes a w) := by
  have HKD := Lib.hid (fun w' (hb : Below w.heap.size w w') => tKids_any Tr.l3 tv 2 w' (hn.later hb) (by decide))
  have HO := Lib.hid hO
  obtain ⟨A, c, rfl, hlc, hN⟩ := hn
  obtain ⟨b, off, rfl, hM⟩ := hN (by decide)
  obtain ⟨n0, n1, n2, n3, n4, n5, n6, n7⟩ := hM.at_ (i := 2) rfl
  have HB : Hid (Below w.heap.size w (w.alloc (.cells #[.int .i8 4, .int .i64 0, .int .i64 0, .string ⟨#[120]⟩, .string ⟨#[]⟩, .string ⟨#[]⟩, .int .i64 0, .int .i64 0] 63))) := Lib.hid ((Below.refl _ _).alloc (Nat.le_refl _) _)
  have HC : Hid ((w.alloc (.cells #[.int .i8 4, .int .i64 0, .int .i64 0, .string ⟨#[120]⟩, .string ⟨#[]⟩, .string ⟨#[]⟩, .int .i64 0, .int .i64 0] 63)).cell? ⟨w.heap.size, 0, none⟩ = some (.int .i8 4)) := Lib.hid (World.cell?_alloc_at _ _ _ _ rfl)
  have HC3 : Hid ((w.alloc (.cells #[.int .i8 4, .int .i64 0, .int .i64 0, .string ⟨#[120]⟩, .string ⟨#[]⟩, .string ⟨#[]⟩, .int .i64 0, .int .i64 0] 63)).cell? ⟨w.heap.size, 3, none⟩ = some (.string ⟨#[120]⟩)) := Lib.hid (World.cell?_alloc_at _ _ _ _ rfl)
  clear hM hN hO
  go_enter Tryz.func27, Tryz.ntmps27
  go_wp2_with fail
  refine (HKD.out _ HB.out).mono ?_
  rintro e w2 ⟨v, rfl, hown, hb2⟩
  rw [Tr.kids2] at hown
  obtain ⟨A3, c3, rfl⟩ := own_shape hown
  have k0 := cell_later hb2 HC.out
  have k3 := cell_later hb2 HC3.out
  have HB2 := Lib.hid (below_later hb2 HB.out)
  have HO2 := Lib.hid ((HO.out.later HB.out).later hb2)
  clear hown hb2 n0 n1 n2 n3 n4 n5 n6 n7
  rw [List.length_nil]
  go_wp2_with fail
  go_loopw [39] (fun i wr => i = .int .i64 0 ∧ w2 = wr) (fun _ _ => 0)
  case atStart => exact ⟨rfl, rfl⟩
  case round =>
    obtain ⟨rfl, rfl⟩ := hrel
    go_wp2_with fail
    refine (add_first a _ HO2.out).mono ?_
    rintro e w3 ⟨rfl, hk, hr⟩
    have HR : Hid (FreeRes a w (.returned (.tuple #[])) w3) := Lib.hid ⟨rfl, (Keep.of HB2.out).trans hk, hr⟩
    clear hk hr
    go_wp2_with fail
    exact bodyPost_end (v := .tuple #[]) (by simp [results, Tryz.results27, go_sem]) rfl HR.out
set_option maxRecDepth 100000 in
set_option maxHeartbeats 1600000 in
theorem free_add (tv : Value) (a : Nat) (w : World) (hn : Nodes w tv Tr.l3) (hO : One a 25 (.slice none 0 0) w) : Calls Tryz.prog 27 #[tv, .int .i64 0, .slice none 0 0, .func (.func 28) #[] #[.pointer (some ⟨a, 0, none⟩)]] w (FreeRes a w) := by
  have HN := Lib.hid hn
  have HKD := Lib.hid (fun w' (hb : Below w.heap.size w w') => tKids_any Tr.l3 tv 0 w' (hn.later hb) (by decide))
  have HO := Lib.hid hO
  obtain ⟨A, c, rfl, hlc, hN⟩ := hn
  obtain ⟨b, off, rfl, hM⟩ := hN (by decide)
  obtain ⟨n0, n1, n2, n3, n4, n5, n6, n7⟩ := hM.at_ (i := 0) rfl
  rw [Nat.zero_mul, Nat.add_zero] at n0 n1 n2 n3 n4 n5 n6 n7
  have HB : Hid (Below w.heap.size w (w.alloc (.cells #[.int .i8 10, .int .i64 2, .int .i64 0, .string ⟨#[]⟩, .string ⟨#[]⟩, .string ⟨#[]⟩, .int .i64 0, .int .i64 0] 63))) := Lib.hid ((Below.refl _ _).alloc (Nat.le_refl _) _)
  have HC : Hid ((w.alloc (.cells #[.int .i8 10, .int .i64 2, .int .i64 0, .string ⟨#[]⟩, .string ⟨#[]⟩, .string ⟨#[]⟩, .int .i64 0, .int .i64 0] 63)).cell? ⟨w.heap.size, 0, none⟩ = some (.int .i8 10)) := Lib.hid (World.cell?_alloc_at _ _ _ _ rfl)
  clear hM hN hO
  go_enter Tryz.func27, Tryz.ntmps27
  go_wp2_with fail
  refine (HKD.out _ HB.out).mono ?_
  rintro e w2 ⟨v, rfl, hown, hb2⟩
  rw [Tr.kids0] at hown
  obtain ⟨g, cap, rfl, h0, h1⟩ := own_two hown rfl
  have k0 := cell_later hb2 HC.out
  have HB2 := Lib.hid (below_later hb2 HB.out)
  have HO2 := Lib.hid ((HO.out.later HB.out).later hb2)
  have H0 := Lib.hid h0
  have H1 := Lib.hid h1
  clear hown hb2 n0 n1 n2 n3 n4 n5 n6 n7 h0 h1
  go_wp2_with fail
  go_loopw [25] (fun i wr => (i = .int .i64 0 ∧ Hid (Below w2.heap.size w2 wr)) ∨ (i = .int .i64 1 ∧ Hid (Below w2.heap.size w2 wr)) ∨ (i = .int .i64 2 ∧ Hid (FreeRes a w (.returned (.tuple #[])) wr))) (fun i _ => 2 - (intOf i).toNat)
  case atStart => exact .inl ⟨rfl, Lib.hid (Below.refl _ _)⟩
  case round =>
    rcases hrel with ⟨rfl, HBr⟩ | ⟨rfl, HBr⟩ | ⟨rfl, HR⟩
    · have m0 : wr.cell? ⟨g, 0, none⟩ = some (.int .i64 1) := cell_later HBr.out H0.out
      go_wp2_with fail
      refine (free_num _ _ _ _ (HN.out.later (below_later HBr.out HB2.out))).mono ?_
      rintro e w3 ⟨rfl, hb3⟩
      have HB3 := Lib.hid (below_later hb3 HBr.out)
      clear hb3
      go_wp2_with fail
      go_roundw
      case rel => exact .inr (.inl ⟨rfl, HB3⟩)
      case measure => simp [intOf]
    · have m0 : wr.cell? ⟨g, 1, none⟩ = some (.int .i64 2) := cell_later HBr.out H1.out
      go_wp2_with fail
      refine (free_var _ a _ (HN.out.later (below_later HBr.out HB2.out)) (HO2.out.later HBr.out)).mono ?_
      rintro e w3 ⟨rfl, hk, hr⟩
      have HR : Hid (FreeRes a w (.returned (.tuple #[])) w3) := Lib.hid ⟨rfl, (Keep.of (below_later HBr.out HB2.out)).trans hk, hr⟩
      clear hk hr
      go_wp2_with fail
      go_roundw
      case rel => exact .inr (.inr ⟨rfl, HR⟩)
      case measure => simp [intOf]
    · go_wp2_with fail
      exact bodyPost_end (v := .tuple #[]) (by simp [results, Tryz.results27, go_sem]) rfl HR.out
/-- What Free answers there. -/
def NameRes (w : World) (e : Ending) (w' : World) : Prop := ∃ g cap, e = .returned (.slice (some ⟨g, 0, none⟩) 1 cap) ∧ w'.cell? ⟨g, 0, none⟩ = some (.string ⟨#[120]⟩) ∧ Below w.heap.size w w'
set_option maxRecDepth 100000 in
theorem Free_three (tv : Value) (w : World) (hn : Nodes w tv Tr.l3) (hS : Sp w) : Calls Tryz.prog 7 #[tv] w (NameRes w) := by
  have hmf : ∀ (fn : Fn) (first cap : Array Value) (w : World), (Instr.makeFunc fn first cap).run Tryz.prog w = .ok (.func fn first cap) w := fun _ _ _ _ => rfl
  have HN := Lib.hid hn
  have HCK := Lib.hid (tCheck_any Tr.l3 tv w hn hS (by decide) (by decide))
  rw [Tr.check3] at HCK
  go_enter Tryz.func7, Tryz.ntmps7
  go_wp2_with fail
  refine HCK.out.mono ?_
  rintro e w1 ⟨rfl, hb1⟩
  have HB1 := Lib.hid hb1
  have hb2 : Below w1.heap.size w1 (w1.alloc (.cells #[.slice none 0 0] 25)) := (Below.refl _ _).alloc (Nat.le_refl _) _
  have HB2 := Lib.hid (below_later hb2 HB1.out)
  have HO := Lib.hid (one_alloc w1 25 (.slice none 0 0))
  clear hb1 hb2 HCK
  go_wp2_with fail
  refine (free_add tv w1.heap.size _ (HN.out.later HB2.out) HO.out).mono ?_
  rintro e w3 ⟨rfl, hk, g, cap, hO3, hc3⟩
  have q0 := hO3.cell
  have HF : Hid (NameRes w (.returned (.slice (some ⟨g, 0, none⟩) 1 cap)) w3) := Lib.hid ⟨g, cap, rfl, hc3, by
    have hs := HB1.out.size
    have h2 := HB2.out
    exact ⟨hk.os.trans h2.os, hk.tape.trans h2.tape, hk.output.trans h2.output, Nat.le_trans h2.size hk.size, fun j hj => (hk.block j (Nat.lt_of_lt_of_le hj h2.size) (by omega)).trans (h2.block j hj)⟩⟩
  clear hk hO3 hc3
  go_wp2_with fail
  go_ret
  exact HF.out
end Go.Proofs.YtebameiaeldfiaaGreatDoor

/- Walks of trees: no idle program. -/
namespace Culp.Tr
/-- A sign before a number that may not be. -/
def l2 : List Nd := [⟨16, 1, 0, ⟨#[]⟩, ⟨#[]⟩, ⟨#[]⟩, 0, 0⟩, ⟨1, 0, -1, ⟨#[]⟩, ⟨#[]⟩, ⟨#[]⟩, 0, 0⟩]
theorem check2 : check l2 = (18, 1) := by rfl
theorem behind3 : behind l3 0 = 3 := by rfl
theorem deep3 : deepOf l3 = 2 := by rfl
end Culp.Tr
namespace Go.Proofs.YtebameiaeldfiaaGreatDoor
open Go.RowKit Go.Maps Culp

/-- Nodes that were just laid. -/
theorem lit_nodes (w : World) (T : List Nd) (cs : Array Value) (t : TypeId) (h : cs = (T.flatMap Nd.cells).toArray) : Nodes (w.alloc (.cells cs t)) (.slice (some ⟨w.heap.size, 0, none⟩) T.length T.length) T := by
  subst h
  refine ⟨_, _, rfl, Nat.le_refl _, fun _ => ⟨w.heap.size, 0, rfl, fun i x hx j u hu => ?_⟩⟩
  rw [Nat.zero_add, World.cell?_alloc_at _ _ _ _ rfl]
  have : ∀ (T : List Nd) (i : Nat), T[i]? = some x → (T.flatMap Nd.cells)[i * 8 + j]? = some u := by
    intro T
    induction T with
    | nil => intro i h; simp at h
    | cons y T ih =>
      intro i h
      have hj : j < 8 := by have := (List.getElem?_eq_some_iff.1 hu).1; simpa [Nd.cells] using this
      cases i with
      | zero =>
        simp at h; subst h
        rw [List.flatMap_cons, Nat.zero_mul, Nat.zero_add, List.getElem?_append_left (by simpa [Nd.cells] using hj)]
        exact hu
      | succ i =>
        have h8 : y.cells.length = 8 := rfl
        rw [List.flatMap_cons, List.getElem?_append_right (by rw [h8]; omega), h8, show (i + 1) * 8 + j - 8 = i * 8 + j by omega]
        exact ih i (by simpa using h)
  simpa using this T i hx
set_option maxRecDepth 100000 in
set_option maxHeartbeats 1600000 in
theorem works_any (w : World) (hS : Sp w) : Calls Tryz.prog 5 #[] w (Makes (.bool true) w) := by
  have HS := Lib.hid hS
  clear hS
  go_enter Tryz.func5, Tryz.ntmps5
  go_wp2_with fail
  have HN1 : Hid (Nodes (w.alloc (.cells #[.int .i8 10, .int .i64 2, .int .i64 0, .string ⟨#[]⟩, .string ⟨#[]⟩, .string ⟨#[]⟩, .int .i64 0, .int .i64 0, .int .i8 1, .int .i64 0, .int .i64 1, .string ⟨#[]⟩, .string ⟨#[]⟩, .string ⟨#[]⟩, .int .i64 0, .int .i64 0, .int .i8 4, .int .i64 0, .int .i64 0, .string ⟨#[120]⟩, .string ⟨#[]⟩, .string ⟨#[]⟩, .int .i64 0, .int .i64 0] 63)) (.slice (some ⟨w.heap.size, 0, none⟩) 3 3) Tr.l3) := Lib.hid (lit_nodes w Tr.l3 _ _ rfl)
  have HB1 : Hid (Below w.heap.size w (w.alloc (.cells #[.int .i8 10, .int .i64 2, .int .i64 0, .string ⟨#[]⟩, .string ⟨#[]⟩, .string ⟨#[]⟩, .int .i64 0, .int .i64 0, .int .i8 1, .int .i64 0, .int .i64 1, .string ⟨#[]⟩, .string ⟨#[]⟩, .string ⟨#[]⟩, .int .i64 0, .int .i64 0, .int .i8 4, .int .i64 0, .int .i64 0, .string ⟨#[120]⟩, .string ⟨#[]⟩, .string ⟨#[]⟩, .int .i64 0, .int .i64 0] 63))) := Lib.hid ((Below.refl _ _).alloc (Nat.le_refl _) _)
  generalize w.alloc (.cells #[.int .i8 10, .int .i64 2, .int .i64 0, .string ⟨#[]⟩, .string ⟨#[]⟩, .string ⟨#[]⟩, .int .i64 0, .int .i64 0, .int .i8 1, .int .i64 0, .int .i64 1, .string ⟨#[]⟩, .string ⟨#[]⟩, .string ⟨#[]⟩, .int .i64 0, .int .i64 0, .int .i8 4, .int .i64 0, .int .i64 0, .string ⟨#[120]⟩, .string ⟨#[]⟩, .string ⟨#[]⟩, .int .i64 0, .int .i64 0] 63) = w1 at *
  generalize w.heap.size = g0 at HN1 ⊢
  refine (tCheck_any Tr.l3 _ _ HN1.out (HS.out.later HB1.out) (by decide) (by decide)).mono ?_
  rw [Tr.check3]
  rintro e w2 ⟨rfl, hb2⟩
  have HB2 := Lib.hid (below_later hb2 HB1.out)
  have HN2 := Lib.hid (HN1.out.later hb2)
  clear hb2 HB1 HN1
  go_wp2_with fail
  refine (tArity_any 9 _).mono ?_
  rw [show Tr.arit 9 = 3 from rfl]
  rintro e w' ⟨rfl, rfl⟩
  go_wp2_with fail
  refine (tKids_any Tr.l3 _ 0 _ HN2.out (by decide)).mono ?_
  rintro e w3 ⟨v, rfl, hown, hb3⟩
  rw [Tr.kids0] at hown
  obtain ⟨gk, ck, rfl, _, hk1⟩ := own_two hown rfl
  have HB3 := Lib.hid (below_later hb3 HB2.out)
  have HN3 := Lib.hid (HN2.out.later hb3)
  have HK3 := Lib.hid hk1
  clear hown hb3 HB2 HN2 hk1
  go_wp2_with fail
  refine (Free_three _ _ HN3.out (HS.out.later HB3.out)).mono ?_
  rintro e w4 ⟨gf, cf, rfl, hf4, hb4⟩
  have HB4 := Lib.hid (below_later hb4 HB3.out)
  have HN4 := Lib.hid (HN3.out.later hb4)
  have HK4 := Lib.hid (cell_later hb4 HK3.out)
  have HF4 := Lib.hid hf4
  clear hb4 hf4 HB3 HN3 HK3
  go_wp2_with fail
  have HM5 : Hid (Nodes (w4.alloc (.cells #[.int .i8 16, .int .i64 1, .int .i64 0, .string ⟨#[]⟩, .string ⟨#[]⟩, .string ⟨#[]⟩, .int .i64 0, .int .i64 0, .int .i8 1, .int .i64 0, .int .i64 (-1), .string ⟨#[]⟩, .string ⟨#[]⟩, .string ⟨#[]⟩, .int .i64 0, .int .i64 0] 63)) (.slice (some ⟨w4.heap.size, 0, none⟩) 2 2) Tr.l2) := Lib.hid (lit_nodes w4 Tr.l2 _ _ rfl)
  have hb5 : Below w4.heap.size w4 (w4.alloc (.cells #[.int .i8 16, .int .i64 1, .int .i64 0, .string ⟨#[]⟩, .string ⟨#[]⟩, .string ⟨#[]⟩, .int .i64 0, .int .i64 0, .int .i8 1, .int .i64 0, .int .i64 (-1), .string ⟨#[]⟩, .string ⟨#[]⟩, .string ⟨#[]⟩, .int .i64 0, .int .i64 0] 63)) := (Below.refl _ _).alloc (Nat.le_refl _) _
  have HB5 := Lib.hid (below_later hb5 HB4.out)
  have HN5 := Lib.hid (HN4.out.later hb5)
  have HK5 := Lib.hid (cell_later hb5 HK4.out)
  have HF5 := Lib.hid (cell_later hb5 HF4.out)
  clear hb5 HB4 HN4 HK4 HF4
  generalize w4.alloc (.cells #[.int .i8 16, .int .i64 1, .int .i64 0, .string ⟨#[]⟩, .string ⟨#[]⟩, .string ⟨#[]⟩, .int .i64 0, .int .i64 0, .int .i8 1, .int .i64 0, .int .i64 (-1), .string ⟨#[]⟩, .string ⟨#[]⟩, .string ⟨#[]⟩, .int .i64 0, .int .i64 0] 63) = w5 at *
  refine (tCheck_any Tr.l2 _ _ HM5.out (HS.out.later HB5.out) (by decide) (by decide)).mono ?_
  rw [Tr.check2]
  rintro e w6 ⟨rfl, hb6⟩
  have HB6 := Lib.hid (below_later hb6 HB5.out)
  have HN6 := Lib.hid (HN5.out.later hb6)
  have HK6 := Lib.hid (cell_later hb6 HK5.out)
  have HF6 := Lib.hid (cell_later hb6 HF5.out)
  clear hb6 HB5 HN5 HK5 HF5 HM5
  go_wp2_with fail
  refine (tBehind_any Tr.l3 _ 0 _ HN6.out (by decide)).mono ?_
  rw [Tr.behind3]
  rintro e w7 ⟨rfl, hb7⟩
  have HB7 := Lib.hid (below_later hb7 HB6.out)
  have HN7 := Lib.hid (HN6.out.later hb7)
  have HK7 := Lib.hid (cell_later hb7 HK6.out)
  have HF7 := Lib.hid (cell_later hb7 HF6.out)
  clear hb7 HB6 HN6 HK6 HF6
  go_wp2_with fail
  refine (tDeep_any Tr.l3 _ _ HN7.out (by decide)).mono ?_
  rw [Tr.deep3]
  rintro e w8 ⟨rfl, hb8⟩
  have HB8 := Lib.hid (below_later hb8 HB7.out)
  have HN8 := Lib.hid (HN7.out.later hb8)
  have HF8 := Lib.hid (cell_later hb8 HF7.out)
  have hk8 : w8.cell? ⟨gk, 1, none⟩ = some (.int .i64 2) := cell_later hb8 HK7.out
  clear hb8 HB7 HN7 HK7 HF7
  go_wp2_with fail
  clear hk8
  refine (Equal_same Tr.l3 _ _ _ HN8.out HN8.out (by decide)).mono ?_
  rintro e w9 ⟨rfl, hb9⟩
  have HB9 := Lib.hid (below_later hb9 HB8.out)
  have hf9 := cell_later hb9 HF8.out
  clear hb9 HB8 HN8 HF8
  go_wp2_with fail
  go_ret
  exact Makes.mk rfl HB9.out
end Go.Proofs.YtebameiaeldfiaaGreatDoor
