
/- Walks of what statements lean on: how large modules are. -/
import Derived.Test.YtidholghbjljaaaGreatDoorVd
import Derived.Test.YtidholghbjljaaaGreatDoorOpen
import Derived.Deep.DeepCutAuto
import Derived.Deep.CutBlock
namespace Culp.Mo
set_option linter.unusedSimpArgs false
set_option linter.unusedVariables false
open Culp Culp.Tr
/-- No list of a module is longer. -/
def ModLe (B : Nat) (m : Md) : Prop := m.imps.length ≤ B ∧ m.defs.length ≤ B ∧ ∀ d ∈ m.defs, d.tree.length ≤ B
def ModsLe (B : Nat) (L : List Md) : Prop := L.length ≤ B ∧ ∀ m ∈ L, ModLe B m
theorem mem_step {α : Type} {l : List α} {k : Nat} {x y : α} (hx : l[k]? = some x) (hy : y ∈ l.take (k + 1)) : y ∈ l.take k ∨ y = x := by
  rw [List.take_add_one, hx] at hy
  rcases List.mem_append.1 hy with h | h
  · exact .inl h
  · simp at h
    exact .inr h
end Culp.Mo
namespace Go.Proofs.YtidholghbjljaaaGreatDoor
set_option linter.unusedSimpArgs false
set_option linter.unusedVariables false
open Go.RowKit Culp
/-- Some number; if it is small, so are the modules. -/
def SizeMods (L : List Md) (w : World) (e : Ending) (w' : World) : Prop := ∃ v : Int, e = .returned (.int .i64 v) ∧ Below w.heap.size w w' ∧ ∀ B : Nat, v ≤ (B : Int) → B ≤ 2147483647 → Mo.ModsLe B L
theorem szOk_of {T : List Nd} (h : TrSz T) : ∀ x ∈ T, szOk x := fun x hx => by
  obtain ⟨a, b, c⟩ := h.2.1 x hx
  exact ⟨by omega, by omega, by omega⟩
/-- The same, and the number is in bounds. -/
def SizeModsUp (L : List Md) (w : World) (e : Ending) (w' : World) : Prop := ∃ v : Int, (0 ≤ v ∧ v ≤ 8000000000000000) ∧ e = .returned (.int .i64 v) ∧ Below w.heap.size w w' ∧ ∀ B : Nat, v ≤ (B : Int) → B ≤ 2147483647 → Mo.ModsLe B L
set_option maxRecDepth 100000 in
set_option maxHeartbeats 12800000 in
theorem SizeModules_up (L : List Md) (v : Value) (w : World) (hL : Mods w v L) (hl : L.length ≤ 1000000000000000) (hz : ∀ m ∈ L, MdSz m) : Calls Tryz.prog 7 #[v] w (SizeModsUp L w) := by
  have HL := Lib.hid hL
  have HZ := Lib.hid hz
  obtain ⟨A, C, rfl⟩ := hL.form
  clear hL hz
  go_enter Tryz.func7, Tryz.ntmps7
  go_wp2_with fail
  go_loopw [3, 4] (fun nv iv wr => ∃ (k : Nat) (n : Int), k ≤ L.length ∧ iv = .int .i64 k ∧ nv = .int .i64 n ∧ (L.length : Int) ≤ n ∧ n ≤ 8000000000000000 ∧ Hid (∀ B : Nat, n ≤ (B : Int) → B ≤ 2147483647 → ∀ m ∈ L.take k, Mo.ModLe B m) ∧ Hid (Below w.heap.size w wr)) (fun _ i _ => L.length - (intOf i).toNat)
  case atStart => exact ⟨0, L.length, Nat.zero_le _, rfl, rfl, Int.le_refl _, by omega, Lib.hid (by simp), Lib.hid (Below.refl _ _)⟩
  case round =>
    obtain ⟨k, n, hk, rfl, rfl, hn0, hn1, HM, HB⟩ := hrel
    by_cases hlt : k < L.length
    · by_cases hb : n ≤ 2147483647
      · obtain ⟨b, off, iv, dv, rfl, ⟨n0, n1, n2, n3, n4⟩, hi, hd⟩ := (HL.out.later HB.out).at_ hlt
        obtain ⟨Ai, ci, rfl⟩ := hi.form
        obtain ⟨Ad, cd, rfl⟩ := hd.form
        have hx : L[k]? = some L[k] := List.getElem?_eq_getElem hlt
        have HMZ := Lib.hid (HZ.out _ (List.mem_of_getElem? hx))
        have b0 := HMZ.out.1
        have b1 := HMZ.out.2.1.1
        have b2 := HMZ.out.2.2.1
        have HX := Lib.hid hx
        generalize L[k] = m at *
        have HI := Lib.hid (hi.later (Below.refl wr.heap.size wr).drew)
        have HD := Lib.hid (hd.later (Below.refl wr.heap.size wr).drew)
        have HN1 := Lib.hid (cell_later (Below.refl wr.heap.size wr).drew n1)
        have HN2 := Lib.hid (cell_later (Below.refl wr.heap.size wr).drew n2)
        have r1 : IntKind.i64.wrap (n + (m.name.size : Int)) = n + (m.name.size : Int) := IntWalk.i64_in _ (by omega)
        have r2 : IntKind.i64.wrap (n + (m.name.size : Int) + (m.imps.length : Int)) = n + (m.name.size : Int) + (m.imps.length : Int) := IntWalk.i64_in _ (by omega)
        have r3 : IntKind.i64.wrap (n + (m.name.size : Int) + (m.imps.length : Int) + (m.defs.length : Int)) = n + (m.name.size : Int) + (m.imps.length : Int) + (m.defs.length : Int) := IntWalk.i64_in _ (by omega)
        clear hx hi hd n3 n4
        go_wp2_with fail
        refine wp_region_plan (S := fun w' => w'.cell? ⟨b, off + k * 5, none⟩ = some (.string m.name) ∧ w'.cell? ⟨b, off + k * 5 + 1, none⟩ = some (.slice Ai m.imps.length ci) ∧ w'.cell? ⟨b, off + k * 5 + 2, none⟩ = some (.slice Ad m.defs.length cd)) [(0, true), (1, true), (2, true), (3, true), (4, true), (5, true), (6, true), (7, true), (8, true), (9, true), (10, true), (11, true), (12, true), (13, true), (14, true), (15, true), (16, true), (17, true), (18, true), (19, true), (20, true), (21, true), (22, true)] (by kernel_rfl) (by kernel_rfl) (by kernel_rfl) (fun _ _ _ _ _ h => h) ⟨n0, n1, n2⟩ ?_
        intro HS
        repeat (first | (apply wpPlan_look; rfl; rfl; (intro wq hq; (try dsimp only at hq); go_split_ands; go_simp; (try rw [if_neg (by omega)]); (try rw [if_pos (by omega)]); try with_reducible rfl); simp only [Act.put, List.setIfInBounds_toArray, List.set_cons_zero, List.set_cons_succ]) | (apply wpPlan_skip; rfl; rfl; simp only [Act.put, List.setIfInBounds_toArray, List.set_cons_zero, List.set_cons_succ]) | (apply wpPlan_pass; rfl; rfl; assumption; simp only [Act.put, List.setIfInBounds_toArray, List.set_cons_zero, List.set_cons_succ]))
        apply wpPlan_done
        have HBD := Lib.hid HB.out.drew
        clear HS n0 n1 n2 r1 r2 r3 HB
        generalize wr.drew = wd at *
        obtain ⟨q, hq⟩ : ∃ q, q = n + (m.name.size : Int) + (m.imps.length : Int) + (m.defs.length : Int) := ⟨_, rfl⟩
        have HQ := Lib.hid hq
        have hq0 : n ≤ q := by omega
        have hq1 : q ≤ 8000000000000000 := by omega
        have hq2 : (m.imps.length : Int) ≤ q := by omega
        have hq3 : (m.defs.length : Int) ≤ q := by omega
        rw [← hq]
        clear hq
        have n1 := HN1.out
        go_upto_block 2 with fail
        go_cut [3] (fun nv wx => ∃ p : Int, nv = .int .i64 p ∧ q ≤ p ∧ p ≤ 8000000000000000 ∧ Hid (Below wd.heap.size wd wx))
        case first =>
          go_wp2_with fail
          clear n1
          go_loopw [3, 5] (fun nv iv wr => ∃ (j : Nat) (p : Int), j ≤ m.imps.length ∧ iv = .int .i64 j ∧ nv = .int .i64 p ∧ q ≤ p ∧ p ≤ 8000000000000000 ∧ Hid (Below wd.heap.size wd wr)) (fun _ i _ => m.imps.length - (intOf i).toNat)
          case atStart => exact ⟨0, q, Nat.zero_le _, rfl, rfl, Int.le_refl _, hq1, Lib.hid (Below.refl _ _)⟩
          case round =>
            obtain ⟨j, p, hj, rfl, rfl, hp0, hp1, HBI⟩ := hrel
            have n1 := cell_later HBI.out HN1.out
            by_cases hgo : j < m.imps.length ∧ p ≤ 2147483647
            · obtain ⟨hlt2, hb2⟩ := hgo
              obtain ⟨b2', off2, rfl, ⟨q0, q1, q2, q3, q4⟩⟩ := (HI.out.later HBI.out).at_ hlt2
              have hx2 : m.imps[j]? = some m.imps[j] := List.getElem?_eq_getElem hlt2
              obtain ⟨z1, z2, z3⟩ := HMZ.out.2.1.2 _ (List.mem_of_getElem? hx2)
              generalize m.imps[j] = x at *
              have hb1 : Below wr.heap.size wr (wr.alloc (.cells #[.string x.src, .string x.name, .string x.t, .int .i64 x.line, .int .i64 x.col] 90)) := (Below.refl _ _).alloc (Nat.le_refl _) _
              have HB3 := Lib.hid (below_later hb1 HBI.out)
              have HK := Lib.hid (Blk.alloc wr #[.string x.src, .string x.name, .string x.t, .int .i64 x.line, .int .i64 x.col] 90)
              have r1 : IntKind.i64.wrap (p + (x.src.size : Int)) = p + (x.src.size : Int) := IntWalk.i64_in _ (by omega)
              have r2 : IntKind.i64.wrap (p + (x.src.size : Int) + (x.name.size : Int)) = p + (x.src.size : Int) + (x.name.size : Int) := IntWalk.i64_in _ (by omega)
              clear hx2 hb1
              go_wp2_with fail
              generalize wr.alloc (.cells #[.string x.src, .string x.name, .string x.t, .int .i64 x.line, .int .i64 x.col] 90) = w3 at *
              have k0 := HK.out.cell (i := 0) rfl
              have k1 := HK.out.cell (i := 1) rfl
              have k2 := HK.out.cell (i := 2) rfl
              refine wp_region_plan (S := fun w' => w'.cell? ⟨wr.heap.size, 0, none⟩ = some (.string x.src) ∧ w'.cell? ⟨wr.heap.size, 1, none⟩ = some (.string x.name) ∧ w'.cell? ⟨wr.heap.size, 2, none⟩ = some (.string x.t)) [(0, true), (1, true), (2, true), (3, true), (4, true), (5, true), (6, true), (7, true), (8, true), (9, true), (10, true), (11, false), (12, true), (13, true)] (by kernel_rfl) (by kernel_rfl) (by kernel_rfl) (fun _ _ _ _ _ h => h) ⟨k0, k1, k2⟩ ?_
              intro HS
              repeat (first | (apply wpPlan_look; rfl; rfl; (intro wq hq; (try dsimp only at hq); go_split_ands; go_simp; (try rw [if_neg (by omega)]); (try rw [if_pos (by omega)]); try with_reducible rfl); simp only [Act.put, List.setIfInBounds_toArray, List.set_cons_zero, List.set_cons_succ]) | (apply wpPlan_skip; rfl; rfl; simp only [Act.put, List.setIfInBounds_toArray, List.set_cons_zero, List.set_cons_succ]) | (apply wpPlan_pass; rfl; rfl; assumption; simp only [Act.put, List.setIfInBounds_toArray, List.set_cons_zero, List.set_cons_succ]))
              apply wpPlan_call; rfl; rfl; rfl; rfl; kernel_rfl; exact sizeType_any x.t _ (by omega); rfl; rintro e w' ⟨u, hu0, hu1, rfl, rfl⟩
              refine ⟨_, rfl, HS, ?_⟩
              have r3 : IntKind.i64.wrap (p + (x.src.size : Int) + (x.name.size : Int) + u) = p + (x.src.size : Int) + (x.name.size : Int) + u := IntWalk.i64_in _ (by omega)
              simp only [Act.put, List.setIfInBounds_toArray, List.set_cons_zero, List.set_cons_succ]
              repeat (first | (apply wpPlan_look; rfl; rfl; (intro wq hq; (try dsimp only at hq); go_split_ands; go_simp; (try rw [if_neg (by omega)]); (try rw [if_pos (by omega)]); try with_reducible rfl); simp only [Act.put, List.setIfInBounds_toArray, List.set_cons_zero, List.set_cons_succ]) | (apply wpPlan_skip; rfl; rfl; simp only [Act.put, List.setIfInBounds_toArray, List.set_cons_zero, List.set_cons_succ]) | (apply wpPlan_pass; rfl; rfl; assumption; simp only [Act.put, List.setIfInBounds_toArray, List.set_cons_zero, List.set_cons_succ]))
              apply wpPlan_done
              have HB4 := Lib.hid HB3.out.drew
              have HR := Lib.hid (show q ≤ p + (x.src.size : Int) + (x.name.size : Int) + u ∧ p + (x.src.size : Int) + (x.name.size : Int) + u ≤ 8000000000000000 by omega)
              clear HS k0 k1 k2 q0 q1 q2 q3 q4 n1 r1 r2 r3 HB3 HK
              go_wp2_with fail
              go_roundw
              case rel => exact ⟨j + 1, _, by omega, by go_num, rfl, HR.out.1, HR.out.2, HB4⟩
              case measure => simp [intOf]; omega
            · by_cases hlt2 : j < m.imps.length
              · have hb2 : ¬ p ≤ 2147483647 := fun h => hgo ⟨hlt2, h⟩
                clear hgo
                go_wp2_with fail
                go_meet
                case rel => exact ⟨p, rfl, hp0, hp1, HBI⟩
              · clear hgo
                go_wp2_with fail
                go_meet
                case rel => exact ⟨p, rfl, hp0, hp1, HBI⟩
        case rest =>
          obtain ⟨p0, rfl, hp00, hp01, HBI⟩ := hcut
          have HBW := Lib.hid (below_later HBI.out HBD.out)
          have HN5 := Lib.hid (cell_later HBI.out HN2.out)
          have HD5 := Lib.hid (HD.out.later HBI.out)
          clear n1 HI HD HN1 HN2 HBI HBD
          have n2 := HN5.out
          go_wp2_with fail
          clear n2
          go_loopw [3, 7] (fun nv iv wr => ∃ (j : Nat) (p : Int), j ≤ m.defs.length ∧ iv = .int .i64 j ∧ nv = .int .i64 p ∧ p0 ≤ p ∧ p ≤ 8000000000000000 ∧ Hid (∀ B : Nat, p ≤ (B : Int) → ∀ d ∈ m.defs.take j, d.tree.length ≤ B) ∧ Hid (Below wc.heap.size wc wr)) (fun _ i _ => m.defs.length - (intOf i).toNat)
          case atStart => exact ⟨0, p0, Nat.zero_le _, rfl, rfl, Int.le_refl _, hp01, Lib.hid (by simp), Lib.hid (Below.refl _ _)⟩
          case round =>
            obtain ⟨j, p, hj, rfl, rfl, hp0, hp1, HP, HBD⟩ := hrel
            have n2 := cell_later HBD.out HN5.out
            by_cases hgo : j < m.defs.length ∧ p ≤ 2147483647
            · obtain ⟨hlt2, hb2⟩ := hgo
              obtain ⟨b3, off3, tv, rfl, ⟨q0, q1, q2, q3, q4, q5⟩, ht⟩ := (HD5.out.later HBD.out).at_ hlt2
              obtain ⟨At, ct, rfl⟩ := ht.form
              have hx3 : m.defs[j]? = some m.defs[j] := List.getElem?_eq_getElem hlt2
              have HDZ := Lib.hid (HMZ.out.2.2.2 _ (List.mem_of_getElem? hx3))
              have HX3 := Lib.hid hx3
              generalize m.defs[j] = d at *
              have z1 := HDZ.out.1
              have z2 := HDZ.out.2.1
              have z3 := HDZ.out.2.2.1
              have hb1 : Below wr.heap.size wr (wr.alloc (.cells #[.string d.name, .bool d.out, .string d.t, .slice At d.tree.length ct, .int .i64 d.line, .int .i64 d.col] 84)) := (Below.refl _ _).alloc (Nat.le_refl _) _
              have HB3 := Lib.hid (below_later hb1 HBD.out)
              have HK := Lib.hid (Blk.alloc wr #[.string d.name, .bool d.out, .string d.t, .slice At d.tree.length ct, .int .i64 d.line, .int .i64 d.col] 84)
              have HT := Lib.hid (ht.later hb1)
              have r1 : IntKind.i64.wrap (p + (d.name.size : Int)) = p + (d.name.size : Int) := IntWalk.i64_in _ (by omega)
              clear hx3 hb1 ht
              go_wp2_with fail
              generalize wr.alloc (.cells #[.string d.name, .bool d.out, .string d.t, .slice At d.tree.length ct, .int .i64 d.line, .int .i64 d.col] 84) = w3 at *
              have k0 := HK.out.cell (i := 0) rfl
              have k1 := HK.out.cell (i := 2) rfl
              have k2 := HK.out.cell (i := 3) rfl
              refine wp_region_plan (S := fun w' => w'.cell? ⟨wr.heap.size, 0, none⟩ = some (.string d.name) ∧ w'.cell? ⟨wr.heap.size, 2, none⟩ = some (.string d.t) ∧ w'.cell? ⟨wr.heap.size, 3, none⟩ = some (.slice At d.tree.length ct)) [(0, true), (1, true), (2, true), (3, true), (4, true), (5, true), (6, true), (9, true), (10, true), (7, false), (8, true), (11, false), (12, true), (13, true)] (by kernel_rfl) (by kernel_rfl) (by kernel_rfl) (fun _ _ _ _ _ h => h) ⟨k0, k1, k2⟩ ?_
              intro HS
              repeat (first | (apply wpPlan_look; rfl; rfl; (intro wq hq; (try dsimp only at hq); go_split_ands; go_simp; (try rw [if_neg (by omega)]); (try rw [if_pos (by omega)]); try with_reducible rfl); simp only [Act.put, List.setIfInBounds_toArray, List.set_cons_zero, List.set_cons_succ]) | (apply wpPlan_skip; rfl; rfl; simp only [Act.put, List.setIfInBounds_toArray, List.set_cons_zero, List.set_cons_succ]) | (apply wpPlan_pass; rfl; rfl; assumption; simp only [Act.put, List.setIfInBounds_toArray, List.set_cons_zero, List.set_cons_succ]))
              apply wpPlan_call; rfl; rfl; rfl; rfl; kernel_rfl; exact sizeType_any d.t _ (by omega); rfl; rintro e w' ⟨u, hu0, hu1, rfl, rfl⟩
              refine ⟨_, rfl, HS, ?_⟩
              have r2 : IntKind.i64.wrap (p + (d.name.size : Int) + u) = p + (d.name.size : Int) + u := IntWalk.i64_in _ (by omega)
              simp only [Act.put, List.setIfInBounds_toArray, List.set_cons_zero, List.set_cons_succ]
              repeat (first | (apply wpPlan_look; rfl; rfl; (intro wq hq; (try dsimp only at hq); go_split_ands; go_simp; (try rw [if_neg (by omega)]); (try rw [if_pos (by omega)]); try with_reducible rfl); simp only [Act.put, List.setIfInBounds_toArray, List.set_cons_zero, List.set_cons_succ]) | (apply wpPlan_skip; rfl; rfl; simp only [Act.put, List.setIfInBounds_toArray, List.set_cons_zero, List.set_cons_succ]) | (apply wpPlan_pass; rfl; rfl; assumption; simp only [Act.put, List.setIfInBounds_toArray, List.set_cons_zero, List.set_cons_succ]))
              apply wpPlan_call; rfl; rfl; rfl; rfl; kernel_rfl; exact SizeNodes_up d.tree _ _ (HT.out.later (Below.refl w3.heap.size w3).drew) z3 (szOk_of HDZ.out.2.2); rfl; rintro e w4 ⟨s, hs0, hs1, -, rfl, hb4⟩
              refine ⟨_, rfl, ⟨cell_later hb4 HS.1, cell_later hb4 HS.2.1, cell_later hb4 HS.2.2⟩, ?_⟩
              have r3 : IntKind.i64.wrap (p + (d.name.size : Int) + u + s) = p + (d.name.size : Int) + u + s := IntWalk.i64_in _ (by omega)
              simp only [Act.put, List.setIfInBounds_toArray, List.set_cons_zero, List.set_cons_succ]
              repeat (first | (apply wpPlan_look; rfl; rfl; (intro wq hq; (try dsimp only at hq); go_split_ands; go_simp; (try rw [if_neg (by omega)]); (try rw [if_pos (by omega)]); try with_reducible rfl); simp only [Act.put, List.setIfInBounds_toArray, List.set_cons_zero, List.set_cons_succ]) | (apply wpPlan_skip; rfl; rfl; simp only [Act.put, List.setIfInBounds_toArray, List.set_cons_zero, List.set_cons_succ]) | (apply wpPlan_pass; rfl; rfl; assumption; simp only [Act.put, List.setIfInBounds_toArray, List.set_cons_zero, List.set_cons_succ]))
              apply wpPlan_done
              have HB4 := Lib.hid (below_later hb4 HB3.out.drew)
              have HR := Lib.hid (show p0 ≤ p + (d.name.size : Int) + u + s ∧ p + (d.name.size : Int) + u + s ≤ 8000000000000000 by omega)
              have HP2 : Hid (∀ B : Nat, p + (d.name.size : Int) + u + s ≤ (B : Int) → ∀ y ∈ m.defs.take (j + 1), y.tree.length ≤ B) := Lib.hid (fun B hB y hy => by
                have h0 : (0 : Int) ≤ p := by omega
                rcases Mo.mem_step HX3.out hy with h | rfl
                · exact HP.out B (by omega) y h
                · omega)
              clear HS k0 k1 k2 q0 q1 q2 q3 q4 q5 n2 r1 r2 r3 HB3 HK HT HP hb4
              go_wp2_with fail
              go_roundw
              case rel => exact ⟨j + 1, _, by omega, by go_num, rfl, HR.out.1, HR.out.2, HP2, HB4⟩
              case measure => simp [intOf]; omega
            · by_cases hlt2 : j < m.defs.length
              · have hb2 : ¬ p ≤ 2147483647 := fun h => hgo ⟨hlt2, h⟩
                have HP2 : Hid (∀ B : Nat, p ≤ (B : Int) → B ≤ 2147483647 → ∀ d ∈ m.defs, d.tree.length ≤ B) := Lib.hid (fun B h1 h2 => by omega)
                have HB6 := Lib.hid (below_later HBD.out HBW.out)
                have HM2 : Hid (∀ B : Nat, p ≤ (B : Int) → B ≤ 2147483647 → ∀ y ∈ L.take (k + 1), Mo.ModLe B y) := Lib.hid (fun B h1 h2 y hy => by
                  rcases Mo.mem_step HX.out hy with h | rfl
                  · exact HM.out B (by omega) h2 y h
                  · exact ⟨by omega, by omega, HP2.out B h1 h2⟩)
                clear hgo
                go_wp2_with fail
                go_roundw
                case rel => exact ⟨k + 1, p, by omega, by go_num, rfl, by omega, hp1, HM2, HB6⟩
                case measure => simp [intOf]; omega
              · have HP2 : Hid (∀ B : Nat, p ≤ (B : Int) → B ≤ 2147483647 → ∀ d ∈ m.defs, d.tree.length ≤ B) := Lib.hid (fun B h1 _ d hd => HP.out B h1 d (by rw [List.take_of_length_le (by omega)]; exact hd))
                have HB6 := Lib.hid (below_later HBD.out HBW.out)
                have HM2 : Hid (∀ B : Nat, p ≤ (B : Int) → B ≤ 2147483647 → ∀ y ∈ L.take (k + 1), Mo.ModLe B y) := Lib.hid (fun B h1 h2 y hy => by
                  rcases Mo.mem_step HX.out hy with h | rfl
                  · exact HM.out B (by omega) h2 y h
                  · exact ⟨by omega, by omega, HP2.out B h1 h2⟩)
                clear hgo
                go_wp2_with fail
                go_roundw
                case rel => exact ⟨k + 1, p, by omega, by go_num, rfl, by omega, hp1, HM2, HB6⟩
                case measure => simp [intOf]; omega
      · have HR : Hid (∀ B : Nat, n ≤ (B : Int) → B ≤ 2147483647 → Mo.ModsLe B L) := Lib.hid (fun B h1 h2 => by omega)
        go_wp2_with fail
        go_ret
        exact ⟨n, ⟨by omega, by omega⟩, rfl, HB.out, HR.out⟩
    · have HR : Hid (∀ B : Nat, n ≤ (B : Int) → B ≤ 2147483647 → Mo.ModsLe B L) := Lib.hid (fun B h1 h2 => ⟨by omega, fun m hm => HM.out B h1 h2 m (by rw [List.take_of_length_le (by omega)]; exact hm)⟩)
      go_wp2_with fail
      go_ret
      exact ⟨n, ⟨by omega, by omega⟩, rfl, HB.out, HR.out⟩
theorem SizeModules_any (L : List Md) (v : Value) (w : World) (hL : Mods w v L) (hl : L.length ≤ 1000000000000000) (hz : ∀ m ∈ L, MdSz m) : Calls Tryz.prog 7 #[v] w (SizeMods L w) :=
  (SizeModules_up L v w hL hl hz).mono fun _ _ ⟨n, _, h1, h2, h3⟩ => ⟨n, h1, h2, h3⟩
end Go.Proofs.YtidholghbjljaaaGreatDoor
