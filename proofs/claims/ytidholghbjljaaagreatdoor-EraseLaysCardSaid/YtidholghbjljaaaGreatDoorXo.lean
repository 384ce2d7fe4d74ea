
/- Walks of what statements lean on: lists of truths: with marks behind them, alike, spare. -/
import Derived.Test.YtidholghbjljaaaGreatDoorWv
import Derived.Test.YtidholghbjljaaaGreatDoorVk
import Derived.OwnWalk
namespace Go.Proofs.YtidholghbjljaaaGreatDoor
set_option linter.unusedSimpArgs false
set_option linter.unusedVariables false
open Go.RowKit Go.Maps Culp Culp.Er
/-- The mark at a place. -/
def mkB (k : Nat) : Bool := (((9437184 + 3 * (k : Int) + 1).tdiv 2).tmod 2 == 1)
def wideB (l : List Bool) (k : Nat) : Option Bool := if k < l.length then l[k]? else some (mkB k)
def BlsF (w : World) (g : Nat) (l : List Bool) (n : Nat) : Prop := ∀ k x, k < n → wideB l k = some x → w.cell? ⟨g, k, none⟩ = some (.bool x)
/-- A row of truths with marks behind. -/
def BlsW (w : World) (g : Nat) (l : List Bool) : Prop := BlsF w g l (l.length + 64) ∧ g < w.heap.size
theorem BlsW.later {w w' : World} {g : Nat} {l : List Bool} (h : BlsW w g l) (hb : Below w.heap.size w w') : BlsW w' g l :=
  ⟨fun k x hk hx => cell_later hb (h.1 k x hk hx), Nat.lt_of_lt_of_le h.2 hb.size⟩
theorem BlsW.bools {w : World} {g : Nat} {l : List Bool} (h : BlsW w g l) : Bools w (.slice (some ⟨g, 0, none⟩) l.length (l.length + 64 : Nat)) l :=
  ⟨_, _, g, 0, rfl, fun _ => ⟨rfl, h.2⟩, fun j x hj => by
    have hlt := (List.getElem?_eq_some_iff.1 hj).1
    rw [Nat.zero_add]
    exact h.1 j x (by omega) (by unfold wideB; rw [if_pos hlt]; exact hj)⟩
theorem BlsF.put {w : World} {g n k : Nat} {l : List Bool} {x : Bool} (hr : RowG 4 g n w) (hk : k < n) (h : BlsF w g l k) (hx : wideB l k = some x) : BlsF (w.setCell ⟨g, k, none⟩ (.bool x)) g l (k + 1) := fun i y hi hy => by
  rcases Nat.lt_or_ge i k with hik | hik
  · exact set_else (h i y hik hy) (by omega)
  · obtain rfl : i = k := by omega
    rw [hx] at hy
    obtain rfl := Option.some.inj hy
    exact hr.same hk _
theorem bool_info : (Tryz.prog.info? 4).map (fun i => (i.zero, i.size, i.bytes)) = some (some (.bool false), 1, 1) := by kernel_rfl
theorem hnum2_any (i : Nat) (hi : i ≤ 1000000000000000) (w : World) : Calls Tryz.prog 64 #[.int .i64 9, .int .i64 i] w (Gives (.int .i64 (9437184 + (i : Int) + 1)) w) := by
  go_enter Tryz.func64, Tryz.ntmps64
  go_wp2_with fail
  go_ret
  exact Gives.mk rfl
theorem mark_num (k : Nat) : ((3 * k : Nat) : Int) = 3 * (k : Int) := by omega
set_option maxRecDepth 100000 in
set_option maxHeartbeats 3200000 in
theorem WideBools_any (l : List Bool) (v : Value) (w : World) (hb : Bools w v l) (hl : l.length ≤ 140737488351232) : Calls Tryz.prog 20 #[v] w (WideL BlsW l w) := by
  obtain ⟨A, c, b, o, rfl, h1, h2⟩ := hb
  have H1 := Lib.hid h1
  have H2 := Lib.hid h2
  obtain ⟨i0, hi, hz0, hz1, hz2⟩ := info_parts bool_info
  clear h1 h2
  go_enter Tryz.func20, Tryz.ntmps20
  go_wp2_with (refine wpList_make_full _ rfl (.tmp 7) (.tmp 7) 67 rfl w.heap.size 4 i0 _ 1 Tryz.underlying67 hi hz0 hz1 .i64 .i64 ((l.length : Int) + 64) ((l.length : Int) + 64) (l.length + 64) rfl rfl (by omega) (by omega) (by rw [hz2]; omega) (by unfold maxLen; omega) (Nat.le_refl _) ?_)
  intro w1 hown hgr
  have HR := Lib.hid (row_made hown rfl)
  have HB : Hid (Below w.heap.size w w1) := Lib.hid ((Below.refl _ _).grown hgr (Nat.le_refl _) fun k hk => by cases hk)
  clear hown hgr
  go_wp2_with fail
  go_loopw [4] (fun i wr => ∃ k : Nat, k ≤ l.length + 64 ∧ i = .int .i64 k ∧ Hid (RowG 4 w.heap.size ((l.length + 64) * 1) wr) ∧ Hid (BlsF wr w.heap.size l k) ∧ Hid (Below w.heap.size w wr)) (fun i _ => l.length + 64 - (intOf i).toNat)
  case atStart => exact ⟨0, Nat.zero_le _, rfl, HR, Lib.hid (fun k x h => by omega), HB⟩
  case round =>
    obtain ⟨k, hk, rfl, HRr, HFr, HBr⟩ := hrel
    by_cases hlt : k < l.length + 64
    · have hrw : w.heap.size < wr.heap.size := HRr.out.lt
      obtain ⟨v0, r0⟩ := HRr.out.cell (i := k) (by omega)
      have f0 := HRr.out.free k
      by_cases hkL : k < l.length
      · obtain ⟨rfl, hbw⟩ := H1.out (by omega)
        have hx : l[k]? = some l[k] := List.getElem?_eq_getElem hkL
        have n0 := cell_later HBr.out (H2.out k _ hx)
        have hw : wideB l k = some l[k] := by unfold wideB; rw [if_pos hkL]; exact hx
        have HR3 : Hid (RowG 4 w.heap.size ((l.length + 64) * 1) (wr.setCell ⟨w.heap.size, k, none⟩ (.bool l[k]))) := Lib.hid (HRr.out.set _ _)
        have HF3 := Lib.hid (HFr.out.put HRr.out (by omega) hw)
        have HB3 : Hid (Below w.heap.size w (wr.setCell ⟨w.heap.size, k, none⟩ (.bool l[k]))) := Lib.hid (HBr.out.setCell (Nat.le_refl _) _)
        generalize l[k] = x at *
        clear hx hw HRr HFr HBr
        go_wp2_with fail
        go_roundw
        case rel => exact ⟨k + 1, by omega, by go_num, HR3, HF3, HB3⟩
        case measure => simp [intOf]; omega
      · have HN := Lib.hid (hnum2_any (3 * k) (by omega) wr)
        have r1 : IntKind.i64.wrap (3 * (k : Int)) = 3 * (k : Int) := IntWalk.i64_in _ (by omega)
        have hw : wideB l k = some (mkB k) := by unfold wideB; rw [if_neg hkL]
        rw [mark_num] at HN
        have HR3 : Hid (RowG 4 w.heap.size ((l.length + 64) * 1) (wr.setCell ⟨w.heap.size, k, none⟩ (.bool (mkB k)))) := Lib.hid (HRr.out.set _ _)
        have HF3 := Lib.hid (HFr.out.put HRr.out (by omega) hw)
        have HB3 : Hid (Below w.heap.size w (wr.setCell ⟨w.heap.size, k, none⟩ (.bool (mkB k)))) := Lib.hid (HBr.out.setCell (Nat.le_refl _) _)
        have HMK := Lib.hid (show mkB k = (((9437184 + 3 * (k : Int) + 1).tdiv 2).tmod 2 == 1) from rfl)
        clear hw HRr HFr HBr
        go_wp2_with fail
        refine HN.out.mono ?_
        rintro e w' ⟨rfl, rfl⟩
        clear r1
        obtain ⟨q, hq⟩ : ∃ q, q = 9437184 + 3 * (k : Int) + 1 := ⟨_, rfl⟩
        rw [← hq] at HMK ⊢
        have q0 : 0 ≤ q := by omega
        have q1 : q ≤ 1000000000000000 := by omega
        have r2 : IntKind.i64.wrap (q.tdiv 2) = q.tdiv 2 := IntWalk.i64_in _ (by rw [Int.tdiv_eq_ediv_of_nonneg q0]; omega)
        have r3 : IntKind.i64.wrap ((q.tdiv 2).tmod 2) = (q.tdiv 2).tmod 2 := IntWalk.i64_in _ (by rw [Int.tdiv_eq_ediv_of_nonneg q0, Int.tmod_eq_emod_of_nonneg (by omega)]; omega)
        rw [HMK.out] at HR3 HF3 HB3
        clear hq HMK HN
        go_wp2_with fail
        go_roundw
        case rel => exact ⟨k + 1, by omega, by go_num, HR3, HF3, HB3⟩
        case measure => simp [intOf]; omega
    · obtain rfl : k = l.length + 64 := by omega
      have hlt : w.heap.size < wr.heap.size := HRr.out.lt
      go_wp2_with fail
      go_ret
      exact ⟨_, Nat.le_refl _, rfl, ⟨HFr.out, HRr.out.lt⟩, HBr.out⟩
set_option maxRecDepth 100000 in
set_option maxHeartbeats 1600000 in
theorem EqBools_same (l : List Bool) (u v : Value) (w : World) (hu : Bools w u l) (hv : Bools w v l) (hl : l.length ≤ 1000000000000000) : Calls Tryz.prog 26 #[u, v] w (Makes (.bool true) w) := by
  obtain ⟨A, c, b, o, rfl, h1, h2⟩ := hu
  obtain ⟨A', c', b', o', rfl, h1', h2'⟩ := hv
  have H1 := Lib.hid h1
  have H2 := Lib.hid h2
  have H1' := Lib.hid h1'
  have H2' := Lib.hid h2'
  clear h1 h2 h1' h2'
  go_enter Tryz.func26, Tryz.ntmps26
  go_wp2_with fail
  go_loopw [5] (fun i wr => ∃ k : Nat, k ≤ l.length ∧ i = .int .i64 k ∧ Hid (Below w.heap.size w wr)) (fun i _ => l.length - (intOf i).toNat)
  case atStart => exact ⟨0, Nat.zero_le _, rfl, Lib.hid (Below.refl _ _)⟩
  case round =>
    obtain ⟨k, hk, rfl, HB⟩ := hrel
    by_cases hlt : k < l.length
    · obtain ⟨rfl, -⟩ := H1.out (by omega)
      obtain ⟨rfl, -⟩ := H1'.out (by omega)
      have hx : l[k]? = some l[k] := List.getElem?_eq_getElem hlt
      have a0 : wr.cell? ⟨b, o + k, none⟩ = some (.bool l[k]) := cell_later HB.out (H2.out k _ hx)
      have b0 : wr.cell? ⟨b', o' + k, none⟩ = some (.bool l[k]) := cell_later HB.out (H2'.out k _ hx)
      generalize l[k] = x at *
      clear hx
      go_wp2_with fail
      refine wp_region_plan (S := fun w' => w'.cell? ⟨b, o + k, none⟩ = some (.bool x) ∧ w'.cell? ⟨b', o' + k, none⟩ = some (.bool x))
        [(0, true), (1, true), (2, true), (3, true), (4, true), (5, true), (6, true), (7, true), (8, true)] (by kernel_rfl) (by kernel_rfl) (by kernel_rfl) (fun _ _ _ _ _ h => h) ⟨a0, b0⟩ ?_
      clear a0 b0
      intro HP
      repeat (first | (apply wpPlan_look; rfl; rfl; (intro wq hq; (try dsimp only at hq); go_split_ands; go_simp; (try rw [if_neg (by omega)]); (try rw [if_pos (by omega)]); try with_reducible rfl); simp only [Act.put, List.setIfInBounds_toArray, List.set_cons_zero, List.set_cons_succ]) | (apply wpPlan_skip; rfl; rfl; simp only [Act.put, List.setIfInBounds_toArray, List.set_cons_zero, List.set_cons_succ]) | (apply wpPlan_pass; rfl; rfl; assumption; simp only [Act.put, List.setIfInBounds_toArray, List.set_cons_zero, List.set_cons_succ]))
      apply wpPlan_done
      clear HP
      have HB2 := Lib.hid HB.out.drew
      go_wp2_with fail
      go_roundw
      case rel => exact ⟨k + 1, by omega, by go_num, HB2⟩
      case measure => simp [intOf]; omega
    · go_wp2_with fail
      go_ret
      exact Makes.mk rfl HB.out
set_option maxRecDepth 100000 in
set_option maxHeartbeats 1600000 in
theorem SpareBools_any (l : List Bool) (g : Nat) (w : World) (hn : BlsW w g l) (hl : l.length ≤ 140737488351232) : Calls Tryz.prog 27 #[.slice (some ⟨g, 0, none⟩) l.length (l.length + 64 : Nat)] w (Makes (.bool true) w) := by
  have HN := Lib.hid hn
  clear hn
  go_enter Tryz.func27, Tryz.ntmps27
  go_wp2_with fail
  go_loopw [4] (fun i wr => ∃ k : Nat, l.length ≤ k ∧ k ≤ l.length + 64 ∧ i = .int .i64 k ∧ Hid (Below w.heap.size w wr)) (fun i _ => l.length + 64 - (intOf i).toNat)
  case atStart => exact ⟨l.length, by omega, by omega, rfl, Lib.hid (Below.refl _ _)⟩
  case round =>
    obtain ⟨k, hk0, hk, rfl, HB⟩ := hrel
    by_cases hlt : k < l.length + 64
    · have n0 : wr.cell? ⟨g, k, none⟩ = some (.bool (mkB k)) := cell_later HB.out (HN.out.1 k _ hlt (by unfold wideB; rw [if_neg (by omega)]))
      have HQ := Lib.hid (hnum2_any (3 * k) (by omega) wr)
      have r1 : IntKind.i64.wrap (3 * (k : Int)) = 3 * (k : Int) := IntWalk.i64_in _ (by omega)
      rw [mark_num] at HQ
      have HMK := Lib.hid (show mkB k = (((9437184 + 3 * (k : Int) + 1).tdiv 2).tmod 2 == 1) from rfl)
      go_wp2_with fail
      refine HQ.out.mono ?_
      rintro e w' ⟨rfl, rfl⟩
      clear r1 n0
      obtain ⟨q, hq⟩ : ∃ q, q = 9437184 + 3 * (k : Int) + 1 := ⟨_, rfl⟩
      rw [← hq] at HMK ⊢
      have q0 : 0 ≤ q := by omega
      have q1 : q ≤ 1000000000000000 := by omega
      have r2 : IntKind.i64.wrap (q.tdiv 2) = q.tdiv 2 := IntWalk.i64_in _ (by rw [Int.tdiv_eq_ediv_of_nonneg q0]; omega)
      have r3 : IntKind.i64.wrap ((q.tdiv 2).tmod 2) = (q.tdiv 2).tmod 2 := IntWalk.i64_in _ (by rw [Int.tdiv_eq_ediv_of_nonneg q0, Int.tmod_eq_emod_of_nonneg (by omega)]; omega)
      rw [HMK.out]
      clear hq HMK HQ
      go_wp2_with fail
      go_roundw
      case rel => exact ⟨k + 1, by omega, by omega, by go_num, HB⟩
      case measure => simp [intOf]; omega
    · go_wp2_with fail
      go_ret
      exact Makes.mk rfl HB.out
end Go.Proofs.YtidholghbjljaaaGreatDoor
