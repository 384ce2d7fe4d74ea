/- The walk of deep: it answers. -/
import Derived.Test.YtnmhiddahfnkoaaOneW
namespace Go.Proofs.Ytnmhiddahfnkoaa
set_option linter.unusedSimpArgs false
set_option linter.unusedVariables false
open Go.RowKit Culp

theorem int_info : (Try.prog.info? 3).map (fun i => (i.zero, i.size, i.bytes)) = some (some (.int .i64 0), 1, 8) := by kernel_rfl
/-- Whole numbers, as cells. -/
abbrev ints (l : List Int) : List Value := l.map (.int .i64)
/-- A row of the call's own, shorter. -/
theorem own_cut {w : World} {base : Nat} {e : TypeId} {g n c : Nat} {xs : List Value} (h : w.ownsRow base e 1 (.slice (some ⟨g, 0, none⟩) n c) n xs) {m : Nat} (hm : m ≤ n) : w.ownsRow base e 1 (.slice (some ⟨g, 0, none⟩) m c) m (xs.take m) := by
  obtain ⟨h1, h2⟩ := h
  refine ⟨by simp; omega, .inr ?_⟩
  rcases h2 with ⟨h, _⟩ | ⟨g', cap, cur, hv, hb, hh, hc, hmx, hsz, htk⟩
  · cases h
  · simp only [Value.slice.injEq, Option.some.injEq, Addr.mk.injEq] at hv
    obtain ⟨⟨rfl, _⟩, _, rfl⟩ := hv
    exact ⟨g, c, cur, rfl, hb, hh, by omega, hmx, hsz, by rw [← htk, List.take_take]; congr 1; omega⟩
/-- One of its cells, changed. -/
theorem own_set {w : World} {base : Nat} {e : TypeId} {g n c : Nat} {xs : List Value} (h : w.ownsRow base e 1 (.slice (some ⟨g, 0, none⟩) n c) n xs) (i : Nat) (u : Value) : (w.setCell ⟨g, i, none⟩ u).ownsRow base e 1 (.slice (some ⟨g, 0, none⟩) n c) n (xs.set i u) := by
  obtain ⟨h1, h2⟩ := h
  refine ⟨by simpa using h1, .inr ?_⟩
  rcases h2 with ⟨h, _⟩ | ⟨g', cap, cur, hv, hb, hh, hc, hmx, hsz, htk⟩
  · cases h
  · simp only [Value.slice.injEq, Option.some.injEq, Addr.mk.injEq] at hv
    obtain ⟨⟨rfl, _⟩, _, rfl⟩ := hv
    refine ⟨g, c, cur.setIfInBounds i u, rfl, hb, by simp [World.setCell, Array.getElem?_modify, hh], hc, hmx, by simpa using hsz, ?_⟩
    rw [← htk, Array.toList_setIfInBounds, List.take_set]
theorem own_free {w : World} {base : Nat} {e : TypeId} {g n c : Nat} {xs : List Value} (h : w.ownsRow base e 1 (.slice (some ⟨g, 0, none⟩) n c) n xs) (i : Nat) : w.frozen? ⟨g, i, none⟩ = false := by
  rcases h.2 with ⟨h, _⟩ | ⟨g', cap, cur, hv, hb, hh, _⟩
  · cases h
  · simp only [Value.slice.injEq, Option.some.injEq, Addr.mk.injEq] at hv
    obtain ⟨⟨rfl, _⟩, _⟩ := hv
    simp [World.frozen?, hh]

/-- What deep holds. -/
def Lefts (base : Nat) (v : Value) (n : Nat) (w : World) : Prop := ∃ l : List Int, w.ownsRow base 3 1 v n (ints l)
theorem Lefts.form {base : Nat} {v : Value} {n : Nat} {w : World} (h : Lefts base v n w) : (n = 0 ∧ ∃ A c, v = .slice A 0 c) ∨ (0 < n ∧ ∃ g c, v = .slice (some ⟨g, 0, none⟩) n c ∧ base ≤ g ∧ n ≤ c ∧ ∀ i, i < n → ∃ z, w.cell? ⟨g, i, none⟩ = some (.int .i64 z)) := by
  obtain ⟨l, h⟩ := h
  rcases Nat.eq_zero_or_pos n with h0 | h0
  · subst h0
    obtain ⟨A, c, rfl, _⟩ := own_form h
    exact .inl ⟨rfl, A, c, rfl⟩
  · obtain ⟨g, c, rfl, hb, _, hc, hl, hcell⟩ := own_read h h0
    simp at hl
    exact .inr ⟨h0, g, c, rfl, hb, hc, fun i hi => ⟨l[i]'(by omega), hcell i _ (by simp [ints, show i < l.length by omega])⟩⟩
theorem Lefts.cut {base g n c : Nat} {w : World} (h : Lefts base (.slice (some ⟨g, 0, none⟩) n c) n w) {m : Nat} (hm : m ≤ n) : Lefts base (.slice (some ⟨g, 0, none⟩) m c) m w := by
  obtain ⟨l, h⟩ := h
  exact ⟨l.take m, by have := own_cut h hm; rwa [← List.map_take] at this⟩
theorem Lefts.set {base g n c : Nat} {w : World} (h : Lefts base (.slice (some ⟨g, 0, none⟩) n c) n w) (i : Nat) (z : Int) : Lefts base (.slice (some ⟨g, 0, none⟩) n c) n (w.setCell ⟨g, i, none⟩ (.int .i64 z)) := by
  obtain ⟨l, h⟩ := h
  exact ⟨l.set i z, by have := own_set h i (.int .i64 z); rwa [← List.map_set] at this⟩
theorem Lefts.free {base g n c : Nat} {w : World} (h : Lefts base (.slice (some ⟨g, 0, none⟩) n c) n w) (i : Nat) : w.frozen? ⟨g, i, none⟩ = false := by
  obtain ⟨l, h⟩ := h
  exact own_free h i

def lenOf : Value → Nat
  | .slice _ n _ => n
  | _ => 0
def DeepRes (w : World) (e : Ending) (w' : World) : Prop := ∃ n : Int, e = .returned (.int .i64 n) ∧ Below w.heap.size w w'

set_option maxHeartbeats 1600000 in
theorem deep_any (T : List Nd) (tv : Value) (w : World) (hn : Nodes w tv T) (hT : T.length ≤ 100000) : Calls Try.prog 16 #[tv] w (DeepRes w) := by
  have HN := Lib.hid hn
  obtain ⟨A, c, rfl, hlc, hN⟩ := hn
  clear hN
  have h0 : Lefts w.heap.size (.slice none 0 0) 0 w := ⟨[], World.ownsRow_nil w w.heap.size 3 1⟩
  have HZ := Lib.hid h0
  clear h0
  go_enter Try.func16, Try.ntmps16
  go_wp2_with fail
  go_loopw [3, 4, 5] (fun v m i wr => ∃ (k n : Nat) (z : Int), k ≤ T.length ∧ n ≤ k ∧ i = .int .i64 k ∧ m = .int .i64 z ∧ Hid (Lefts w.heap.size v n wr) ∧ Hid (Below w.heap.size w wr)) (fun _ _ i _ => T.length - (intOf i).toNat)
  case atStart => exact ⟨0, 0, 0, by omega, by omega, rfl, rfl, HZ, Lib.hid (Below.refl _ _)⟩
  case round =>
    obtain ⟨k, n, z, hk, hnk, rfl, rfl, HO, HB⟩ := hrel
    by_cases hlt : k < T.length
    · obtain ⟨A2, c2, e2, _, hN⟩ := (HN.out.later HB.out)
      simp only [Value.slice.injEq] at e2
      obtain ⟨rfl, _, rfl⟩ := e2
      obtain ⟨b, off, rfl, hM⟩ := hN (by omega)
      have hx : T[k]? = some T[k] := List.getElem?_eq_getElem hlt
      have hc1 := hM k _ hx 1 _ rfl
      obtain ⟨l, hown⟩ := HO.out
      clear hN hM hx
      go_wp2_with (at_builtin; refine append_one rfl (.tmp 12) (.tmp 18) 64 3 rfl w.heap.size _ 8 Try.underlying64 int_info rfl _ _ _ rfl hown _ rfl rfl ?_ ?_ ?_ ?_)
      · omega
      · omega
      · exact HB.out.size
      · intro v' w' hown' hg hb'
        have HL : Hid (Lefts w.heap.size v' (n + 1) w') := Lib.hid ⟨l ++ [T[k].kids], by simpa using hown'⟩
        have HB2 := Lib.hid (HB.out.trans hb')
        clear hown' hg hb' hown hc1
        obtain ⟨g0, c0, rfl⟩ : ∃ g c, v' = .slice (some ⟨g, 0, none⟩) (n + 1) c := by
          rcases HL.out.form with ⟨h, _⟩ | ⟨_, g, c, h, _⟩
          · omega
          · exact ⟨g, c, h⟩
        go_wp2_with fail
        ·
          go_loopw [3] (fun v wi => ∃ m : Nat, m ≤ n + 1 ∧ Hid (Lefts w.heap.size v m wi) ∧ Hid (Below w.heap.size w wi)) (fun v _ => lenOf v)
          case atStart => exact ⟨n + 1, by omega, HL, HB2⟩
          case round =>
            obtain ⟨m, hm, HI, HBI⟩ := hrel
            rcases HI.out.form with ⟨rfl, A3, c3, rfl⟩ | ⟨hm0, g3, c3, rfl, hg3, hmc, hcells⟩
            · go_wp2_with fail
              go_roundw
              case rel => exact ⟨k + 1, 0, _, by omega, by omega, by go_num, rfl, HI, HBI⟩
              case measure => simp [intOf]; omega
            · obtain ⟨z1, hz1⟩ := hcells (m - 1) (by omega)
              by_cases hz : z1 ≤ 0
              · by_cases hm1 : 1 < m
                · obtain ⟨j, rfl⟩ : ∃ j, m = j + 2 := ⟨m - 2, by omega⟩
                  rw [show j + 2 - 1 = j + 1 by omega] at hz1
                  obtain ⟨z2, hz2⟩ := hcells j (by omega)
                  have HC := Lib.hid (HI.out.cut (show j + 1 ≤ j + 2 by omega))
                  have hfr := HC.out.free j
                  have HC2 : Hid (∀ y : Int, Lefts w.heap.size (.slice (some ⟨g3, 0, none⟩) (j + 1) c3) (j + 1) (wr.setCell ⟨g3, j, none⟩ (.int .i64 y))) := fun y => HC.out.set j y
                  have HB3 : Hid (∀ y : Value, Below w.heap.size w (wr.setCell ⟨g3, j, none⟩ y)) := fun y => HBI.out.setCell hg3 y
                  clear hcells
                  go_wp2_with fail
                  go_roundw
                  case rel => exact ⟨j + 1, by omega, HC2.out _, HB3.out _⟩
                  case measure => simp [lenOf]
                · obtain rfl : m = 1 := by omega
                  have HC := Lib.hid (HI.out.cut (show 0 ≤ 1 by omega))
                  go_wp2_with fail
                  go_roundw
                  case rel => exact ⟨0, by omega, HC, HBI⟩
                  case measure => simp [lenOf]
              · go_wp2_with fail
                go_roundw
                case rel => exact ⟨k + 1, m, _, by omega, by omega, by go_num, rfl, HI, HBI⟩
                case measure => simp [intOf]; omega
        ·
          go_loopw [3] (fun v wi => ∃ m : Nat, m ≤ n + 1 ∧ Hid (Lefts w.heap.size v m wi) ∧ Hid (Below w.heap.size w wi)) (fun v _ => lenOf v)
          case atStart => exact ⟨n + 1, by omega, HL, HB2⟩
          case round =>
            obtain ⟨m, hm, HI, HBI⟩ := hrel
            rcases HI.out.form with ⟨rfl, A3, c3, rfl⟩ | ⟨hm0, g3, c3, rfl, hg3, hmc, hcells⟩
            · go_wp2_with fail
              go_roundw
              case rel => exact ⟨k + 1, 0, _, by omega, by omega, by go_num, rfl, HI, HBI⟩
              case measure => simp [intOf]; omega
            · obtain ⟨z1, hz1⟩ := hcells (m - 1) (by omega)
              by_cases hz : z1 ≤ 0
              · by_cases hm1 : 1 < m
                · obtain ⟨j, rfl⟩ : ∃ j, m = j + 2 := ⟨m - 2, by omega⟩
                  rw [show j + 2 - 1 = j + 1 by omega] at hz1
                  obtain ⟨z2, hz2⟩ := hcells j (by omega)
                  have HC := Lib.hid (HI.out.cut (show j + 1 ≤ j + 2 by omega))
                  have hfr := HC.out.free j
                  have HC2 : Hid (∀ y : Int, Lefts w.heap.size (.slice (some ⟨g3, 0, none⟩) (j + 1) c3) (j + 1) (wr.setCell ⟨g3, j, none⟩ (.int .i64 y))) := fun y => HC.out.set j y
                  have HB3 : Hid (∀ y : Value, Below w.heap.size w (wr.setCell ⟨g3, j, none⟩ y)) := fun y => HBI.out.setCell hg3 y
                  clear hcells
                  go_wp2_with fail
                  go_roundw
                  case rel => exact ⟨j + 1, by omega, HC2.out _, HB3.out _⟩
                  case measure => simp [lenOf]
                · obtain rfl : m = 1 := by omega
                  have HC := Lib.hid (HI.out.cut (show 0 ≤ 1 by omega))
                  go_wp2_with fail
                  go_roundw
                  case rel => exact ⟨0, by omega, HC, HBI⟩
                  case measure => simp [lenOf]
              · go_wp2_with fail
                go_roundw
                case rel => exact ⟨k + 1, m, _, by omega, by omega, by go_num, rfl, HI, HBI⟩
                case measure => simp [intOf]; omega
    · obtain rfl : k = T.length := by omega
      go_wp2_with fail
      go_ret
      exact ⟨_, rfl, HB.out⟩
end Go.Proofs.Ytnmhiddahfnkoaa
