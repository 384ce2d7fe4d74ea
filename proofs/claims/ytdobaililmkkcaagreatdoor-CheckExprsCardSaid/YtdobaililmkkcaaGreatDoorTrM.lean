
/- Walks of trees, the document's: where a part ends. -/
import Derived.Test.YtdobaililmkkcaaGreatDoorTr
import Derived.Test.YtdobaililmkkcaaGreatDoorTb
import Derived.Test.YtdobaililmkkcaaGreatDoorNode
namespace Culp.Tr
set_option linter.unusedSimpArgs false
set_option linter.unusedVariables false
theorem beh_nil (N : Nat) (left : Int) : beh N [] left = if left ≤ 0 then some 0 else none := rfl
theorem beh_cons (N : Nat) (x : Nd) (l : List Nd) (left : Int) : beh N (x :: l) left = if left ≤ 0 then some 0 else if x.kids < 0 ∨ (N : Int) < x.kids then none else (beh N l (left - 1 + x.kids)).map (· + 1) := by rw [beh]
theorem beh_zero (N : Nat) (l : List Nd) : beh N l 0 = some 0 := by cases l <;> rfl
/-- What is said of the part that begins at a place, on the way. -/
def behAt (T : List Nd) (a j : Nat) (left : Int) : Nat := match beh T.length (T.drop j) left with | some k => j + k | none => 0
theorem behAt_start {T : List Nd} {a : Nat} (ha : a < T.length) : behind T a = behAt T a a 1 := by
  unfold behind behAt
  rw [if_neg (by omega)]
  rfl
theorem behAt_zero (T : List Nd) (a j : Nat) : behAt T a j 0 = j := by unfold behAt; rw [beh_zero]; rfl
theorem behAt_end {T : List Nd} {a j : Nat} {left : Int} (hj : T.length ≤ j) (hl : 0 < left) : behAt T a j left = 0 := by
  unfold behAt
  rw [List.drop_of_length_le hj, beh_nil, if_neg (by omega)]
theorem behAt_bad {T : List Nd} {a j : Nat} {left : Int} (hj : j < T.length) (hl : 0 < left) (hx : T[j].kids < 0 ∨ (T.length : Int) < T[j].kids) : behAt T a j left = 0 := by
  unfold behAt
  rw [List.drop_eq_getElem_cons hj, beh_cons, if_neg (by omega), if_pos hx]
theorem behAt_step {T : List Nd} {a j : Nat} {left : Int} (hj : j < T.length) (hl : 0 < left) (hx : ¬ (T[j].kids < 0 ∨ (T.length : Int) < T[j].kids)) : behAt T a j left = behAt T a (j + 1) (left - 1 + T[j].kids) := by
  unfold behAt
  rw [List.drop_eq_getElem_cons hj, beh_cons, if_neg (by omega), if_neg hx]
  cases beh T.length (T.drop (j + 1)) (left - 1 + T[j].kids) with
  | none => rfl
  | some k => simp only [Option.map_some]; omega
end Culp.Tr
namespace Go.Proofs.YtdobaililmkkcaaGreatDoor
open Go.RowKit Go.Maps Culp

set_option maxRecDepth 100000 in
set_option maxHeartbeats 1600000 in
theorem rBehind_any (T : List Nd) (tv : Value) (a : Int) (w : World) (hn : Nodes w tv T) (hT : T.length ≤ 1000000) :
    Calls Tryz.prog 82 #[tv, .int .i64 a] w (Gives (.int .i64 (Tr.behind T a)) w) := by
  have HN := Lib.hid hn
  obtain ⟨A, c, rfl, hlc, _⟩ := hn
  by_cases ha : a < 0
  · have H : Hid (Tr.behind T a = 0) := Lib.hid (by unfold Tr.behind; rw [if_pos (.inl ha)])
    go_enter Tryz.func82, Tryz.ntmps82
    go_wp2_with fail
    go_ret
    exact Gives.mk (by rw [H.out]; rfl)
  by_cases ha2 : (T.length : Int) ≤ a
  · have H : Hid (Tr.behind T a = 0) := Lib.hid (by unfold Tr.behind; rw [if_pos (.inr ha2)])
    go_enter Tryz.func82, Tryz.ntmps82
    go_wp2_with fail
    go_ret
    exact Gives.mk (by rw [H.out]; rfl)
  obtain ⟨m, rfl⟩ := Int.eq_ofNat_of_zero_le (show 0 ≤ a by omega)
  have hm : m < T.length := by omega
  have HS0 := Lib.hid (Tr.behAt_start hm)
  clear ha ha2
  go_enter Tryz.func82, Tryz.ntmps82
  go_wp2_with fail
  go_loop [1, 5] (fun av lv => ∃ (j : Nat) (left : Int), m ≤ j ∧ j ≤ T.length ∧ 0 ≤ left ∧ left ≤ 1 + (j : Int) * 1000000 ∧ av = .int .i64 j ∧ lv = .int .i64 left ∧ Hid (Tr.behind T m = Tr.behAt T m j left)) (fun av _ => T.length - (intOf av).toNat)
  case atStart => exact ⟨m, 1, Nat.le_refl _, by omega, by omega, by omega, rfl, rfl, HS0⟩
  case round =>
    obtain ⟨j, left, hmj, hj, hl0, hl1, rfl, rfl, H⟩ := hrel
    by_cases hz : left = 0
    · have HF : Hid (Tr.behind T m = j) := Lib.hid (by rw [H.out, hz, Tr.behAt_zero])
      have hlz : ¬ 0 < left := by omega
      clear H hz
      go_wp2_with fail
      go_ret
      exact Gives.mk (by rw [HF.out]; rfl)
    have hlp : 0 < left := by omega
    by_cases hlt : j < T.length
    · obtain ⟨A2, c2, e2, _, hN⟩ := HN.out
      simp only [Value.slice.injEq] at e2
      obtain ⟨rfl, _, rfl⟩ := e2
      obtain ⟨b, off, rfl, hM⟩ := hN (by omega)
      have hx : T[j]? = some T[j] := List.getElem?_eq_getElem hlt
      obtain ⟨n0, n1, n2, n3, n4, n5, n6, n7⟩ := hM.at_ hx
      by_cases hb : T[j].kids < 0 ∨ (T.length : Int) < T[j].kids
      · have HF : Hid (Tr.behind T m = 0) := Lib.hid (by rw [H.out, Tr.behAt_bad hlt hlp hb])
        generalize T[j] = x at *
        clear hx hN hM H n0 n2 n3 n4 n5 n6 n7 hz
        rcases hb with hb | hb
        · go_wp2_with fail
          go_ret
          exact Gives.mk (by rw [HF.out]; rfl)
        · have hb0 : ¬ x.kids < 0 := by omega
          go_wp2_with fail
          go_ret
          exact Gives.mk (by rw [HF.out]; rfl)
      · have HF := Lib.hid (H.out.trans (Tr.behAt_step hlt hlp hb))
        generalize T[j] = x at *
        have hb1 : 0 ≤ x.kids := by omega
        have hb2 : x.kids ≤ (T.length : Int) := by omega
        have hlu : left ≤ 1 + 1000000 * 1000000 := by
          have : (j : Int) * 1000000 ≤ 1000000 * 1000000 := by omega
          omega
        clear hx hN hM H n0 n2 n3 n4 n5 n6 n7 hz hb
        go_wp2_with fail
        go_round
        case rel => exact ⟨.int .i64 ((j : Int) + 1), _, .int .i64 (left - 1 + x.kids), ⟨j + 1, by omega, by omega, left - 1 + x.kids, by omega, by omega, by go_num, rfl, HF⟩, rfl, rfl, rfl⟩
        case measure => simp [intOf]; omega
    · have HF : Hid (Tr.behind T m = 0) := Lib.hid (by rw [H.out, Tr.behAt_end (by omega) hlp])
      clear H hz
      go_wp2_with fail
      go_ret
      exact Gives.mk (by rw [HF.out]; rfl)
end Go.Proofs.YtdobaililmkkcaaGreatDoor

/- Plain: trees: parts one behind the other; a node's kids. -/
namespace Culp.Tr
theorem beh_neg (N : Nat) : ∀ (l : List Nd) (left : Int), left ≤ 0 → beh N l left = some 0
  | [], left, h => by rw [beh_nil, if_pos h]
  | x :: l, left, h => by rw [beh_cons, if_pos h]
/-- So many parts: first some of them, then the others. -/
theorem beh_add (N : Nat) : ∀ (l : List Nd) (a b : Int) (k : Nat), 0 ≤ a → 0 ≤ b → beh N l (a + b) = some k → ∃ j, beh N l a = some j ∧ j ≤ k ∧ j ≤ l.length ∧ beh N (l.drop j) b = some (k - j)
  | [], a, b, k, ha, hb, h => by
    rw [beh_nil] at h
    split at h
    · injection h with h; subst h
      exact ⟨0, by rw [beh_nil, if_pos (by omega)], Nat.le_refl _, Nat.le_refl _, by rw [List.drop_nil, beh_nil, if_pos (by omega)]⟩
    · cases h
  | x :: l, a, b, k, ha, hb, h => by
    by_cases ha0 : a = 0
    · subst ha0
      rw [Int.zero_add] at h
      exact ⟨0, by rw [beh_neg _ _ _ (Int.le_refl 0)], Nat.zero_le _, Nat.zero_le _, by rw [List.drop_zero]; exact h⟩
    · rw [beh_cons, if_neg (by omega)] at h
      split at h
      · cases h
      · rename_i hx
        simp only [Option.map_eq_some_iff] at h
        obtain ⟨k', hk', rfl⟩ := h
        obtain ⟨j, h1, h2, h3, h4⟩ := beh_add N l (a - 1 + x.kids) b k' (by omega) hb (by rw [← hk']; congr 1; omega)
        refine ⟨j + 1, ?_, by omega, by rw [List.length_cons]; omega, ?_⟩
        · rw [beh_cons, if_neg (by omega), if_neg hx, h1]; rfl
        · rw [List.drop_succ_cons, h4]; congr 1; omega
/-- The places of so many kids, from a place on. -/
def kidsFrom (T : List Nd) : Nat → Nat → List Nat
  | 0, _ => []
  | n + 1, p => p :: kidsFrom T n (behind T p)
def kidsOf (T : List Nd) (a : Int) : List Nat := if behind T a = 0 then [] else kidsFrom T ((T[a.toNat]?.map fun x => x.kids.toNat).getD 0) (a.toNat + 1)
theorem behind_pos {T : List Nd} {a : Int} (h : behind T a ≠ 0) : ∃ (m : Nat) (x : Nd) (k : Nat), a = m ∧ m < T.length ∧ T[m]? = some x ∧ 0 ≤ x.kids ∧ x.kids ≤ (T.length : Int) ∧ beh T.length (T.drop (m + 1)) x.kids = some k ∧ behind T a = m + 1 + k := by
  unfold behind at h ⊢
  split at h
  · exact absurd rfl h
  · rename_i hb
    rw [if_neg hb]
    obtain ⟨m, rfl⟩ := Int.eq_ofNat_of_zero_le (show 0 ≤ a by omega)
    have hm : m < T.length := by omega
    rw [show (m : Int).toNat = m from Int.toNat_natCast m] at h ⊢
    rw [List.drop_eq_getElem_cons hm, beh_cons, if_neg (by omega)] at h ⊢
    by_cases hx : T[m].kids < 0 ∨ (T.length : Int) < T[m].kids
    · rw [if_pos hx] at h; exact absurd rfl h
    · rw [if_neg hx] at h ⊢
      rw [show (1 : Int) - 1 + T[m].kids = T[m].kids by omega] at h ⊢
      cases hk : beh T.length (T.drop (m + 1)) T[m].kids with
      | none => rw [hk] at h; exact absurd rfl h
      | some k => exact ⟨m, T[m], k, rfl, hm, List.getElem?_eq_getElem hm, by omega, by omega, hk, by simp only [Option.map_some]; omega⟩
/-- Each of so many parts has its end. -/
theorem part_end {T : List Nd} {p n k : Nat} (h : beh T.length (T.drop p) ((n + 1 : Nat) : Int) = some k) : ∃ j, beh T.length (T.drop p) 1 = some j ∧ behind T (p : Int) = p + j ∧ beh T.length (T.drop (p + j)) (n : Int) = some (k - j) ∧ p + j ≤ T.length := by
  have hp : p < T.length := by
    rcases Nat.lt_or_ge p T.length with h1 | h1
    · exact h1
    · rw [List.drop_of_length_le h1, beh_nil, if_neg (by omega)] at h; cases h
  obtain ⟨j, h1, h2, h3, h4⟩ := beh_add T.length (T.drop p) 1 n k (by omega) (by omega) (by rw [← h]; congr 1; omega)
  rw [List.drop_drop] at h4
  rw [List.length_drop] at h3
  refine ⟨j, h1, ?_, h4, by omega⟩
  unfold behind
  rw [if_neg (by omega), show (p : Int).toNat = p from Int.toNat_natCast p, h1]
end Culp.Tr
