
/- Walks of trees: kinds, types, annotations, names. -/
import Derived.Test.YtdobaililmkkcaaGreatDoorTr
import Derived.Test.YtdobaililmkkcaaGreatDoorR4W
import Derived.Test.YtdobaililmkkcaaGreatDoorTxT
import Derived.Test.YtdobaililmkkcaaGreatDoorShelf
import Derived.Lib.IndexLaws
namespace Go.Proofs.YtdobaililmkkcaaGreatDoor
set_option linter.unusedSimpArgs false
set_option linter.unusedVariables false
open Go.RowKit Go.Maps Culp

set_option maxHeartbeats 1600000 in
theorem arities_any (k : Int) (w : World) : Calls Tryz.prog 65 #[.int .i8 k] w (Gives (.int .i64 (Tr.arit k)) w) := by
  go_enter Tryz.func65, Tryz.ntmps65
  go_wp2
  all_goals
    go_ret
    refine Gives.mk ?_
    simp_all [Tr.arit]
/-- What the document's Arity answers. -/
def arV (k : Int) : Value := if 0 ≤ Tr.arit k then .tuple #[.int .i64 (Tr.arit k), .bool true] else .tuple #[.int .i64 0, .bool false]
set_option maxHeartbeats 1600000 in
theorem rArity_any (k : Int) (w : World) : Calls Tryz.prog 100 #[.int .i8 k] w (Gives (arV k) w) := by
  go_enter Tryz.func100, Tryz.ntmps100
  go_wp2
  all_goals
    go_ret2
    refine Gives.mk ?_
    simp_all [arV, Tr.arit]
    try (split <;> decide)
theorem isType_any (s : ByteArray) (w : World) : Calls Tryz.prog 69 #[.string s] w (Gives (.bool (isTy s.data.toList)) w) := by
  go_enter Tryz.func69, Tryz.ntmps69
  go_wp2_with fail
  refine (Check_any s _).mono ?_
  rintro e w' ⟨rfl, ⟨h, rfl⟩ | ⟨h, p, _, rfl⟩⟩
  · have H := Lib.hid h
    clear h
    go_wp2_with fail
    go_ret
    exact Gives.mk (by rw [H.out]; rfl)
  · have H := Lib.hid h
    have hc : ((if 64 < s.size then 21 else 20 : Int) == 0) = false := by split <;> rfl
    generalize (if 64 < s.size then 21 else 20 : Int) = c at *
    clear h
    go_wp2_with fail
    go_ret
    exact Gives.mk (by rw [H.out]; rfl)
theorem nil_yes {s : ByteArray} (h : s.size = 0) : (s.toList == []) = true := by rw [toL', List.eq_nil_of_length_eq_zero (l := s.data.toList) (by rw [size_list]; exact h)]; rfl
theorem nil_no {s : ByteArray} (h : s.size ≠ 0) : (s.toList == []) = false := by
  rw [toL', beq_eq_false_iff_ne]
  intro e
  have := congrArg List.length e
  rw [size_list] at this
  exact h this
theorem note_nil {s : ByteArray} (h : s.size = 0) : Tr.note s.data.toList = true := by
  unfold Tr.note
  rw [List.eq_nil_of_length_eq_zero (l := s.data.toList) (by rw [size_list]; exact h)]; rfl
theorem note_some {s : ByteArray} (h : s.size ≠ 0) : Tr.note s.data.toList = isTy s.data.toList := by
  unfold Tr.note
  rw [decide_eq_false (fun e => h (by rw [← size_list, e]; rfl)), Bool.false_or]
theorem tNote_any (s : ByteArray) (w : World) : Calls Tryz.prog 68 #[.string s] w (Gives (.bool (Tr.note s.data.toList)) w) := by
  by_cases h : s.size = 0
  · have q := nil_yes h
    have H := Lib.hid (note_nil h)
    clear h
    go_enter Tryz.func68, Tryz.ntmps68
    go_wp2_with fail
    go_ret
    exact Gives.mk (by rw [H.out]; rfl)
  · have q := nil_no h
    have H := Lib.hid (note_some h)
    clear h
    go_enter Tryz.func68, Tryz.ntmps68
    go_wp2_with fail
    refine (isType_any s _).mono ?_
    rintro e w' ⟨rfl, rfl⟩
    rw [← H.out]
    go_wp2_with fail
    go_ret
    exact Gives.mk rfl
/-- What TypeEnd answers. -/
def endI (s : ByteArray) (k : Nat) : Nat := match eatAt s k 1 with | some r => s.size - r.length | none => 0
theorem end_some {s : ByteArray} {k j : Nat} (hj : j ≤ s.size) (h : eatAt s k 1 = some (s.data.toList.drop j)) : endI s k = j := by
  unfold endI
  rw [h]
  simp only [List.length_drop, size_list]
  omega
theorem end_none {s : ByteArray} {k : Nat} (h : eatAt s k 1 = none) : endI s k = 0 := by unfold endI; rw [h]
set_option maxHeartbeats 1600000 in
theorem TypeEnd_any (s : ByteArray) (k : Nat) (w : World) (hk : k ≤ s.size) (hs : s.size ≤ 1000000000000000) :
    Calls Tryz.prog 79 #[.string s, .int .i64 k] w (Gives (.int .i64 (endI s k)) w) := by
  go_enter Tryz.func79, Tryz.ntmps79
  go_wp2
  go_loop [1, 5] (fun a l => ∃ j n : Nat, j ≤ s.size ∧ n ≤ j + 1 ∧ a = .int .i64 j ∧ l = .int .i64 n ∧ Hid (eatAt s k 1 = eatAt s j n)) (fun a _ => s.size - (intOf a).toNat)
  case atStart => exact ⟨k, 1, by omega, by omega, rfl, rfl, rfl⟩
  case round =>
    obtain ⟨j, n, hj, hn, rfl, rfl, H⟩ := hrel
    rcases n with _ | n
    · have X : Hid (endI s k = j) := end_some hj (H.out.trans (by simp [eatAt]))
      clear H
      go_wp2
      all_goals
        go_ret
        exact Gives.mk (by rw [X.out]; rfl)
    · by_cases hlt : j < s.size
      · rcases byte_cases s[j] with h | h | h | h | h | h | h | h | ⟨ha, h1, h2, h3, h4, h5, h6, h7, h8⟩
        case inr.inr.inr.inr.inr.inr.inr.inr =>
          have X : Hid (endI s k = 0) := end_none (H.out.trans (eatAt_bad s n hlt ha))
          clear ha H
          go_wp2
          go_ret
          exact Gives.mk (by rw [X.out]; rfl)
        all_goals first
          | (have ha : ari s[j] = some 0 := by rw [h]; rfl
             have X : Hid (eatAt s k 1 = eatAt s (j + 1) (n + 0)) := H.out.trans (eatAt_step s n hlt ha)
             clear ha H
             go_wp2
             go_round
             case rel => exact ⟨j + 1, n + 0, by omega, by omega, by go_num, by go_num, X⟩
             case measure => (simp [intOf]; omega))
          | (have ha : ari s[j] = some 1 := by rw [h]; rfl
             have X : Hid (eatAt s k 1 = eatAt s (j + 1) (n + 1)) := H.out.trans (eatAt_step s n hlt ha)
             clear ha H
             go_wp2
             go_round
             case rel => exact ⟨j + 1, n + 1, by omega, by omega, by go_num, by go_num, X⟩
             case measure => (simp [intOf]; omega))
          | (have ha : ari s[j] = some 2 := by rw [h]; rfl
             have X : Hid (eatAt s k 1 = eatAt s (j + 1) (n + 2)) := H.out.trans (eatAt_step s n hlt ha)
             clear ha H
             go_wp2
             go_round
             case rel => exact ⟨j + 1, n + 2, by omega, by omega, by go_num, by go_num, X⟩
             case measure => (simp [intOf]; omega))
      · have X : Hid (endI s k = 0) := end_none (H.out.trans (eatAt_end s n (by omega)))
        clear H
        go_wp2
        go_ret
        exact Gives.mk (by rw [X.out]; rfl)
theorem isTy_end {s : ByteArray} (h0 : 1 ≤ s.size) (h64 : s.size ≤ 64) : isTy s.data.toList = decide (endI s 0 = s.size) := by
  unfold isTy endI eatAt
  rw [size_list, decide_eq_true h64, Bool.true_and, List.drop_zero, Bool.eq_iff_iff, beq_iff_eq, decide_eq_true_eq]
  cases h : eat s.data.toList 1 with
  | none => simp; omega
  | some r =>
    have := eat_length h
    rw [size_list] at this
    simp only [Option.some.injEq]
    constructor
    · rintro rfl; simp
    · intro h1
      exact List.eq_nil_of_length_eq_zero (by omega)
theorem rType_any (s : ByteArray) (w : World) : Calls Tryz.prog 57 #[.string s] w (Gives (.bool (isTy s.data.toList)) w) := by
  by_cases h0 : s.size < 1
  · have H : Hid (isTy s.data.toList = false) := Lib.hid (by rw [List.eq_nil_of_length_eq_zero (l := s.data.toList) (by rw [size_list]; omega)]; rfl)
    go_enter Tryz.func57, Tryz.ntmps57
    go_wp2_with fail
    go_ret
    exact Gives.mk (by rw [H.out]; rfl)
  by_cases h64 : 64 < s.size
  · have H := Lib.hid (isTy_long h64)
    go_enter Tryz.func57, Tryz.ntmps57
    go_wp2_with fail
    go_ret
    exact Gives.mk (by rw [H.out]; rfl)
  have H := Lib.hid (isTy_end (s := s) (by omega) (by omega))
  go_enter Tryz.func57, Tryz.ntmps57
  go_wp2_with fail
  refine (TypeEnd_any s 0 _ (Nat.zero_le _) (by omega)).mono ?_
  rintro e w' ⟨rfl, rfl⟩
  go_wp2_with fail
  go_ret
  refine Gives.mk ?_
  rw [H.out]
  refine bool_congr ?_
  rw [Bool.eq_iff_iff, beq_iff_eq, decide_eq_true_eq]
  omega
theorem rNote_any (s : ByteArray) (w : World) : Calls Tryz.prog 102 #[.string s] w (Gives (.bool (Tr.note s.data.toList)) w) := by
  by_cases h : s.size = 0
  · have q := nil_yes h
    have H := Lib.hid (note_nil h)
    clear h
    go_enter Tryz.func102, Tryz.ntmps102
    go_wp2_with fail
    go_ret
    exact Gives.mk (by rw [H.out]; rfl)
  · have q := nil_no h
    have H := Lib.hid (note_some h)
    clear h
    go_enter Tryz.func102, Tryz.ntmps102
    go_wp2_with fail
    refine (rType_any s _).mono ?_
    rintro e w' ⟨rfl, rfl⟩
    rw [← H.out]
    go_wp2_with fail
    go_ret
    exact Gives.mk rfl
end Go.Proofs.YtdobaililmkkcaaGreatDoor

/- Walks of trees: the two names of a function that calls itself. -/
namespace Culp.Tr
theorem two_some : ∀ (l : List UInt8) (i : Nat), l[i]? = some 32 → (∀ k, k < i → l[k]? ≠ some 32) → two l = some (l.take i, l.drop (i + 1))
  | [], i, h, _ => by simp at h
  | c :: l, 0, h, _ => by
    simp at h; subst h
    rw [two, if_pos (by decide)]; simp
  | c :: l, i + 1, h, h2 => by
    have hc : ¬ c.toNat = 32 := fun hc => h2 0 (by omega) (by simp; exact UInt8.toNat_inj.1 hc)
    rw [two, if_neg hc, two_some l i (by simpa using h) (fun k hk => by have := h2 (k + 1) (by omega); simpa using this)]
    simp
theorem two_none : ∀ (l : List UInt8), (∀ k : Nat, l[k]? ≠ some 32) → two l = none
  | [], _ => rfl
  | c :: l, h => by
    have hc : ¬ c.toNat = 32 := fun hc => h 0 (by simp; exact UInt8.toNat_inj.1 hc)
    rw [two, if_neg hc, two_none l (fun k => by have := h (k + 1); simpa using this)]
    rfl
theorem twoOk_some {l a b : List UInt8} (h : two l = some (a, b)) : twoOk l = (Tx.isName a && Tx.isName b) := by unfold twoOk; rw [h]
theorem twoOk_none {l : List UInt8} (h : two l = none) : twoOk l = false := by unfold twoOk; rw [h]
end Culp.Tr
namespace Go.Proofs.YtdobaililmkkcaaGreatDoor
open Go.RowKit Go.Maps Culp

/-- A text parted at its first blank, as it is handed back. -/
def CutV (s : ByteArray) : Value := match Tr.two s.data.toList with
  | some (a, b) => .tuple #[.string (bs a), .string (bs b), .bool true]
  | none => .tuple #[.string s, .string { data := #[] }, .bool false]
theorem cutV_some {s : ByteArray} {a b : List UInt8} (h : Tr.two s.data.toList = some (a, b)) : CutV s = .tuple #[.string (bs a), .string (bs b), .bool true] := by unfold CutV; rw [h]
theorem cutV_none {s : ByteArray} (h : Tr.two s.data.toList = none) : CutV s = .tuple #[.string s, .string { data := #[] }, .bool false] := by unfold CutV; rw [h]
theorem bs_self' (s : ByteArray) : bs s.data.toList = s := str_inj' rfl
theorem take_ext (s : ByteArray) (k : Nat) : s.extract 0 k = bs (s.data.toList.take k) := by rw [extract_bs]; simp
theorem drop_ext (s : ByteArray) (k : Nat) : s.extract k s.size = bs (s.data.toList.drop k) := by
  rw [extract_bs, List.take_of_length_le (by rw [List.length_drop, size_list]; omega)]
theorem get_byte' (s : ByteArray) (k : Nat) (hk : k < s.size) : s.data.toList[k]? = some s[k] := by
  rw [List.getElem?_eq_getElem (by rw [size_list]; exact hk)]; rfl
set_option maxHeartbeats 800000 in
theorem lcut_any (s : ByteArray) (w : World) (hs : s.size ≤ 1000000000000000) : Calls Tryz.prog 117 #[.string s, .string ⟨#[32]⟩] w (Makes (CutV s) w) := by
  have hidx := Tryz.stringslite_Index_one s 32 w
  have hge := Lib.indexByte_ge s.data.toList 32
  by_cases hn : Lib.indexByte s.data.toList 32 = -1
  · have H := Lib.hid (cutV_none (Tr.two_none _ (Lib.indexByte_none hn)))
    rw [hn] at hidx
    clear hge hn
    go_enter Tryz.func117, Tryz.ntmps117
    go_wp2_with fail
    refine hidx.mono ?_
    rintro e w' ⟨rfl, rfl⟩
    clear hidx
    go_wp2_with fail
    go_ret3
    exact Makes.mk H.out.symm (Below.refl _ _)
  · obtain ⟨i, hi⟩ := Int.eq_ofNat_of_zero_le (show 0 ≤ Lib.indexByte s.data.toList 32 by omega)
    obtain ⟨h1, h2⟩ := Lib.indexByte_some hi
    have hl : i < s.size := by have := (List.getElem?_eq_some_iff.1 h1).1; rw [size_list] at this; exact this
    have H := Lib.hid (cutV_some (Tr.two_some _ i h1 h2))
    rw [hi] at hidx
    clear hge hn hi h1 h2
    go_enter Tryz.func117, Tryz.ntmps117
    go_wp2_with fail
    refine hidx.mono ?_
    rintro e w' ⟨rfl, rfl⟩
    clear hidx
    go_wp2_with fail
    have r1 : IntKind.i64.wrap ((i : Int) + 1) = (i : Int) + 1 := IntWalk.i64_in _ (by omega)
    refine wp_region_plan (S := fun _ => True) [(0, true), (1, true), (2, true), (3, true), (4, true), (5, true), (6, true), (7, true), (8, true), (9, true), (10, true), (11, true)] (by kernel_rfl) (by kernel_rfl) (by kernel_rfl) (fun _ _ _ _ _ h => h) trivial ?_
    intro HS
    repeat (first | (apply wpPlan_look; rfl; rfl; (intro wq hq; (try dsimp only at hq); go_split_ands; go_simp; (try rw [if_neg (by omega)]); (try rw [if_pos (by omega)]); try with_reducible rfl); simp only [Act.put, List.setIfInBounds_toArray, List.set_cons_zero, List.set_cons_succ]) | (apply wpPlan_skip; rfl; rfl; simp only [Act.put, List.setIfInBounds_toArray, List.set_cons_zero, List.set_cons_succ]) | (apply wpPlan_pass; rfl; rfl; assumption; simp only [Act.put, List.setIfInBounds_toArray, List.set_cons_zero, List.set_cons_succ]))
    apply wpPlan_done
    clear r1 HS
    go_wp2_with fail
    go_ret3
    exact Makes.mk (by rw [H.out, ← take_ext, ← drop_ext]; rfl) (Below.refl _ _).drew
theorem cut_any (s : ByteArray) (w : World) (hs : s.size ≤ 1000000000000000) : Calls Tryz.prog 91 #[.string s, .string ⟨#[32]⟩] w (Makes (CutV s) w) := by
  have HC := Lib.hid (lcut_any s w hs)
  cases h : Tr.two s.data.toList with
  | none =>
    have H := Lib.hid (cutV_none h)
    clear h
    go_enter Tryz.func91, Tryz.ntmps91
    go_wp2_with fail
    refine HC.out.mono ?_
    rintro e w' ⟨rfl, hb⟩
    have HB := Lib.hid hb
    clear hb
    rw [H.out]
    go_wp2_with fail
    go_ret3
    exact Makes.mk (by rw [H.out]; rfl) HB.out
  | some ab =>
    obtain ⟨a, b⟩ := ab
    have H := Lib.hid (cutV_some h)
    clear h
    go_enter Tryz.func91, Tryz.ntmps91
    go_wp2_with fail
    refine HC.out.mono ?_
    rintro e w' ⟨rfl, hb⟩
    have HB := Lib.hid hb
    clear hb
    rw [H.out]
    go_wp2_with fail
    go_ret3
    exact Makes.mk (by rw [H.out]; rfl) HB.out
/-- What two answers: the names aside, may they be? -/
def TwoRes (s : ByteArray) (w : World) (e : Ending) (w' : World) : Prop := ∃ a b : ByteArray, e = .returned (.tuple #[.string a, .string b, .bool (Tr.twoOk s.data.toList)]) ∧ Below w.heap.size w w'
theorem two_len {l a b : List UInt8} (h : Tr.two l = some (a, b)) : a.length ≤ l.length ∧ b.length ≤ l.length := by
  induction l generalizing a with
  | nil => cases h
  | cons c l ih =>
    rw [Tr.two] at h
    split at h
    · simp at h; obtain ⟨rfl, rfl⟩ := h; simp
    · simp only [Option.map_eq_some_iff, Prod.exists, Prod.mk.injEq] at h
      obtain ⟨x, y, h1, rfl, rfl⟩ := h
      have := ih h1
      simp only [List.length_cons]; omega
theorem two_any (s : ByteArray) (w : World) (hs : s.size ≤ 140737488351232) (hS : Sp w) : Calls Tryz.prog 67 #[.string s] w (TwoRes s w) := by
  have HS := Lib.hid hS
  have HC := Lib.hid (cut_any s w (Nat.le_trans hs (by decide)))
  clear hS
  cases h : Tr.two s.data.toList with
  | none =>
    have H := Lib.hid (cutV_none h)
    have HT := Lib.hid (Tr.twoOk_none h)
    clear h
    go_enter Tryz.func67, Tryz.ntmps67
    go_wp2_with fail
    refine HC.out.mono ?_
    rintro e w' ⟨rfl, hb⟩
    have HB := Lib.hid hb
    clear hb
    rw [H.out]
    go_wp2_with fail
    go_ret3
    exact ⟨s, { data := #[] }, by rw [HT.out]; rfl, HB.out⟩
  | some ab =>
    obtain ⟨a, b⟩ := ab
    have H := Lib.hid (cutV_some h)
    have HT := Lib.hid (Tr.twoOk_some h)
    have hl := two_len h
    rw [size_list] at hl
    have HZA : Hid ((bs a).size ≤ 140737488351232) := Lib.hid (by rw [bs_size]; omega)
    have HZB : Hid ((bs b).size ≤ 140737488351232) := Lib.hid (by rw [bs_size]; omega)
    clear h hl
    go_enter Tryz.func67, Tryz.ntmps67
    go_wp2_with fail
    refine HC.out.mono ?_
    rintro e w' ⟨rfl, hb⟩
    have HB := Lib.hid hb
    clear hb
    rw [H.out]
    go_wp2_with fail
    refine (tIsName_any (bs a) _ HZA.out (HS.out.later HB.out)).mono ?_
    rw [bs_list]
    rintro e w2 ⟨rfl, hb2⟩
    have HB2 := Lib.hid (below_later hb2 HB.out)
    clear hb2
    cases ha : Tx.isName a with
    | false =>
      rw [ha] at HT
      go_wp2_with fail
      go_ret3
      exact ⟨bs a, bs b, by rw [HT.out]; rfl, HB2.out⟩
    | true =>
      rw [ha, Bool.true_and] at HT
      go_wp2_with fail
      refine (tIsName_any (bs b) _ HZB.out (HS.out.later HB2.out)).mono ?_
      rw [bs_list]
      rintro e w3 ⟨rfl, hb3⟩
      have HB3 := Lib.hid (below_later hb3 HB2.out)
      clear hb3
      rw [← HT.out]
      go_wp2_with fail
      go_ret3
      exact ⟨_, _, rfl, HB3.out⟩
end Go.Proofs.YtdobaililmkkcaaGreatDoor
