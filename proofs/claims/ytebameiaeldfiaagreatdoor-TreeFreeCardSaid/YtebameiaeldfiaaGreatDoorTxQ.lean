
/- Walks of package text: the words, as a map; names. -/
import Derived.Test.YtebameiaeldfiaaGreatDoorTxK
import Derived.Maps.Own
import Derived.Maps.OwnOps
import Derived.Maps.Views
import Derived.Lib.LaidTab
import Derived.Lib.Space
namespace Go.Proofs.YtebameiaeldfiaaGreatDoor
set_option linter.unusedSimpArgs false
set_option linter.unusedVariables false
open Go.RowKit Go.Maps Culp

/-- The library's table of blanks. -/
def Sp (w : World) : Prop := Lib.TabIs Tryz.prog w "strings.asciiSpace" .u8 Lib.asciiSpaceTab
theorem Sp.later {w w' : World} (h : Sp w) (hb : Below w.heap.size w w') : Sp w' := by
  unfold Sp Lib.TabIs World.var? at h ⊢
  cases hg : Tryz.prog.globalNamed "strings.asciiSpace" with
  | none => rw [hg] at h; cases h
  | some g =>
    rw [hg] at h
    simp only [Option.bind_some] at h ⊢
    have hlt : g < w.heap.size := by
      rcases Nat.lt_or_ge g w.heap.size with hlt | hge
      · exact hlt
      · rw [Array.getElem?_eq_none hge] at h; cases h
    rw [hb.block g hlt]
    exact h
/-- The words so far. -/
def wordsD : Nat → DataW Unit
  | 0 => .map []
  | k + 1 => (wordsD k).put (.string (Tx.words.getD k [])) (.lit (.int .i64 ((k : Int) + 1)))
theorem wordsD_map : ∀ k, IsMap (wordsD k)
  | 0 => ⟨[], rfl⟩
  | k + 1 => by
    obtain ⟨es, h⟩ := wordsD_map k
    rw [wordsD, h]
    exact ⟨_, rfl⟩
theorem wordsD_at (x : List UInt8) : ∀ k, k ≤ 23 → ∃ c : Int, (wordsD k).atKey (.string x) (.lit (.int .i64 0)) = .lit (.int .i64 c) ∧ 0 ≤ c ∧ (0 < c ↔ x ∈ Tx.words.take k)
  | 0, _ => ⟨0, rfl, by omega, by simp⟩
  | k + 1, h => by
    have hk : k < Tx.words.length := by have : Tx.words.length = 23 := rfl; omega
    have e : Tx.words.getD k [] = Tx.words[k] := by simp [List.getD, hk]
    rw [List.take_succ_eq_append_getElem hk, wordsD, e]
    by_cases hx : x = Tx.words[k]
    · refine ⟨(k : Int) + 1, ?_, by omega, ?_⟩
      · rw [hx]; exact atKey_put_same (wordsD_map k) (by trivial) _ _
      · constructor
        · intro _; rw [hx]; exact List.mem_append.2 (.inr (List.mem_singleton.2 rfl))
        · intro _; omega
    · obtain ⟨c, h1, h2, h3⟩ := wordsD_at x k (by omega)
      refine ⟨c, ?_, h2, ?_⟩
      · rw [atKey_put_other (by intro he; injection he with he; exact hx he)]; exact h1
      · rw [h3, List.mem_append]; simp [hx]
theorem wordsD_is (x : List UInt8) {c : Int} (h : (wordsD 23).atKey (.string x) (.lit (.int .i64 0)) = .lit (.int .i64 c)) : 0 ≤ c ∧ decide (0 < c) = Tx.isWord x := by
  obtain ⟨c', h1, h2, h3⟩ := wordsD_at x 23 (Nat.le_refl _)
  rw [h] at h1
  injection h1 with h1; injection h1 with _ h1
  subst h1
  refine ⟨h2, ?_⟩
  rw [show Tx.words.take 23 = Tx.words from rfl] at h3
  unfold Tx.isWord
  exact decide_eq_decide.2 h3
theorem lawS : Keyed Tryz.prog 9 := string_keyed Tryz.underlying9
theorem zeroI (w : World) : (zeroValue 3).run Tryz.prog w = .ok (.int .i64 0) w := by kernel_rfl
/-- The map of the words. -/
def WordsMap (w : World) (B : Nat) : Prop := w.ownsMap Tryz.prog 9 (plainElem Tryz.prog 3) B 23 (wordsD 23)
theorem WordsMap.same {w w' : World} {B : Nat} (h : WordsMap w B) (he : w'.heap[B]? = w.heap[B]?) : WordsMap w' B := by
  obtain ⟨es, clock, h1, h2⟩ := h
  exact ⟨es, clock, he.trans h1, h2⟩
theorem WordsMap.lt {w : World} {B : Nat} (h : WordsMap w B) : B < w.heap.size := by
  obtain ⟨es, clock, h1, h2⟩ := h
  rcases Nat.lt_or_ge B w.heap.size with hlt | hge
  · exact hlt
  · rw [Array.getElem?_eq_none hge] at h1; cases h1
theorem WordsMap.later {w w' : World} {B : Nat} (h : WordsMap w B) (hb : Below w.heap.size w w') : WordsMap w' B := h.same (hb.block B h.lt)
theorem WordsMap.keep {w w' : World} {B r : Nat} (h : WordsMap w B) (hk : Keep r w w') (hne : B ≠ r) : WordsMap w' B := h.same (hk.block B h.lt hne)
def MakesWords (w : World) (e : Ending) (w' : World) : Prop := ∃ B, e = .returned (.map (some B)) ∧ w.heap.size ≤ B ∧ WordsMap w' B ∧ Below w.heap.size w w'
def wordsText : ByteArray := bs [109,111,100,117,108,101,32,105,109,112,111,114,116,32,101,120,112,111,114,116,32,108,101,116,32,114,101,99,32,105,110,32,105,102,32,116,104,101,110,32,101,108,115,101,32,102,110,32,116,114,117,101,32,102,97,108,115,101,32,105,110,116,32,98,111,111,108,32,116,101,120,116,32,98,111,120,32,102,105,114,115,116,32,115,101,99,111,110,100,32,104,101,97,100,32,116,97,105,108,32,101,109,112,116,121,32,99,111,110,115,32,115,105,122,101]
theorem words_fields : Lib.fields wordsText.data.toList = Tx.words := by kernel_rfl
theorem words_ascii : ∀ b ∈ wordsText.data.toList, b.toNat < 128 := by decide
theorem words_call (w : World) (h : Sp w) : Calls Tryz.prog 64 #[.string wordsText] w (MakesStrs Tx.words w) := by
  refine (Tryz.strings_Fields wordsText w (by decide) (fun j b hb => words_ascii b (List.mem_of_getElem? hb)) h).mono ?_
  rintro e w' ⟨rfl, rfl⟩
  rw [words_fields]
  exact ⟨rfl, strs_alloc w Tx.words 9, (Below.refl _ _).alloc (Nat.le_refl _) _⟩

set_option maxHeartbeats 1600000 in
theorem twords_any (w : World) (hS : Sp w) : Calls Tryz.prog 104 #[] w (MakesWords w) := by
  have HS := Lib.hid hS
  clear hS
  have hmm := @run_makeMap Tryz.prog
  go_enter Tryz.func104, Tryz.ntmps104
  go_wp2_with fail
  refine (words_call _ (HS.out.later ((Below.refl _ _).alloc (Nat.le_refl _) _))).mono ?_
  rintro e w2 ⟨rfl, hS, hb⟩
  have HST := Lib.hid hS
  have hb0 : Below w.heap.size w w2 := below_later hb ((Below.refl _ _).alloc (Nat.le_refl _) _)
  have hown : w2.ownsMap Tryz.prog 9 (plainElem Tryz.prog 3) w.heap.size 0 (wordsD 0) := by
    obtain ⟨es, clock, h1, h2⟩ := World.ownsMap_made (H := Unit) w Tryz.prog 9 (plainElem Tryz.prog 3)
    exact ⟨es, clock, (hb.block _ (by simp)).trans h1, h2⟩
  clear hS hb
  go_wp2_with fail
  have hlen : Tx.words.length ≤ 23 := Nat.le_refl _
  have hst : Strs w2 (w.heap.size + 1) Tx.words := by have := HST.out; simpa using this
  have HST2 := Lib.hid hst
  clear hst HST
  go_loopw [7] (fun i wr => ∃ k : Nat, k ≤ Tx.words.length ∧ i = .int .i64 k ∧ wr.ownsMap Tryz.prog 9 (plainElem Tryz.prog 3) w.heap.size k (wordsD k) ∧ Below w.heap.size w wr ∧ Hid (Strs wr (w.heap.size + 1) Tx.words)) (fun i _ => Tx.words.length - (intOf i).toNat)
  case atStart => exact ⟨0, Nat.zero_le _, rfl, hown, hb0, HST2⟩
  case round =>
    obtain ⟨k, hk, rfl, hown, hbel, HS2⟩ := hrel
    by_cases hlt : k < Tx.words.length
    · have hcell := HS2.out k _ (List.getElem?_eq_getElem hlt)
      have hkey : keyOf Tryz.prog 9 (.string (bs Tx.words[k])) = some (.string Tx.words[k]) := Go.WideMaps.keyOf_string_mk Tryz.underlying9 (by have := (Tx.words_short _ (List.getElem_mem hlt)).2.1; rw [bs_size]; unfold maxLen; omega)
      have HD : Hid (wordsD (k + 1) = (wordsD k).put (.string Tx.words[k]) (.lit (.int .i64 ((k : Int) + 1)))) := Lib.hid (by rw [wordsD]; simp [List.getD, hlt])
      generalize Tx.words[k] = y at *
      go_wp2_with (at_mapUpdate; refine wpList_mapUpdate_own _ rfl _ _ _ 154 rfl 9 3 lawS Tryz.underlying154 _ w.heap.size k _ rfl hown (by unfold maxLen; omega) _ _ _ rfl rfl hkey _ [] (plainElem_int Tryz.underlying3 (by simp [Lit.wf, IntKind.min, IntKind.max, IntKind.signed, IntKind.bits]; omega)) ?_; intro w1 hown1 hgrow1)
      have hb1 := hbel.grown hgrow1 hbel.size (fun j hj => by cases hj; exact Nat.le_refl _)
      have HS3 : Hid (Strs w1 (w.heap.size + 1) Tx.words) := Lib.hid (fun j x hj => by
        have h1 := HS2.out j x hj
        have h2 := World.block_lt_of_cell? _ _ h1
        rw [World.cell?_of_block (w := wr) (hgrow1.block _ h2 (by simp))]
        exact h1)
      rw [← HD.out] at hown1
      clear hown hbel hgrow1 HS2
      go_wp2_with fail
      go_roundw
      case rel => exact ⟨k + 1, by omega, by go_num, hown1, hb1, HS3⟩
      case measure => simp [intOf]; omega
    · have hk23 : k = 23 := by have : Tx.words.length = 23 := rfl; omega
      have HO := Lib.hid hown
      have HB := Lib.hid hbel
      have HK := Lib.hid hk23
      clear hown hbel hk23
      go_wp2_with fail
      go_ret
      refine ⟨w.heap.size, rfl, Nat.le_refl _, ?_, HB.out⟩
      have := HO.out
      rw [HK.out] at this
      exact this
end Go.Proofs.YtebameiaeldfiaaGreatDoor
