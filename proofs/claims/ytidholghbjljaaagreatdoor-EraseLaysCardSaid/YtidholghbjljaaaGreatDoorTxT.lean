
/- Walks of package text and of its reference: bytes. -/
import Derived.Test.YtidholghbjljaaaGreatDoorR4W
import Derived.IntWalk
import Derived.Deep.LoopGhost
import Derived.Test.YtidholghbjljaaaGreatDoorShelf
import Derived.Lib.IndexAny
import Derived.Maps.Own
import Derived.Maps.OwnOps
import Derived.Maps.Views
import Derived.Lib.LaidTab
import Derived.Lib.Space
namespace Go.Proofs.YtidholghbjljaaaGreatDoor
set_option linter.unusedSimpArgs false
set_option linter.unusedVariables false
open Go.RowKit Culp

set_option maxHeartbeats 400000 in
theorem tletter_any (c : UInt8) (w : World) : Calls Tryz.prog 148 #[.int .u8 (c.toNat : Int)] w (Gives (.bool (Tx.letter c)) w) := by
  go_enter Tryz.func148, Tryz.ntmps148
  go_wp2
  all_goals
    go_ret
    refine Gives.mk (bool_congr ?_)
    unfold Tx.letter
    rw [Bool.eq_iff_iff]
    simp
    try omega
set_option maxHeartbeats 400000 in
theorem rletter_any (c : UInt8) (w : World) : Calls Tryz.prog 90 #[.int .u8 (c.toNat : Int)] w (Gives (.bool (Tx.letter c)) w) := by
  go_enter Tryz.func90, Tryz.ntmps90
  go_wp2
  all_goals
    go_ret
    refine Gives.mk (bool_congr ?_)
    unfold Tx.letter
    rw [Bool.eq_iff_iff]
    simp
    try omega
set_option maxHeartbeats 400000 in
theorem tdigit_any (c : UInt8) (w : World) : Calls Tryz.prog 163 #[.int .u8 (c.toNat : Int)] w (Gives (.bool (Tx.digit c)) w) := by
  go_enter Tryz.func163, Tryz.ntmps163
  go_wp2
  all_goals
    go_ret
    refine Gives.mk (bool_congr ?_)
    unfold Tx.digit
    rw [Bool.eq_iff_iff]
    simp
    try omega
set_option maxHeartbeats 400000 in
theorem rdigit_any (c : UInt8) (w : World) : Calls Tryz.prog 92 #[.int .u8 (c.toNat : Int)] w (Gives (.bool (Tx.digit c)) w) := by
  go_enter Tryz.func92, Tryz.ntmps92
  go_wp2
  all_goals
    go_ret
    refine Gives.mk (bool_congr ?_)
    unfold Tx.digit
    rw [Bool.eq_iff_iff]
    simp
    try omega
set_option maxHeartbeats 400000 in
theorem inner_any (c : UInt8) (w : World) : Calls Tryz.prog 150 #[.int .u8 (c.toNat : Int)] w (Gives (.bool (Tx.inner c)) w) := by
  go_enter Tryz.func150, Tryz.ntmps150
  go_wp2_with fail
  refine (tletter_any c _).mono ?_
  rintro e w' ⟨rfl, rfl⟩
  have e1 : Tx.inner c = (Tx.letter c || Tx.digit c || decide (c.toNat = 95)) := rfl
  cases h1 : Tx.letter c
  · cases h2 : Tx.digit c
    all_goals
      go_wp2_with fail
      refine (tdigit_any c _).mono ?_
      rintro e w' ⟨rfl, rfl⟩
      go_wp2_with fail
      go_ret
      refine Gives.mk (bool_congr ?_)
      rw [e1, h1, h2, Bool.eq_iff_iff]
      simp
      try omega
  · go_wp2_with fail
    go_ret
    exact Gives.mk (bool_congr (by simp [e1, h1]))
end Go.Proofs.YtidholghbjljaaaGreatDoor

/- Passing over blanks and remarks, step by step; no program in sight. -/
namespace Culp.Tx
set_option linter.unusedSimpArgs false
set_option linter.unusedVariables false

/-- As far as a place all is blanks and remarks; where the line stands. -/
structure Pas (l : List UInt8) (at_ : Nat) (p : Nat × Nat) (b : Bool) (k : Nat) (line beg : Int) : Prop where
  le : at_ ≤ k
  lk : k ≤ l.length
  beh : behind false (l.drop at_) = (k - at_) + behind b (l.drop k)
  pl1 : line = (further p ((l.drop at_).take (k - at_))).1
  pl2 : beg = (k : Int) + 1 - (further p ((l.drop at_).take (k - at_))).2
  l0 : 0 ≤ line
  l1 : line ≤ k + 1
  b0 : 0 ≤ beg
  b1 : beg ≤ k
section
variable {l : List UInt8} {at_ k : Nat} {p : Nat × Nat} {line beg : Int} {b : Bool}
theorem behind_f (c : UInt8) (l : List UInt8) : behind false (c :: l) = if c.toNat = 35 then 1 + behind true l else if Tx.blank c = true then 1 + behind false l else 0 := by rw [behind]
theorem behind_t (c : UInt8) (l : List UInt8) : behind true (c :: l) = 1 + behind (decide (c.toNat ≠ 10)) l := by rw [behind]
theorem Pas.start (h : at_ ≤ l.length) (h1 : p.1 ≤ at_ + 1) (h2 : 1 ≤ p.2) (h3 : p.2 ≤ at_ + 1) : Pas l at_ p false at_ p.1 ((at_ : Int) + 1 - p.2) :=
  ⟨Nat.le_refl _, h, by simp, by simp [further], by simp [further], by omega, by omega, by omega, by omega⟩
theorem take_more (h : at_ ≤ k) (hk : k < l.length) : (l.drop at_).take (k + 1 - at_) = (l.drop at_).take (k - at_) ++ [l[k]] := by
  have e : k + 1 - at_ = (k - at_) + 1 := by omega
  have e2 : at_ + (k - at_) = k := by omega
  rw [e, List.take_succ_eq_append_getElem (by rw [List.length_drop]; omega), List.getElem_drop]
  simp only [e2]
theorem further_more (h : at_ ≤ k) (hk : k < l.length) : further p ((l.drop at_).take (k + 1 - at_)) = step (further p ((l.drop at_).take (k - at_))) l[k] := by
  rw [take_more h hk]; unfold further; rw [List.foldl_append]; rfl
theorem Pas.next (h : Pas l at_ p b k line beg) (hk : k < l.length) {b' : Bool} (hb : behind b (l.drop k) = 1 + behind b' (l.drop (k + 1))) (hn : l[k].toNat ≠ 10) : Pas l at_ p b' (k + 1) line beg := by
  have e := further_more (p := p) h.le hk
  have e2 : step (further p ((l.drop at_).take (k - at_))) l[k] = ((further p ((l.drop at_).take (k - at_))).1, (further p ((l.drop at_).take (k - at_))).2 + 1) := by unfold step; rw [if_neg hn]
  rw [e2] at e
  have := h.le; have := h.beh; have := h.pl1; have h2 := h.pl2; have := h.l1; have := h.b1
  exact ⟨by omega, by omega, by omega, by rw [e]; exact h.pl1, by rw [e]; simp only; omega, h.l0, by omega, h.b0, by omega⟩
theorem drop_at (hk : k < l.length) : l.drop k = l[k] :: l.drop (k + 1) := List.drop_eq_getElem_cons hk
theorem Pas.out (h : Pas l at_ p true k line beg) (hk : ∀ hk : k < l.length, l[k].toNat = 10) : Pas l at_ p false k line beg := by
  refine ⟨h.le, h.lk, ?_, h.pl1, h.pl2, h.l0, h.l1, h.b0, h.b1⟩
  rw [h.beh]
  by_cases hlt : k < l.length
  · have hc := hk hlt
    rw [drop_at hlt, behind_f, behind_t, if_neg (by omega), if_pos (by unfold blank; simp only [decide_eq_true_eq]; omega), decide_eq_false (by omega)]
  · rw [List.drop_of_length_le (by omega)]; rfl
theorem Pas.blank (h : Pas l at_ p false k line beg) (hk : k < l.length) (hc : l[k].toNat = 32 ∨ l[k].toNat = 9 ∨ l[k].toNat = 13) : Pas l at_ p false (k + 1) line beg :=
  h.next hk (by rw [drop_at hk, behind_f, if_neg (by omega), if_pos (by unfold Tx.blank; simp only [decide_eq_true_eq]; omega)]) (by omega)
end
end Culp.Tx

/- Walks of package text and of its reference: numbers. -/
namespace Go.Proofs.YtidholghbjljaaaGreatDoor
set_option linter.unusedSimpArgs false
set_option linter.unusedVariables false
open Go.RowKit Culp

def numV (l : List UInt8) : Int := match Tx.worth l with | some n => (n : Int) | none => 0
theorem numV_some {l : List UInt8} {n : Nat} (h : Tx.worth l = some n) : numV l = n := by unfold numV; rw [h]
theorem numV_none {l : List UInt8} (h : Tx.worth l = none) : numV l = 0 := by unfold numV; rw [h]
theorem take_snoc' (s : ByteArray) (k : Nat) (h : k < s.size) : s.data.toList.take (k + 1) = s.data.toList.take k ++ [s[k]] := by
  rw [List.take_succ_eq_append_getElem (by simpa using h)]; rfl
theorem size_list (s : ByteArray) : s.data.toList.length = s.size := by simp
theorem mem_get (s : ByteArray) (k : Nat) (h : k < s.size) : s[k] ∈ s.data.toList := by
  have : s.data.toList[k]'(by simpa using h) = s[k] := rfl
  rw [← this]; exact List.getElem_mem _
theorem not_all_of {l : List UInt8} {p : UInt8 → Bool} {x : UInt8} (hx : x ∈ l) (h : p x = false) : ¬ l.all p = true := fun ha => by
  rw [List.all_eq_true] at ha
  rw [ha x hx] at h; cases h
theorem head_get (s : ByteArray) (h : 0 < s.size) : s.data.toList.head? = some s[0] := by
  rw [List.head?_eq_getElem?, List.getElem?_eq_getElem (by simpa using h)]; rfl
def NumRes (l : List UInt8) (w : World) (e : Ending) (w' : World) : Prop := Gives (.tuple #[.int .i64 (numV l), .bool (Tx.worth l).isSome]) w e w'
theorem NumRes.no {l : List UInt8} {w : World} (h : Tx.worth l = none) : NumRes l w (.returned (.tuple #[.int .i64 0, .bool false])) w := Gives.mk (by rw [numV_none h, h]; rfl)
theorem NumRes.yes {l : List UInt8} {w : World} {n : Nat} (h : Tx.worth l = some n) : NumRes l w (.returned (.tuple #[.int .i64 (n : Int), .bool true])) w := Gives.mk (by rw [numV_some h, h]; rfl)

end Go.Proofs.YtidholghbjljaaaGreatDoor

/- Walks of the reference of package text: numbers. -/
namespace Go.Proofs.YtidholghbjljaaaGreatDoor
set_option linter.unusedSimpArgs false
set_option linter.unusedVariables false
open Go.RowKit Culp

def WorthRes (l : List UInt8) (w : World) (e : Ending) (w' : World) : Prop := ∃ v : Int, e = .returned (.tuple #[.int .i64 v, .bool (Tx.worth l).isSome]) ∧ (∀ n, Tx.worth l = some n → v = n) ∧ w = w'
theorem WorthRes.no {l : List UInt8} {w : World} {v : Int} (h : Tx.worth l = none) : WorthRes l w (.returned (.tuple #[.int .i64 v, .bool false])) w := ⟨v, by rw [h]; rfl, (fun n hn => by rw [h] at hn; cases hn), rfl⟩
theorem WorthRes.yes {l : List UInt8} {w : World} {n : Nat} (h : Tx.worth l = some n) : WorthRes l w (.returned (.tuple #[.int .i64 (n : Int), .bool true])) w := ⟨n, by rw [h]; rfl, (fun m hm => by rw [h] at hm; injection hm with hm; rw [hm]), rfl⟩

end Go.Proofs.YtidholghbjljaaaGreatDoor

/- Walks of package text and of its reference: a name's or a number's letters. -/
namespace Go.Proofs.YtidholghbjljaaaGreatDoor
set_option linter.unusedSimpArgs false
set_option linter.unusedVariables false
open Go.RowKit Culp

def bs (l : List UInt8) : ByteArray := ⟨l.toArray⟩
theorem bs_list (l : List UInt8) : (bs l).data.toList = l := rfl
theorem bs_size (l : List UInt8) : (bs l).size = l.length := rfl
theorem extract_bs (s : ByteArray) (a b : Nat) : s.extract a b = bs ((s.data.toList.drop a).take (b - a)) := str_inj' (by rw [Lib.extract_data, bs_list])
theorem inner_or {c : UInt8} (h : Tx.inner c = true) : Tx.letter c = true ∨ (Tx.letter c = false ∧ Tx.digit c = true) ∨ (Tx.letter c = false ∧ Tx.digit c = false ∧ (((c.toNat : Nat) : Int) == 95) = true) := by
  unfold Tx.inner at h
  simp only [Bool.or_eq_true, decide_eq_true_eq] at h
  cases h1 : Tx.letter c
  · cases h2 : Tx.digit c
    · rw [h1, h2] at h
      simp at h
      right; right
      refine ⟨rfl, rfl, ?_⟩
      simp [h]
    · exact .inr (.inl ⟨rfl, rfl⟩)
  · exact .inl rfl
theorem inner_nor {c : UInt8} (h : Tx.inner c = false) : Tx.letter c = false ∧ Tx.digit c = false ∧ (((c.toNat : Nat) : Int) == 95) = false := by
  unfold Tx.inner at h
  simp only [Bool.or_eq_false_iff, decide_eq_false_iff_not] at h
  refine ⟨h.1.1, h.1.2, ?_⟩
  rw [beq_eq_false_iff_ne]
  intro e
  exact h.2 (by omega)
section
variable {r : Nat} {v m : Value} {at_ line beg : Int} {w w' : World}
end
end Go.Proofs.YtidholghbjljaaaGreatDoor

/- Walks of package text: the reader's letters, blanks, places. -/
namespace Go.Proofs.YtidholghbjljaaaGreatDoor
set_option linter.unusedSimpArgs false
set_option linter.unusedVariables false
open Go.RowKit Culp

end Go.Proofs.YtidholghbjljaaaGreatDoor

/- Walks of package text: the reader passes over blanks and remarks. -/
namespace Go.Proofs.YtidholghbjljaaaGreatDoor
set_option linter.unusedSimpArgs false
set_option linter.unusedVariables false
open Go.RowKit Culp

end Go.Proofs.YtidholghbjljaaaGreatDoor

/- Walks of package text: the reader's place. -/
namespace Go.Proofs.YtidholghbjljaaaGreatDoor
set_option linter.unusedSimpArgs false
set_option linter.unusedVariables false
open Go.RowKit Culp

end Go.Proofs.YtidholghbjljaaaGreatDoor

/- Walks of package text and of its reference: a text in quotes. -/
namespace Culp.Tx
set_option linter.unusedSimpArgs false
set_option linter.unusedVariables false
/-- So far a text's token has been read. -/
def Unq (l : List UInt8) (k : Nat) (acc : List UInt8) : Prop := unq (l.drop 1) = (unq (l.drop k)).map (fun p => (acc ++ p.1, p.2 + (k - 1)))
theorem Unq.start (l : List UInt8) : Unq l 1 [] := by unfold Unq; simp
theorem Unq.more {l acc : List UInt8} {k n : Nat} {c : UInt8} (h : Unq l k acc) (h1 : 1 ≤ k) (hu : unq (l.drop k) = (unq (l.drop (k + n))).map (fun p => (c :: p.1, p.2 + n))) : Unq l (k + n) (acc ++ [c]) := by
  unfold Unq at h ⊢
  rw [h, hu]
  cases unq (l.drop (k + n)) with
  | none => rfl
  | some p => simp; omega
theorem Unq.none {l acc : List UInt8} {k : Nat} (h : Unq l k acc) (hu : unq (l.drop k) = Option.none) : unq (l.drop 1) = Option.none := by
  unfold Unq at h; rw [h, hu]; rfl
theorem Unq.done {l acc : List UInt8} {k : Nat} (h : Unq l k acc) (h1 : 1 ≤ k) (hu : unq (l.drop k) = some ([], 1)) : unq (l.drop 1) = some (acc, k) := by
  unfold Unq at h; rw [h, hu]; simp; omega
theorem drop1 {l : List UInt8} {k : Nat} (hk : k < l.length) : l.drop k = l[k] :: l.drop (k + 1) := List.drop_eq_getElem_cons hk
end Culp.Tx
namespace Go.Proofs.YtidholghbjljaaaGreatDoor
set_option linter.unusedSimpArgs false
set_option linter.unusedVariables false
open Go.RowKit Culp

def byteV (c : UInt8) : Value := .int .u8 (c.toNat : Int)
theorem u8_info : (Tryz.prog.info? 5).map (fun i => (i.zero, i.size, i.bytes)) = some (some (.int .u8 0), 1, 1) := by kernel_rfl
theorem text_none (c : Nat) (W : World) : (convert 127 9 (.slice none ([] : List UInt8).length c)).run Tryz.prog W = .ok (.string (bs [])) W := by kernel_rfl
theorem text_at (w : World) (g c : Nat) (l : List UInt8) (h : Lib.Bytes w g 0 (bs l)) : (convert 127 9 (.slice (some ⟨g, 0, none⟩) l.length c)).run Tryz.prog w = .ok (.string (bs l)) w := by
  have := Lib.run_convert_whole w 127 5 9 Tryz.underlying127 Tryz.underlying5 Tryz.underlying9 g 0 (bs l) h c
  rw [bs_size] at this
  exact this
/-- An own row of bytes, as text. -/
theorem own_text {w : World} {base : Nat} {v : Value} {l : List UInt8} (h : w.ownsRow base 5 1 v l.length (l.map byteV)) : (convert 127 9 v).run Tryz.prog w = .ok (.string (bs l)) w := by
  obtain ⟨A, c, rfl, hl, hA⟩ := own_form h
  rcases Nat.eq_zero_or_pos l.length with h0 | h0
  · have hl0 : l = [] := List.eq_nil_of_length_eq_zero h0
    subst hl0
    have hA2 : A = none ∨ ∃ g, A = some ⟨g, 0, none⟩ := by
      rcases h.2 with ⟨hv, _⟩ | ⟨g, cap, cur, hv, _⟩
      · injection hv with hv1 _ hv3
        exact .inl hv1
      · injection hv with hv1 _ hv3
        exact .inr ⟨g, hv1⟩
    clear h hl hA h0
    rcases hA2 with rfl | ⟨g, rfl⟩
    · exact text_none c w
    · exact text_at w g c [] (fun i hi => absurd hi (by rw [bs_size]; simp))
  · obtain ⟨g, rfl, _, hc⟩ := hA h0
    refine text_at w g c l (fun i hi => ?_)
    rw [Nat.zero_add]
    refine hc i _ ?_
    rw [List.getElem?_map, List.getElem?_eq_getElem (by rw [← bs_size]; exact hi)]
    rfl

/-- What quoted answers. -/
def QuotedRes (l : List UInt8) (base : Nat) (w : World) (e : Ending) (w' : World) : Prop := Below w.heap.size w w' ∧ match Tx.unq (l.drop 1) with
  | some (t, k) => e = .returned (.tuple #[.string (bs t), .int .i64 ((base + k + 1 : Nat) : Int), .bool (decide (t.length ≤ 64))])
  | none => ∃ x y, e = .returned (.tuple #[x, y, .bool false])
theorem QuotedRes.yes {l t : List UInt8} {base k : Nat} {w w' : World} {x : Int} {b : Bool} (h : Tx.unq (l.drop 1) = some (t, k)) (hb : Below w.heap.size w w') (hx : x = ((base + k + 1 : Nat) : Int)) (hb2 : b = decide (t.length ≤ 64)) : QuotedRes l base w (.returned (.tuple #[.string (bs t), .int .i64 x, .bool b])) w' := ⟨hb, by rw [h, hx, hb2]⟩
theorem QuotedRes.no {l : List UInt8} {base : Nat} {w w' : World} {x y : Value} (h : Tx.unq (l.drop 1) = none) (hb : Below w.heap.size w w') : QuotedRes l base w (.returned (.tuple #[x, y, .bool false])) w' := ⟨hb, by rw [h]; exact ⟨x, y, rfl⟩⟩

end Go.Proofs.YtidholghbjljaaaGreatDoor

/- Walks of the reference of package text: a text in quotes. -/
namespace Culp.Tx
set_option linter.unusedSimpArgs false
set_option linter.unusedVariables false
/-- So far a text's token has been read; places of the source. -/
def Unq2 (l : List UInt8) (at_ i : Nat) (acc : List UInt8) : Prop := Unq (l.drop at_) (i - at_) acc
section
variable {l acc : List UInt8} {at_ i n : Nat} {c : UInt8}
theorem Unq2.start : Unq2 l at_ (at_ + 1) [] := by
  unfold Unq2
  rw [show at_ + 1 - at_ = 1 by omega]
  exact Unq.start _
theorem drop_sub (h1 : at_ + 1 ≤ i) : (l.drop at_).drop (i - at_) = l.drop i := by rw [List.drop_drop]; congr 1; omega
theorem Unq2.more (h : Unq2 l at_ i acc) (h1 : at_ + 1 ≤ i) (hu : unq (l.drop i) = (unq (l.drop (i + n))).map (fun p => (c :: p.1, p.2 + n))) : Unq2 l at_ (i + n) (acc ++ [c]) := by
  unfold Unq2 at h ⊢
  rw [show i + n - at_ = (i - at_) + n by omega]
  refine h.more (by omega) ?_
  rw [drop_sub h1, show (i - at_) + n = i + n - at_ by omega, drop_sub (by omega), hu]
theorem Unq2.none (h : Unq2 l at_ i acc) (h1 : at_ + 1 ≤ i) (hu : unq (l.drop i) = Option.none) : unq ((l.drop at_).drop 1) = Option.none := Unq.none h (by rw [drop_sub h1, hu])
theorem Unq2.done (h : Unq2 l at_ i acc) (h1 : at_ + 1 ≤ i) (hu : unq (l.drop i) = some ([], 1)) : unq ((l.drop at_).drop 1) = some (acc, i - at_) := Unq.done h (by omega) (by rw [drop_sub h1, hu])
end
end Culp.Tx
namespace Go.Proofs.YtidholghbjljaaaGreatDoor
set_option linter.unusedSimpArgs false
set_option linter.unusedVariables false
open Go.RowKit Culp

end Go.Proofs.YtidholghbjljaaaGreatDoor

/- Walks of package text: marks. -/
namespace Go.Proofs.YtidholghbjljaaaGreatDoor
set_option linter.unusedSimpArgs false
set_option linter.unusedVariables false
open Go.RowKit Culp

theorem beq_bs (l m : List UInt8) : ((bs l).toList == m) = (l == m) := by rw [toL', bs_list]
end Go.Proofs.YtidholghbjljaaaGreatDoor

/- Walks of the reference of package text: lists of texts. -/
namespace Go.Proofs.YtidholghbjljaaaGreatDoor
set_option linter.unusedSimpArgs false
set_option linter.unusedVariables false
open Go.RowKit Culp

/-- Texts in a block. -/
def Strs (w : World) (g : Nat) (L : List (List UInt8)) : Prop := ∀ k x, L[k]? = some x → w.cell? ⟨g, k, none⟩ = some (.string (bs x))
theorem Strs.later {w w' : World} {g : Nat} {L : List (List UInt8)} (h : Strs w g L) (hb : Below w.heap.size w w') : Strs w' g L := fun k x hx => cell_later hb (h k x hx)
set_option maxHeartbeats 800000 in
theorem in_any (L : List (List UInt8)) (g c : Nat) (x : List UInt8) (w : World) (hL : Strs w g L) (hl : L.length ≤ 1000) :
    Calls Tryz.prog 117 #[.slice (some ⟨g, 0, none⟩) L.length c, .string (bs x)] w (Gives (.bool (decide (x ∈ L))) w) := by
  have HL := Lib.hid hL
  clear hL
  go_enter Tryz.func117, Tryz.ntmps117
  go_wp2_with fail
  go_loop [5] (fun i => ∃ k : Nat, k ≤ L.length ∧ i = .int .i64 k ∧ Hid (x ∉ L.take k)) (fun i => L.length - (intOf i).toNat)
  case atStart => exact ⟨0, Nat.zero_le _, rfl, Lib.hid (by simp)⟩
  case round =>
    obtain ⟨k, hk, rfl, HN⟩ := hrel
    by_cases hlt : k < L.length
    · have hget : L[k]? = some L[k] := List.getElem?_eq_getElem hlt
      have hcell := HL.out k _ hget
      have HT : Hid (L.take (k + 1) = L.take k ++ [L[k]]) := Lib.hid (List.take_succ_eq_append_getElem hlt)
      have HM : Hid (L[k] ∈ L) := Lib.hid (List.getElem_mem hlt)
      have hb := beq_bs L[k] (bs x).toList
      rw [toL' (bs x), bs_list] at hb
      clear hget
      generalize L[k] = y at *
      by_cases e : y = x
      · have HE := Lib.hid (show x ∈ L by rw [← e]; exact HM.out)
        have q : ((bs y).toList == (bs x).toList) = true := by rw [toL' (bs x), bs_list, hb, e]; simp
        clear e hb
        go_wp2_with fail
        go_ret
        exact Gives.mk (bool_congr (by simp [HE.out]))
      · have HE := Lib.hid (show x ∉ L.take (k + 1) by rw [HT.out, List.mem_append]; intro h; rcases h with h | h; · exact HN.out h
                                                       · simp at h; exact e h.symm)
        have q : ((bs y).toList == (bs x).toList) = false := by rw [toL' (bs x), bs_list, hb]; simp [e]
        clear e hb
        go_wp2_with fail
        go_round
        case rel => exact ⟨k + 1, by omega, by go_num, HE⟩
        case measure => simp [intOf]; omega
    · have HE := Lib.hid (show x ∉ L by have := HN.out; rw [List.take_of_length_le (by omega)] at this; exact this)
      go_wp2_with fail
      go_ret
      exact Gives.mk (bool_congr (by simp [HE.out]))

/-- A list of texts that a call makes. -/
def MakesStrs (L : List (List UInt8)) (w : World) (e : Ending) (w' : World) : Prop := e = .returned (.slice (some ⟨w.heap.size, 0, none⟩) L.length L.length) ∧ Strs w' w.heap.size L ∧ Below w.heap.size w w'
theorem strs_alloc (w : World) (L : List (List UInt8)) (t : TypeId) : Strs (w.alloc (.cells (L.map fun x => Value.string (bs x)).toArray t)) w.heap.size L := fun k x hx => by
  rw [World.cell?_alloc_at _ _ _ _ rfl]
  simp [hx]
set_option maxHeartbeats 800000 in
theorem rWords_any (w : World) : Calls Tryz.prog 118 #[] w (MakesStrs Tx.words w) := by
  go_enter Tryz.func118, Tryz.ntmps118
  go_wp2_with fail
  go_ret
  exact ⟨rfl, strs_alloc w Tx.words 9, (Below.refl _ _).alloc (Nat.le_refl _) _⟩
set_option maxHeartbeats 800000 in
theorem rIsWord_any (x : List UInt8) (w : World) : Calls Tryz.prog 91 #[.string (bs x)] w (Makes (.bool (Tx.isWord x)) w) := by
  go_enter Tryz.func91, Tryz.ntmps91
  go_wp2_with fail
  refine (rWords_any _).mono ?_
  rintro e w' ⟨rfl, hS, hb⟩
  have HS := Lib.hid hS
  have HB := Lib.hid hb
  clear hS hb
  go_wp2_with fail
  refine (in_any Tx.words _ _ x _ HS.out (by decide)).mono ?_
  rintro e w2 ⟨rfl, rfl⟩
  go_wp2_with fail
  go_ret
  exact Makes.mk rfl HB.out
end Go.Proofs.YtidholghbjljaaaGreatDoor

/- Walks of package text: the words, as a map; names. -/
namespace Go.Proofs.YtidholghbjljaaaGreatDoor
set_option linter.unusedSimpArgs false
set_option linter.unusedVariables false
open Go.RowKit Go.Maps Culp

/-- The library's table of blanks. -/
def Sp (w : World) : Prop := Lib.TabIs Tryz.prog w "strings.asciiSpace" .u8 Lib.asciiSpaceTab
theorem Sp.later {w w' : World} (h : Sp w) (hb : Below w.heap.size w w') : Sp w' := by
  unfold Sp Lib.TabIs World.var? at h ⊢
  cases hg : Tryz.prog.globalNamed "strings.asciiSpace" with
  | none => rw [hg] at h; cases h
  | some g =>
    rw [hg] at h
    simp only [Option.bind_some] at h ⊢
    have hlt : g < w.heap.size := by
      rcases Nat.lt_or_ge g w.heap.size with hlt | hge
      · exact hlt
      · rw [Array.getElem?_eq_none hge] at h; cases h
    rw [hb.block g hlt]
    exact h
/-- The words so far. -/
def wordsD : Nat → DataW Unit
  | 0 => .map []
  | k + 1 => (wordsD k).put (.string (Tx.words.getD k [])) (.lit (.int .i64 ((k : Int) + 1)))
theorem wordsD_map : ∀ k, IsMap (wordsD k)
  | 0 => ⟨[], rfl⟩
  | k + 1 => by
    obtain ⟨es, h⟩ := wordsD_map k
    rw [wordsD, h]
    exact ⟨_, rfl⟩
theorem wordsD_at (x : List UInt8) : ∀ k, k ≤ 23 → ∃ c : Int, (wordsD k).atKey (.string x) (.lit (.int .i64 0)) = .lit (.int .i64 c) ∧ 0 ≤ c ∧ (0 < c ↔ x ∈ Tx.words.take k)
  | 0, _ => ⟨0, rfl, by omega, by simp⟩
  | k + 1, h => by
    have hk : k < Tx.words.length := by have : Tx.words.length = 23 := rfl; omega
    have e : Tx.words.getD k [] = Tx.words[k] := by simp [List.getD, hk]
    rw [List.take_succ_eq_append_getElem hk, wordsD, e]
    by_cases hx : x = Tx.words[k]
    · refine ⟨(k : Int) + 1, ?_, by omega, ?_⟩
      · rw [hx]; exact atKey_put_same (wordsD_map k) (by trivial) _ _
      · constructor
        · intro _; rw [hx]; exact List.mem_append.2 (.inr (List.mem_singleton.2 rfl))
        · intro _; omega
    · obtain ⟨c, h1, h2, h3⟩ := wordsD_at x k (by omega)
      refine ⟨c, ?_, h2, ?_⟩
      · rw [atKey_put_other (by intro he; injection he with he; exact hx he)]; exact h1
      · rw [h3, List.mem_append]; simp [hx]
theorem wordsD_is (x : List UInt8) {c : Int} (h : (wordsD 23).atKey (.string x) (.lit (.int .i64 0)) = .lit (.int .i64 c)) : 0 ≤ c ∧ decide (0 < c) = Tx.isWord x := by
  obtain ⟨c', h1, h2, h3⟩ := wordsD_at x 23 (Nat.le_refl _)
  rw [h] at h1
  injection h1 with h1; injection h1 with _ h1
  subst h1
  refine ⟨h2, ?_⟩
  rw [show Tx.words.take 23 = Tx.words from rfl] at h3
  unfold Tx.isWord
  exact decide_eq_decide.2 h3
theorem lawS : Keyed Tryz.prog 9 := string_keyed Tryz.underlying9
theorem zeroI (w : World) : (zeroValue 3).run Tryz.prog w = .ok (.int .i64 0) w := by kernel_rfl
/-- The map of the words. -/
def WordsMap (w : World) (B : Nat) : Prop := w.ownsMap Tryz.prog 9 (plainElem Tryz.prog 3) B 23 (wordsD 23)
theorem WordsMap.same {w w' : World} {B : Nat} (h : WordsMap w B) (he : w'.heap[B]? = w.heap[B]?) : WordsMap w' B := by
  obtain ⟨es, clock, h1, h2⟩ := h
  exact ⟨es, clock, he.trans h1, h2⟩
theorem WordsMap.lt {w : World} {B : Nat} (h : WordsMap w B) : B < w.heap.size := by
  obtain ⟨es, clock, h1, h2⟩ := h
  rcases Nat.lt_or_ge B w.heap.size with hlt | hge
  · exact hlt
  · rw [Array.getElem?_eq_none hge] at h1; cases h1
theorem WordsMap.later {w w' : World} {B : Nat} (h : WordsMap w B) (hb : Below w.heap.size w w') : WordsMap w' B := h.same (hb.block B h.lt)
theorem WordsMap.keep {w w' : World} {B r : Nat} (h : WordsMap w B) (hk : Keep r w w') (hne : B ≠ r) : WordsMap w' B := h.same (hk.block B h.lt hne)
def MakesWords (w : World) (e : Ending) (w' : World) : Prop := ∃ B, e = .returned (.map (some B)) ∧ w.heap.size ≤ B ∧ WordsMap w' B ∧ Below w.heap.size w w'
def wordsText : ByteArray := bs [109,111,100,117,108,101,32,105,109,112,111,114,116,32,101,120,112,111,114,116,32,108,101,116,32,114,101,99,32,105,110,32,105,102,32,116,104,101,110,32,101,108,115,101,32,102,110,32,116,114,117,101,32,102,97,108,115,101,32,105,110,116,32,98,111,111,108,32,116,101,120,116,32,98,111,120,32,102,105,114,115,116,32,115,101,99,111,110,100,32,104,101,97,100,32,116,97,105,108,32,101,109,112,116,121,32,99,111,110,115,32,115,105,122,101]
theorem words_fields : Lib.fields wordsText.data.toList = Tx.words := by kernel_rfl
theorem words_ascii : ∀ b ∈ wordsText.data.toList, b.toNat < 128 := by decide
theorem words_call (w : World) (h : Sp w) : Calls Tryz.prog 167 #[.string wordsText] w (MakesStrs Tx.words w) := by
  refine (Tryz.strings_Fields wordsText w (by decide) (fun j b hb => words_ascii b (List.mem_of_getElem? hb)) h).mono ?_
  rintro e w' ⟨rfl, rfl⟩
  rw [words_fields]
  exact ⟨rfl, strs_alloc w Tx.words 9, (Below.refl _ _).alloc (Nat.le_refl _) _⟩

set_option maxHeartbeats 1600000 in
theorem twords_any (w : World) (hS : Sp w) : Calls Tryz.prog 162 #[] w (MakesWords w) := by
  have HS := Lib.hid hS
  clear hS
  have hmm := @run_makeMap Tryz.prog
  go_enter Tryz.func162, Tryz.ntmps162
  go_wp2_with fail
  refine (words_call _ (HS.out.later ((Below.refl _ _).alloc (Nat.le_refl _) _))).mono ?_
  rintro e w2 ⟨rfl, hS, hb⟩
  have HST := Lib.hid hS
  have hb0 : Below w.heap.size w w2 := below_later hb ((Below.refl _ _).alloc (Nat.le_refl _) _)
  have hown : w2.ownsMap Tryz.prog 9 (plainElem Tryz.prog 3) w.heap.size 0 (wordsD 0) := by
    obtain ⟨es, clock, h1, h2⟩ := World.ownsMap_made (H := Unit) w Tryz.prog 9 (plainElem Tryz.prog 3)
    exact ⟨es, clock, (hb.block _ (by simp)).trans h1, h2⟩
  clear hS hb
  go_wp2_with fail
  have hlen : Tx.words.length ≤ 23 := Nat.le_refl _
  have hst : Strs w2 (w.heap.size + 1) Tx.words := by have := HST.out; simpa using this
  have HST2 := Lib.hid hst
  clear hst HST
  go_loopw [7] (fun i wr => ∃ k : Nat, k ≤ Tx.words.length ∧ i = .int .i64 k ∧ wr.ownsMap Tryz.prog 9 (plainElem Tryz.prog 3) w.heap.size k (wordsD k) ∧ Below w.heap.size w wr ∧ Hid (Strs wr (w.heap.size + 1) Tx.words)) (fun i _ => Tx.words.length - (intOf i).toNat)
  case atStart => exact ⟨0, Nat.zero_le _, rfl, hown, hb0, HST2⟩
  case round =>
    obtain ⟨k, hk, rfl, hown, hbel, HS2⟩ := hrel
    by_cases hlt : k < Tx.words.length
    · have hcell := HS2.out k _ (List.getElem?_eq_getElem hlt)
      have hkey : keyOf Tryz.prog 9 (.string (bs Tx.words[k])) = some (.string Tx.words[k]) := Go.WideMaps.keyOf_string_mk Tryz.underlying9 (by have := (Tx.words_short _ (List.getElem_mem hlt)).2.1; rw [bs_size]; unfold maxLen; omega)
      have HD : Hid (wordsD (k + 1) = (wordsD k).put (.string Tx.words[k]) (.lit (.int .i64 ((k : Int) + 1)))) := Lib.hid (by rw [wordsD]; simp [List.getD, hlt])
      generalize Tx.words[k] = y at *
      go_wp2_with (at_mapUpdate; refine wpList_mapUpdate_own _ rfl _ _ _ 202 rfl 9 3 lawS Tryz.underlying202 _ w.heap.size k _ rfl hown (by unfold maxLen; omega) _ _ _ rfl rfl hkey _ [] (plainElem_int Tryz.underlying3 (by simp [Lit.wf, IntKind.min, IntKind.max, IntKind.signed, IntKind.bits]; omega)) ?_; intro w1 hown1 hgrow1)
      have hb1 := hbel.grown hgrow1 hbel.size (fun j hj => by cases hj; exact Nat.le_refl _)
      have HS3 : Hid (Strs w1 (w.heap.size + 1) Tx.words) := Lib.hid (fun j x hj => by
        have h1 := HS2.out j x hj
        have h2 := World.block_lt_of_cell? _ _ h1
        rw [World.cell?_of_block (w := wr) (hgrow1.block _ h2 (by simp))]
        exact h1)
      rw [← HD.out] at hown1
      clear hown hbel hgrow1 HS2
      go_wp2_with fail
      go_roundw
      case rel => exact ⟨k + 1, by omega, by go_num, hown1, hb1, HS3⟩
      case measure => simp [intOf]; omega
    · have hk23 : k = 23 := by have : Tx.words.length = 23 := rfl; omega
      have HO := Lib.hid hown
      have HB := Lib.hid hbel
      have HK := Lib.hid hk23
      clear hown hbel hk23
      go_wp2_with fail
      go_ret
      refine ⟨w.heap.size, rfl, Nat.le_refl _, ?_, HB.out⟩
      have := HO.out
      rw [HK.out] at this
      exact this
end Go.Proofs.YtidholghbjljaaaGreatDoor

/- Walks of package text and of its reference: words and names. -/
namespace Culp.Tx
set_option linter.unusedSimpArgs false
set_option linter.unusedVariables false
section
variable {l : List UInt8}
theorem isName_nil : isName [] = false := by decide
theorem isName_long (h : 32 < l.length) : isName l = false := by unfold isName; rw [decide_eq_false (p := l.length ≤ 32) (by omega)]; simp
theorem isName_first {c : UInt8} (h : l.head? = some c) (hc : letter c = false) : isName l = false := by unfold isName; rw [h]; simp [hc]
theorem isName_word (h : isWord l = true) : isName l = false := by unfold isName; rw [h]; simp
theorem isName_inner (h : ¬ l.all inner = true) : isName l = false := by unfold isName; rw [Bool.eq_false_iff.2 h]; simp
theorem isName_yes {c : UInt8} (h : l.head? = some c) (h1 : l.length ≤ 32) (hc : letter c = true) (hw : isWord l = false) (hi : l.all inner = true) : isName l = true := by
  unfold isName
  rw [h, hw, hi, decide_eq_true h1]
  cases l with
  | nil => simp at h
  | cons d l => simp [hc]
end
end Culp.Tx
namespace Go.Proofs.YtidholghbjljaaaGreatDoor
set_option linter.unusedSimpArgs false
set_option linter.unusedVariables false
open Go.RowKit Go.Maps Culp

theorem bs_self (s : ByteArray) : bs s.data.toList = s := str_inj' (bs_list _)
set_option maxHeartbeats 800000 in
theorem tIsWord_any (s : ByteArray) (w : World) (hs : s.size ≤ 140737488351232) (hS : Sp w) : Calls Tryz.prog 149 #[.string s] w (Makes (.bool (Tx.isWord s.data.toList)) w) := by
  have hkey : keyOf Tryz.prog 9 (.string s) = some (.string s.data.toList) := Go.WideMaps.keyOf_string_mk Tryz.underlying9 (by unfold maxLen; omega)
  have HS := Lib.hid hS
  clear hS
  go_enter Tryz.func149, Tryz.ntmps149
  go_wp2_with fail
  refine (twords_any _ HS.out).mono ?_
  rintro e w2 ⟨B, rfl, hB, hown, hb⟩
  have HB := Lib.hid hb
  unfold WordsMap at hown
  clear hb hB
  go_wp2_with (at_lookup; refine wpList_lookup_own_int _ rfl _ _ 202 rfl 9 3 .i64 lawS Tryz.underlying202 Tryz.underlying3 (zeroI _) B 23 _ rfl hown _ _ rfl hkey ?_; intro c hat hwc)
  obtain ⟨h1, h2⟩ := wordsD_is _ hat
  have H2 := Lib.hid h2
  clear h2 hat hwc hown hkey
  go_wp2_with fail
  go_ret
  exact Makes.mk (bool_congr H2.out) HB.out

set_option maxHeartbeats 1600000 in
theorem tIsName_any (s : ByteArray) (w : World) (hs : s.size ≤ 140737488351232) (hS : Sp w) : Calls Tryz.prog 132 #[.string s] w (Makes (.bool (Tx.isName s.data.toList)) w) := by
  have hl := size_list s
  have HSP := Lib.hid hS
  clear hS
  by_cases h0 : s.size = 0
  · have HN : Hid (Tx.isName s.data.toList = false) := Lib.hid (by rw [List.eq_nil_of_length_eq_zero (l := s.data.toList) (by omega)]; exact Tx.isName_nil)
    have q1 : (s.toList == []) = true := by rw [toL', List.eq_nil_of_length_eq_zero (l := s.data.toList) (by omega)]; rfl
    have q2 : s.size ≤ 0 := by omega
    clear hl h0
    go_enter Tryz.func132, Tryz.ntmps132
    go_wp2_with fail
    go_ret
    exact Makes.mk (by rw [HN.out]; rfl) (Below.refl _ _)
  have h1 : 0 < s.size := by omega
  have q1 : (s.toList == []) = false := by
    rw [toL']
    cases hx : s.data.toList with
    | nil => rw [hx] at hl; simp at hl; omega
    | cons a b => rfl
  have hh := head_get s h1
  clear h0
  by_cases h32 : 32 < s.size
  · have HN := Lib.hid (Tx.isName_long (l := s.data.toList) (by omega))
    clear hl hh
    go_enter Tryz.func132, Tryz.ntmps132
    go_wp2_with fail
    go_ret
    exact Makes.mk (by rw [HN.out]; rfl) (Below.refl _ _)
  have HL := Lib.hid hl
  have HH := Lib.hid hh
  clear hl hh
  cases hc : Tx.letter s[0]
  · have HN := Lib.hid (Tx.isName_first HH.out hc)
    have HC := Lib.hid hc
    clear hc
    go_enter Tryz.func132, Tryz.ntmps132
    go_wp2_with fail
    refine (tletter_any s[0] _).mono ?_
    rw [HC.out]
    rintro e w' ⟨rfl, rfl⟩
    go_wp2_with fail
    go_ret
    exact Makes.mk (by rw [HN.out]; rfl) (Below.refl _ _)
  have HC := Lib.hid hc
  clear hc
  cases hw : Tx.isWord s.data.toList
  case true =>
    have HN := Lib.hid (Tx.isName_word hw)
    have HW := Lib.hid hw
    clear hw
    go_enter Tryz.func132, Tryz.ntmps132
    go_wp2_with fail
    refine (tletter_any s[0] _).mono ?_
    rw [HC.out]
    rintro e w' ⟨rfl, rfl⟩
    go_wp2_with fail
    refine (tIsWord_any s _ hs HSP.out).mono ?_
    rw [HW.out]
    rintro e w2 ⟨rfl, hb⟩
    have HB := Lib.hid hb
    clear hb
    go_wp2_with fail
    go_ret
    exact Makes.mk (by rw [HN.out]; rfl) HB.out
  have HW := Lib.hid hw
  clear hw
  go_enter Tryz.func132, Tryz.ntmps132
  go_wp2_with fail
  refine (tletter_any s[0] _).mono ?_
  rw [HC.out]
  rintro e w' ⟨rfl, rfl⟩
  go_wp2_with fail
  refine (tIsWord_any s _ hs HSP.out).mono ?_
  rw [HW.out]
  rintro e w2 ⟨rfl, hb⟩
  have HB := Lib.hid hb
  clear hb
  go_wp2_with fail
  go_loop [23] (fun i => ∃ k : Nat, k ≤ s.size ∧ i = .int .i64 k ∧ Hid ((s.data.toList.take k).all Tx.inner = true)) (fun i => s.size - (intOf i).toNat)
  case atStart => exact ⟨0, Nat.zero_le _, rfl, Lib.hid rfl⟩
  case round =>
    obtain ⟨k, hk, rfl, HA⟩ := hrel
    by_cases hlt : k < s.size
    · have HM := Lib.hid (mem_get s k hlt)
      have HT := Lib.hid (take_snoc' s k hlt)
      cases hi : Tx.inner s[k]
      · have HN := Lib.hid (Tx.isName_inner (not_all_of HM.out hi))
        have HI := Lib.hid hi
        clear hi
        go_wp2_with fail
        refine (inner_any s[k] _).mono ?_
        rw [HI.out]
        rintro e w' ⟨rfl, rfl⟩
        go_wp2_with fail
        go_ret
        exact Makes.mk (by rw [HN.out]; rfl) HB.out
      · have HN : Hid ((s.data.toList.take (k + 1)).all Tx.inner = true) := Lib.hid (by rw [HT.out, List.all_append, HA.out]; simp [hi])
        have HI := Lib.hid hi
        clear hi
        go_wp2_with fail
        refine (inner_any s[k] _).mono ?_
        rw [HI.out]
        rintro e w' ⟨rfl, rfl⟩
        go_wp2_with fail
        go_round
        case rel => exact ⟨k + 1, by omega, by go_num, HN⟩
        case measure => simp [intOf]; omega
    · have HN := Lib.hid (Tx.isName_yes HH.out (by rw [HL.out]; omega) HC.out HW.out (by have := HA.out; rw [List.take_of_length_le (by rw [HL.out]; omega)] at this; exact this))
      go_wp2_with fail
      go_ret
      exact Makes.mk (by rw [HN.out]; rfl) HB.out
set_option maxHeartbeats 1600000 in
theorem rIsName_any (s : ByteArray) (w : World) (hs : s.size ≤ 140737488351232) : Calls Tryz.prog 41 #[.string s] w (Makes (.bool (Tx.isName s.data.toList)) w) := by
  have hl := size_list s
  have HE := bs_self s
  have HE2 := Lib.hid HE
  clear HE
  by_cases h0 : s.size = 0
  · have HN : Hid (Tx.isName s.data.toList = false) := Lib.hid (by rw [List.eq_nil_of_length_eq_zero (l := s.data.toList) (by omega)]; exact Tx.isName_nil)
    have q1 : (s.toList == []) = true := by rw [toL', List.eq_nil_of_length_eq_zero (l := s.data.toList) (by omega)]; rfl
    have q2 : s.size ≤ 0 := by omega
    clear hl h0
    go_enter Tryz.func41, Tryz.ntmps41
    go_wp2_with fail
    go_ret
    exact Makes.mk (by rw [HN.out]; rfl) (Below.refl _ _)
  have h1 : 0 < s.size := by omega
  have q1 : (s.toList == []) = false := by
    rw [toL']
    cases hx : s.data.toList with
    | nil => rw [hx] at hl; simp at hl; omega
    | cons a b => rfl
  have hh := head_get s h1
  clear h0
  by_cases h32 : 32 < s.size
  · have HN := Lib.hid (Tx.isName_long (l := s.data.toList) (by omega))
    clear hl hh
    go_enter Tryz.func41, Tryz.ntmps41
    go_wp2_with fail
    go_ret
    exact Makes.mk (by rw [HN.out]; rfl) (Below.refl _ _)
  have HL := Lib.hid hl
  have HH := Lib.hid hh
  clear hl hh
  cases hc : Tx.letter s[0]
  · have HN := Lib.hid (Tx.isName_first HH.out hc)
    have HC := Lib.hid hc
    clear hc
    go_enter Tryz.func41, Tryz.ntmps41
    go_wp2_with fail
    refine (rletter_any s[0] _).mono ?_
    rw [HC.out]
    rintro e w' ⟨rfl, rfl⟩
    go_wp2_with fail
    go_ret
    exact Makes.mk (by rw [HN.out]; rfl) (Below.refl _ _)
  have HC := Lib.hid hc
  clear hc
  cases hw : Tx.isWord s.data.toList
  case true =>
    have HN := Lib.hid (Tx.isName_word hw)
    have HW := Lib.hid hw
    clear hw
    go_enter Tryz.func41, Tryz.ntmps41
    go_wp2_with fail
    refine (rletter_any s[0] _).mono ?_
    rw [HC.out]
    rintro e w' ⟨rfl, rfl⟩
    go_wp2_with fail
    refine ((show Calls Tryz.prog 91 #[.string s] _ (Makes (.bool (Tx.isWord s.data.toList)) _) by have := rIsWord_any s.data.toList w; rw [bs_self] at this; exact this)).mono ?_
    rw [HW.out]
    rintro e w2 ⟨rfl, hb⟩
    have HB := Lib.hid hb
    clear hb
    go_wp2_with fail
    go_ret
    exact Makes.mk (by rw [HN.out]; rfl) HB.out
  have HW := Lib.hid hw
  clear hw
  go_enter Tryz.func41, Tryz.ntmps41
  go_wp2_with fail
  refine (rletter_any s[0] _).mono ?_
  rw [HC.out]
  rintro e w' ⟨rfl, rfl⟩
  go_wp2_with fail
  refine ((show Calls Tryz.prog 91 #[.string s] _ (Makes (.bool (Tx.isWord s.data.toList)) _) by have := rIsWord_any s.data.toList w; rw [bs_self] at this; exact this)).mono ?_
  rw [HW.out]
  rintro e w2 ⟨rfl, hb⟩
  have HB := Lib.hid hb
  clear hb
  go_wp2_with fail
  go_loop [3] (fun i => ∃ k : Nat, k ≤ s.size ∧ i = .int .i64 k ∧ Hid ((s.data.toList.take k).all Tx.inner = true)) (fun i => s.size - (intOf i).toNat)
  case atStart => exact ⟨0, Nat.zero_le _, rfl, Lib.hid rfl⟩
  case round =>
    obtain ⟨k, hk, rfl, HA⟩ := hrel
    by_cases hlt : k < s.size
    · have HM := Lib.hid (mem_get s k hlt)
      have HT := Lib.hid (take_snoc' s k hlt)
      cases hi : Tx.inner s[k]
      · have HN := Lib.hid (Tx.isName_inner (not_all_of HM.out hi))
        obtain ⟨i1, i2, i3⟩ := inner_nor hi
        have i4 : (((s[k].toNat : Nat) : Int) != 95) = true := by rw [bne, i3]; rfl
        have HI1 := Lib.hid i1
        have HI2 := Lib.hid i2
        clear hi i1 i2 i3
        go_wp2_with fail
        refine (rletter_any s[k] _).mono ?_
        rw [HI1.out]
        rintro e w' ⟨rfl, rfl⟩
        go_wp2_with fail
        refine (rdigit_any s[k] _).mono ?_
        rw [HI2.out]
        rintro e w' ⟨rfl, rfl⟩
        go_wp2_with fail
        go_ret
        exact Makes.mk (by rw [HN.out]; rfl) HB.out
      · have HN : Hid ((s.data.toList.take (k + 1)).all Tx.inner = true) := Lib.hid (by rw [HT.out, List.all_append, HA.out]; simp [hi])
        rcases inner_or hi with i1 | ⟨i1, i2⟩ | ⟨i1, i2, i3⟩
        · have HI1 := Lib.hid i1
          clear hi i1
          go_wp2_with fail
          refine (rletter_any s[k] _).mono ?_
          rw [HI1.out]
          rintro e w' ⟨rfl, rfl⟩
          go_wp2_with fail
          go_round
          case rel => exact ⟨k + 1, by omega, by go_num, HN⟩
          case measure => simp [intOf]; omega
        · have HI1 := Lib.hid i1
          have HI2 := Lib.hid i2
          clear hi i1 i2
          go_wp2_with fail
          refine (rletter_any s[k] _).mono ?_
          rw [HI1.out]
          rintro e w' ⟨rfl, rfl⟩
          go_wp2_with fail
          refine (rdigit_any s[k] _).mono ?_
          rw [HI2.out]
          rintro e w' ⟨rfl, rfl⟩
          go_wp2_with fail
          go_round
          case rel => exact ⟨k + 1, by omega, by go_num, HN⟩
          case measure => simp [intOf]; omega
        · have HI1 := Lib.hid i1
          have HI2 := Lib.hid i2
          have i4 : (((s[k].toNat : Nat) : Int) != 95) = false := by rw [bne, i3]; rfl
          clear hi i1 i2 i3
          go_wp2_with fail
          refine (rletter_any s[k] _).mono ?_
          rw [HI1.out]
          rintro e w' ⟨rfl, rfl⟩
          go_wp2_with fail
          refine (rdigit_any s[k] _).mono ?_
          rw [HI2.out]
          rintro e w' ⟨rfl, rfl⟩
          go_wp2_with fail
          go_round
          case rel => exact ⟨k + 1, by omega, by go_num, HN⟩
          case measure => simp [intOf]; omega
    · have HN := Lib.hid (Tx.isName_yes HH.out (by rw [HL.out]; omega) HC.out HW.out (by have := HA.out; rw [List.take_of_length_le (by rw [HL.out]; omega)] at this; exact this))
      go_wp2_with fail
      go_ret
      exact Makes.mk (by rw [HN.out]; rfl) HB.out
end Go.Proofs.YtidholghbjljaaaGreatDoor

/- Walks of package text and of its reference: a text is quoted. -/
namespace Culp
set_option linter.unusedSimpArgs false
set_option linter.unusedVariables false
open Go Go.RowKit
/-- Two more elements onto a row of the call's own; they lie in a block that was just made for them. -/
theorem append_two {P : Program} {w : World} {ops : Array Oper} {rest : List Oper} {o : Oper} {a : Act} {Q : Exit → Act → World → Prop} (hgd : o.guard = none) (s x : Operand) (t e : TypeId)
    (ho : o.op = .call { callee := .builtin .append, args := #[s, x], argTypes := #[t, t] })
    (base : Nat) (z : Value) (bytes : Nat) (ht : P.underlying t = some (.slice e)) (hi : (P.info? e).map (fun i => (i.zero, i.size, i.bytes)) = some (some z, 1, bytes))
    (hzs : z.cells.size = 1)
    (v : Value) (n : Nat) (xs : List Value) (hs : a.eval s = v) (hown : w.ownsRow base e 1 v n xs) (u1 u2 : Value)
    (hx : a.eval x = .slice (some ⟨w.heap.size, 0, none⟩) 2 2) (h1 : u1.oneCell' = true) (h2 : u2.oneCell' = true)
    (h63 : n + 2 ≤ 1000000000000000) (hbytes : (n + 2) * bytes ≤ 140737488355328) (hbase : base ≤ w.heap.size)
    (h : ∀ v' w', w'.ownsRow base e 1 v' (n + 2) (xs ++ [u1, u2]) → Below base w w' → wpList P ops Q rest (a.put o.dst v') w') :
    wpList P ops Q (o :: rest) a (w.alloc (.cells #[u1, u2] e)) := by
  refine append_many hgd s x t e ho base z bytes ht hi hzs v n xs hs (hown.alloc _) _ 2 2 [u1, u2] hx rfl (fun _ => ⟨w.heap.size, rfl, fun i u hu => ?_⟩) ?_ h63 hbytes (by simp; omega) (by omega) ?_
  · rw [World.cell?_alloc_at _ _ _ _ rfl]
    match i, hu with
    | 0, hu => exact hu
    | 1, hu => exact hu
  · intro u hu
    simp at hu
    rcases hu with rfl | rfl
    · exact h1
    · exact h2
  · intro v' w' hown' _ hb
    exact h v' w' hown' (((Below.refl base w).alloc hbase _).trans hb)
namespace Tx
set_option linter.unusedSimpArgs false
set_option linter.unusedVariables false
theorem escs_app : ∀ (a b : List UInt8), escs (a ++ b) = match escs a, escs b with | some x, some y => some (x ++ y) | _, _ => none
  | [], b => by cases h : escs b <;> simp [escs, h]
  | c :: a, b => by
    have ih := escs_app a b
    rw [List.cons_append, escs, escs, ih]
    cases esc c <;> cases escs a <;> cases escs b <;> simp
theorem escs_snoc {l a e : List UInt8} {c : UInt8} (h : escs l = some a) (hc : esc c = some e) : escs (l ++ [c]) = some (a ++ e) := by
  rw [escs_app, h]; simp [escs, hc]
theorem escs_no : ∀ {l : List UInt8} {c : UInt8}, c ∈ l → esc c = none → escs l = none
  | d :: l, c, h, hc => by
    rw [escs]
    rcases List.mem_cons.1 h with rfl | h
    · rw [hc]
    · rw [escs_no h hc]; cases esc d <;> rfl
theorem esc_nl {c : UInt8} (h : c.toNat = 10) : esc c = some [92, 110] := by unfold esc; rw [if_pos h]
theorem esc_no {c : UInt8} (h : c.toNat ≠ 10) (h2 : c.toNat < 32 ∨ 126 < c.toNat) : esc c = none := by unfold esc; rw [if_neg h, if_pos h2]
theorem esc_q {c : UInt8} (h : c.toNat = 34 ∨ c.toNat = 92) : esc c = some [92, c] := by unfold esc; rw [if_neg (by omega), if_neg (by omega), if_pos h]
theorem esc_c {c : UInt8} (h1 : 32 ≤ c.toNat) (h2 : c.toNat ≤ 126) (h3 : c.toNat ≠ 34) (h4 : c.toNat ≠ 92) : esc c = some [c] := by unfold esc; rw [if_neg (by omega), if_neg (by omega), if_neg (by omega)]
theorem quote_long {l : List UInt8} (h : 64 < l.length) : quote l = none := by unfold quote; rw [if_pos h]
theorem quote_bad {l : List UInt8} (h : escs l = none) : quote l = none := by unfold quote; rw [h]; split <;> rfl
theorem quote_good {l m : List UInt8} (h1 : l.length ≤ 64) (h : escs l = some m) : quote l = some (34 :: m ++ [34]) := by unfold quote; rw [if_neg (by omega), h]; rfl
end Tx
end Culp
namespace Go.Proofs.YtidholghbjljaaaGreatDoor
set_option linter.unusedSimpArgs false
set_option linter.unusedVariables false
open Go.RowKit Go.Maps Culp

/-- What Quote answers. -/
def QuoteRes (l : List UInt8) (w : World) (e : Ending) (w' : World) : Prop := Below w.heap.size w w' ∧ match Tx.quote l with
  | some q => e = .returned (.tuple #[.string (bs q), .int .i64 0])
  | none => e = .returned (.tuple #[.string { data := #[] }, .int .i64 14])
theorem QuoteRes.yes {l q : List UInt8} {w w' : World} {t : ByteArray} (h : Tx.quote l = some q) (hb : Below w.heap.size w w') (ht : t = bs q) : QuoteRes l w (.returned (.tuple #[.string t, .int .i64 0])) w' := ⟨hb, by rw [h, ht]⟩
theorem QuoteRes.no {l : List UInt8} {w w' : World} (h : Tx.quote l = none) (hb : Below w.heap.size w w') : QuoteRes l w (.returned (.tuple #[.string { data := #[] }, .int .i64 14])) w' := ⟨hb, by rw [h]⟩

set_option maxRecDepth 100000 in
set_option maxHeartbeats 1600000 in
theorem tQuote_any (s : ByteArray) (w : World) (hs : s.size ≤ 140737488351232) : Calls Tryz.prog 153 #[.string s] w (QuoteRes s.data.toList w) := by
  have hl := size_list s
  by_cases h64 : 64 < s.size
  · have HQ := Lib.hid (Tx.quote_long (l := s.data.toList) (by omega))
    clear hl
    go_enter Tryz.func153, Tryz.ntmps153
    go_wp2_with fail
    go_ret2
    exact QuoteRes.no HQ.out (Below.refl _ _)
  have HL := Lib.hid hl
  clear hl
  go_enter Tryz.func153, Tryz.ntmps153
  go_wp2_with fail
  have hown0 : (w.alloc (.cells #[.int .u8 34] 5)).ownsRow w.heap.size 5 1 (.slice (some ⟨w.heap.size, 0, none⟩) 1 1) ([34] : List UInt8).length (([34] : List UInt8).map byteV) :=
    World.ownsRow_lit (base := w.heap.size) (e := 5) (size := 1) w #[.int .u8 34] 1 (Nat.le_refl _) (by unfold maxLen; omega) (by simp)
  go_loopw [4, 13] (fun v i wr => ∃ (k : Nat) (acc : List UInt8) (u : Value), k ≤ s.size ∧ i = .int .i64 k ∧ v = u ∧ Hid (Tx.escs (s.data.toList.take k) = some acc) ∧ acc.length ≤ 2 * k ∧ wr.ownsRow w.heap.size 5 1 u (34 :: acc).length ((34 :: acc).map byteV) ∧ Below w.heap.size w wr) (fun _ i _ => s.size - (intOf i).toNat)
  case atStart => exact ⟨0, [], _, Nat.zero_le _, rfl, rfl, Lib.hid rfl, by simp, hown0, (Below.refl _ _).alloc (Nat.le_refl _) _⟩
  case round =>
    clear hown0
    obtain ⟨k, acc, u, hk, rfl, rfl, HE, hal, hown, hbel⟩ := hrel
    by_cases hlt : k < s.size
    · have HM := Lib.hid (mem_get s k hlt)
      have HT := Lib.hid (take_snoc' s k hlt)
      have step : ∀ e, Tx.esc s[k] = some e → Hid (Tx.escs (s.data.toList.take (k + 1)) = some (acc ++ e)) := fun e he => Lib.hid (by rw [HT.out]; exact Tx.escs_snoc HE.out he)
      by_cases c10 : s[k].toNat = 10
      · have e10 := eq_lit (n := s[k].toNat) (z := 10) (by omega)
        have HE2 := step _ (Tx.esc_nl c10)
        clear step c10
        go_wp2_with (at_builtin; refine append_two rfl (.tmp 26) (.tmp 27) 127 5 rfl w.heap.size _ 1 Tryz.underlying127 u8_info rfl _ _ _ rfl hown _ _ rfl rfl rfl ?_ ?_ ?_ ?_)
        · simp; omega
        · simp; omega
        · exact hbel.size
        intro v' w2 hown' hb'
        have hb2 := hbel.trans hb'
        have hown2 : w2.ownsRow w.heap.size 5 1 v' (34 :: (acc ++ [92, 110])).length ((34 :: (acc ++ [92, 110])).map byteV) := by simpa [byteV] using hown'
        clear hown hbel hb' hown'
        go_wp2_with fail
        go_roundw
        case rel => exact ⟨k + 1, acc ++ [92, 110], v', by omega, by go_num, rfl, HE2, by simp; omega, hown2, hb2⟩
        case measure => simp [intOf]; omega
      have e10 := ne_lit (n := s[k].toNat) (z := 10) (by omega)
      by_cases hr : s[k].toNat < 32 ∨ 126 < s[k].toNat
      · have HQ := Lib.hid (Tx.quote_bad (Tx.escs_no HM.out (Tx.esc_no c10 hr)))
        have HB := Lib.hid hbel
        clear step c10 hown hbel
        by_cases hr2 : s[k].toNat < 32
        · clear hr
          go_wp2_with fail
          go_ret2
          exact QuoteRes.no HQ.out HB.out
        · have hr3 : 126 < s[k].toNat := by omega
          clear hr
          go_wp2_with fail
          go_ret2
          exact QuoteRes.no HQ.out HB.out
      have hr1 : 32 ≤ s[k].toNat := by omega
      have hr2 : s[k].toNat ≤ 126 := by omega
      clear hr c10
      by_cases c34 : s[k].toNat = 34
      · have e34 := eq_lit (n := s[k].toNat) (z := 34) (by omega)
        have HE2 := step _ (Tx.esc_q (.inl c34))
        clear step c34
        go_wp2_with (at_builtin; refine append_two rfl (.tmp 43) (.tmp 45) 127 5 rfl w.heap.size _ 1 Tryz.underlying127 u8_info rfl _ _ _ rfl hown _ _ rfl rfl rfl ?_ ?_ ?_ ?_)
        · simp; omega
        · simp; omega
        · exact hbel.size
        intro v' w2 hown' hb'
        have hb2 := hbel.trans hb'
        have hown2 : w2.ownsRow w.heap.size 5 1 v' (34 :: (acc ++ [92, s[k]])).length ((34 :: (acc ++ [92, s[k]])).map byteV) := by simpa [byteV] using hown'
        clear hown hbel hb' hown'
        go_wp2_with fail
        go_roundw
        case rel => exact ⟨k + 1, acc ++ [92, s[k]], v', by omega, by go_num, rfl, HE2, by simp; omega, hown2, hb2⟩
        case measure => simp [intOf]; omega
      have e34 := ne_lit (n := s[k].toNat) (z := 34) (by omega)
      by_cases c92 : s[k].toNat = 92
      · have e92 := eq_lit (n := s[k].toNat) (z := 92) (by omega)
        have HE2 := step _ (Tx.esc_q (.inr c92))
        clear step c34 c92
        go_wp2_with (at_builtin; refine append_two rfl (.tmp 43) (.tmp 45) 127 5 rfl w.heap.size _ 1 Tryz.underlying127 u8_info rfl _ _ _ rfl hown _ _ rfl rfl rfl ?_ ?_ ?_ ?_)
        · simp; omega
        · simp; omega
        · exact hbel.size
        intro v' w2 hown' hb'
        have hb2 := hbel.trans hb'
        have hown2 : w2.ownsRow w.heap.size 5 1 v' (34 :: (acc ++ [92, s[k]])).length ((34 :: (acc ++ [92, s[k]])).map byteV) := by simpa [byteV] using hown'
        clear hown hbel hb' hown'
        go_wp2_with fail
        go_roundw
        case rel => exact ⟨k + 1, acc ++ [92, s[k]], v', by omega, by go_num, rfl, HE2, by simp; omega, hown2, hb2⟩
        case measure => simp [intOf]; omega
      have e92 := ne_lit (n := s[k].toNat) (z := 92) (by omega)
      have HE2 := step _ (Tx.esc_c hr1 hr2 c34 c92)
      clear step c34 c92
      go_wp2_with (at_builtin; refine append_one rfl (.tmp 19) (.tmp 21) 127 5 rfl w.heap.size _ 1 Tryz.underlying127 u8_info rfl _ _ _ rfl hown _ rfl rfl ?_ ?_ ?_ ?_)
      · simp; omega
      · simp; omega
      · exact hbel.size
      intro v' w2 hown' hg hb'
      have hb2 := hbel.trans hb'
      have hown2 : w2.ownsRow w.heap.size 5 1 v' (34 :: (acc ++ [s[k]])).length ((34 :: (acc ++ [s[k]])).map byteV) := by simpa [byteV] using hown'
      clear hown hbel hg hb' hown'
      go_wp2_with fail
      go_roundw
      case rel => exact ⟨k + 1, acc ++ [s[k]], v', by omega, by go_num, rfl, HE2, by simp; omega, hown2, hb2⟩
      case measure => simp [intOf]; omega
    · have HQ := Lib.hid (Tx.quote_good (l := s.data.toList) (m := acc) (by rw [HL.out]; omega) (by have := HE.out; rw [List.take_of_length_le (by rw [HL.out]; omega)] at this; exact this))
      go_wp2_with (at_builtin; refine append_one rfl (.tmp 48) (.tmp 49) 127 5 rfl w.heap.size _ 1 Tryz.underlying127 u8_info rfl _ _ _ rfl hown _ rfl rfl ?_ ?_ ?_ ?_)
      · simp; omega
      · simp; omega
      · exact hbel.size
      intro v' w2 hown' hg hb'
      have HB := Lib.hid (hbel.trans hb')
      have hown2 : w2.ownsRow w.heap.size 5 1 v' (34 :: acc ++ [34]).length ((34 :: acc ++ [34]).map byteV) := by simpa [byteV] using hown'
      have hcv := own_text hown2
      clear hown hbel hg hb' hown' hown2
      go_wp2_with fail
      go_ret2
      exact QuoteRes.yes HQ.out HB.out rfl
end Go.Proofs.YtidholghbjljaaaGreatDoor

/- Walks of the reference of package text: a text is quoted. -/
namespace Go.Proofs.YtidholghbjljaaaGreatDoor
set_option linter.unusedSimpArgs false
set_option linter.unusedVariables false
open Go.RowKit Go.Maps Culp

theorem bs_app (a b : List UInt8) : bs a ++ bs b = bs (a ++ b) := str_inj' (by simp [bs])
theorem bs_more {t u : ByteArray} {a b : List UInt8} (h : t = bs a) (hu : u = bs b) : t ++ u = bs (a ++ b) := by rw [h, hu, bs_app]
theorem one_byte (s : ByteArray) (k : Nat) (h : k < s.size) : s.extract k (k + 1) = bs [s[k]] := by
  rw [extract_bs, Tx.drop1 (l := s.data.toList) (by rw [size_list]; exact h), show k + 1 - k = 1 by omega]; rfl
set_option maxRecDepth 100000 in
set_option maxHeartbeats 1600000 in
theorem rQuote_any (s : ByteArray) (w : World) (hs : s.size ≤ 140737488351232) : Calls Tryz.prog 120 #[.string s] w (QuoteRes s.data.toList w) := by
  have hl := size_list s
  by_cases h64 : 64 < s.size
  · have HQ := Lib.hid (Tx.quote_long (l := s.data.toList) (by omega))
    clear hl
    go_enter Tryz.func120, Tryz.ntmps120
    go_wp2_with fail
    go_ret2
    exact QuoteRes.no HQ.out (Below.refl _ _)
  have HL := Lib.hid hl
  clear hl
  go_enter Tryz.func120, Tryz.ntmps120
  go_wp2_with fail
  go_loop [4, 5] (fun v i => ∃ (k : Nat) (acc : List UInt8) (t : ByteArray), k ≤ s.size ∧ i = .int .i64 k ∧ v = .string t ∧ Hid (t = bs (34 :: acc)) ∧ Hid (Tx.escs (s.data.toList.take k) = some acc) ∧ acc.length ≤ 2 * k ∧ t.size ≤ 2 * k + 1) (fun _ i => s.size - (intOf i).toNat)
  case atStart => exact ⟨0, [], _, Nat.zero_le _, rfl, rfl, Lib.hid rfl, Lib.hid rfl, by simp, by decide⟩
  case round =>
    obtain ⟨k, acc, t, hk, rfl, rfl, HTT, HE, hal, htl⟩ := hrel
    by_cases hlt : k < s.size
    · have HM := Lib.hid (mem_get s k hlt)
      have HT := Lib.hid (take_snoc' s k hlt)
      have step : ∀ e, Tx.esc s[k] = some e → Hid (Tx.escs (s.data.toList.take (k + 1)) = some (acc ++ e)) := fun e he => Lib.hid (by rw [HT.out]; exact Tx.escs_snoc HE.out he)
      by_cases c10 : s[k].toNat = 10
      · have e10 := eq_lit (n := s[k].toNat) (z := 10) (by omega)
        have HE2 := step _ (Tx.esc_nl c10)
        clear step c10
        go_wp2_with fail
        go_round
        case rel => exact ⟨k + 1, acc ++ [92, 110], _, by omega, by go_num, rfl, Lib.hid (bs_more (b := [92, 110]) HTT.out (by first | exact HX.out | rfl)), HE2, by simp; omega, by rw [ByteArray.size_append]; first | (rw [HX.out, bs_size]; simp; omega) | (show t.size + 2 ≤ _; omega)⟩
        case measure => simp [intOf]; omega
      have e10 := ne_lit (n := s[k].toNat) (z := 10) (by omega)
      by_cases c34 : s[k].toNat = 34
      · have e34 := eq_lit (n := s[k].toNat) (z := 34) (by omega)
        have ec : s[k] = 34 := UInt8.toNat_inj.1 c34
        have HE2 := step _ (Tx.esc_q (.inl c34))
        rw [ec] at HE2
        clear step c34 ec c10
        go_wp2_with fail
        go_round
        case rel => exact ⟨k + 1, acc ++ [92, 34], _, by omega, by go_num, rfl, Lib.hid (bs_more (b := [92, 34]) HTT.out (by first | exact HX.out | rfl)), HE2, by simp; omega, by rw [ByteArray.size_append]; first | (rw [HX.out, bs_size]; simp; omega) | (show t.size + 2 ≤ _; omega)⟩
        case measure => simp [intOf]; omega
      have e34 := ne_lit (n := s[k].toNat) (z := 34) (by omega)
      by_cases c92 : s[k].toNat = 92
      · have e92 := eq_lit (n := s[k].toNat) (z := 92) (by omega)
        have ec : s[k] = 92 := UInt8.toNat_inj.1 c92
        have HE2 := step _ (Tx.esc_q (.inr c92))
        rw [ec] at HE2
        clear step c34 c92 ec c10
        go_wp2_with fail
        go_round
        case rel => exact ⟨k + 1, acc ++ [92, 92], _, by omega, by go_num, rfl, Lib.hid (bs_more (b := [92, 92]) HTT.out (by first | exact HX.out | rfl)), HE2, by simp; omega, by rw [ByteArray.size_append]; first | (rw [HX.out, bs_size]; simp; omega) | (show t.size + 2 ≤ _; omega)⟩
        case measure => simp [intOf]; omega
      have e92 := ne_lit (n := s[k].toNat) (z := 92) (by omega)
      by_cases hr : s[k].toNat < 32 ∨ 126 < s[k].toNat
      · have HQ := Lib.hid (Tx.quote_bad (Tx.escs_no HM.out (Tx.esc_no c10 hr)))
        clear step c10 c34 c92
        by_cases hr2 : s[k].toNat < 32
        · clear hr
          go_wp2_with fail
          go_ret2
          exact QuoteRes.no HQ.out (Below.refl _ _)
        · have hr3 : 126 < s[k].toNat := by omega
          clear hr
          go_wp2_with fail
          go_ret2
          exact QuoteRes.no HQ.out (Below.refl _ _)
      have hr1 : 32 ≤ s[k].toNat := by omega
      have hr2 : s[k].toNat ≤ 126 := by omega
      have HE2 := step _ (Tx.esc_c hr1 hr2 c34 c92)
      have HX := Lib.hid (one_byte s k hlt)
      clear step c34 c92 hr c10
      go_wp2_with fail
      go_round
      case rel => exact ⟨k + 1, acc ++ [s[k]], _, by omega, by go_num, rfl, Lib.hid (bs_more (b := [s[k]]) HTT.out (by first | exact HX.out | rfl)), HE2, by simp; omega, by rw [ByteArray.size_append]; first | (rw [HX.out, bs_size]; simp; omega) | (show t.size + 2 ≤ _; omega)⟩
      case measure => simp [intOf]; omega
    · have HQ := Lib.hid (Tx.quote_good (l := s.data.toList) (m := acc) (by rw [HL.out]; omega) (by have := HE.out; rw [List.take_of_length_le (by rw [HL.out]; omega)] at this; exact this))
      go_wp2_with fail
      go_ret2
      exact QuoteRes.yes HQ.out (Below.refl _ _) (bs_more (b := [34]) HTT.out rfl)
end Go.Proofs.YtidholghbjljaaaGreatDoor
