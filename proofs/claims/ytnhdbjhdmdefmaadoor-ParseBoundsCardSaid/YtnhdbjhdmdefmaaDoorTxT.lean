
/- Walks of package text and of its reference: bytes. -/
import Derived.Test.YtnhdbjhdmdefmaaDoorR4W
import Derived.IntWalk
import Derived.Deep.LoopGhost
import Derived.Test.YtnhdbjhdmdefmaaDoorShelf
import Derived.Lib.IndexAny
import Derived.Maps.Own
import Derived.Maps.OwnOps
import Derived.Maps.Views
import Derived.Lib.LaidTab
import Derived.Lib.Space
namespace Go.Proofs.YtnhdbjhdmdefmaaDoor
set_option linter.unusedSimpArgs false
set_option linter.unusedVariables false
open Go.RowKit Culp

set_option maxHeartbeats 400000 in
theorem tletter_any (c : UInt8) (w : World) : Calls Tryd.prog 58 #[.int .u8 (c.toNat : Int)] w (Gives (.bool (Tx.letter c)) w) := by
  go_enter Tryd.func58, Tryd.ntmps58
  go_wp2
  all_goals
    go_ret
    refine Gives.mk (bool_congr ?_)
    unfold Tx.letter
    rw [Bool.eq_iff_iff]
    simp
    try omega
set_option maxHeartbeats 400000 in
theorem tdigit_any (c : UInt8) (w : World) : Calls Tryd.prog 68 #[.int .u8 (c.toNat : Int)] w (Gives (.bool (Tx.digit c)) w) := by
  go_enter Tryd.func68, Tryd.ntmps68
  go_wp2
  all_goals
    go_ret
    refine Gives.mk (bool_congr ?_)
    unfold Tx.digit
    rw [Bool.eq_iff_iff]
    simp
    try omega
set_option maxHeartbeats 400000 in
theorem inner_any (c : UInt8) (w : World) : Calls Tryd.prog 60 #[.int .u8 (c.toNat : Int)] w (Gives (.bool (Tx.inner c)) w) := by
  go_enter Tryd.func60, Tryd.ntmps60
  go_wp2_with fail
  refine (tletter_any c _).mono ?_
  rintro e w' ⟨rfl, rfl⟩
  have e1 : Tx.inner c = (Tx.letter c || Tx.digit c || decide (c.toNat = 95)) := rfl
  cases h1 : Tx.letter c
  · cases h2 : Tx.digit c
    all_goals
      go_wp2_with fail
      refine (tdigit_any c _).mono ?_
      rintro e w' ⟨rfl, rfl⟩
      go_wp2_with fail
      go_ret
      refine Gives.mk (bool_congr ?_)
      rw [e1, h1, h2, Bool.eq_iff_iff]
      simp
      try omega
  · go_wp2_with fail
    go_ret
    exact Gives.mk (bool_congr (by simp [e1, h1]))
end Go.Proofs.YtnhdbjhdmdefmaaDoor

/- Passing over blanks and remarks, step by step; no program in sight. -/
namespace Culp.Tx
set_option linter.unusedSimpArgs false
set_option linter.unusedVariables false

/-- As far as a place all is blanks and remarks; where the line stands. -/
structure Pas (l : List UInt8) (at_ : Nat) (p : Nat × Nat) (b : Bool) (k : Nat) (line beg : Int) : Prop where
  le : at_ ≤ k
  lk : k ≤ l.length
  beh : behind false (l.drop at_) = (k - at_) + behind b (l.drop k)
  pl1 : line = (further p ((l.drop at_).take (k - at_))).1
  pl2 : beg = (k : Int) + 1 - (further p ((l.drop at_).take (k - at_))).2
  l0 : 0 ≤ line
  l1 : line ≤ k + 1
  b0 : 0 ≤ beg
  b1 : beg ≤ k
section
variable {l : List UInt8} {at_ k : Nat} {p : Nat × Nat} {line beg : Int} {b : Bool}
theorem behind_f (c : UInt8) (l : List UInt8) : behind false (c :: l) = if c.toNat = 35 then 1 + behind true l else if Tx.blank c = true then 1 + behind false l else 0 := by rw [behind]
theorem behind_t (c : UInt8) (l : List UInt8) : behind true (c :: l) = 1 + behind (decide (c.toNat ≠ 10)) l := by rw [behind]
theorem behind_nil (b : Bool) : behind b [] = 0 := by cases b <;> rfl
theorem Pas.start (h : at_ ≤ l.length) (h1 : p.1 ≤ at_ + 1) (h2 : 1 ≤ p.2) (h3 : p.2 ≤ at_ + 1) : Pas l at_ p false at_ p.1 ((at_ : Int) + 1 - p.2) :=
  ⟨Nat.le_refl _, h, by simp, by simp [further], by simp [further], by omega, by omega, by omega, by omega⟩
theorem take_more (h : at_ ≤ k) (hk : k < l.length) : (l.drop at_).take (k + 1 - at_) = (l.drop at_).take (k - at_) ++ [l[k]] := by
  have e : k + 1 - at_ = (k - at_) + 1 := by omega
  have e2 : at_ + (k - at_) = k := by omega
  rw [e, List.take_succ_eq_append_getElem (by rw [List.length_drop]; omega), List.getElem_drop]
  simp only [e2]
theorem further_more (h : at_ ≤ k) (hk : k < l.length) : further p ((l.drop at_).take (k + 1 - at_)) = step (further p ((l.drop at_).take (k - at_))) l[k] := by
  rw [take_more h hk]; unfold further; rw [List.foldl_append]; rfl
theorem Pas.next (h : Pas l at_ p b k line beg) (hk : k < l.length) {b' : Bool} (hb : behind b (l.drop k) = 1 + behind b' (l.drop (k + 1))) (hn : l[k].toNat ≠ 10) : Pas l at_ p b' (k + 1) line beg := by
  have e := further_more (p := p) h.le hk
  have e2 : step (further p ((l.drop at_).take (k - at_))) l[k] = ((further p ((l.drop at_).take (k - at_))).1, (further p ((l.drop at_).take (k - at_))).2 + 1) := by unfold step; rw [if_neg hn]
  rw [e2] at e
  have := h.le; have := h.beh; have := h.pl1; have h2 := h.pl2; have := h.l1; have := h.b1
  exact ⟨by omega, by omega, by omega, by rw [e]; exact h.pl1, by rw [e]; simp only; omega, h.l0, by omega, h.b0, by omega⟩
theorem drop_at (hk : k < l.length) : l.drop k = l[k] :: l.drop (k + 1) := List.drop_eq_getElem_cons hk
theorem Pas.hash (h : Pas l at_ p false k line beg) (hk : k < l.length) (hc : l[k].toNat = 35) : Pas l at_ p true (k + 1) line beg :=
  h.next hk (by rw [drop_at hk, behind_f, if_pos hc]) (by omega)
theorem Pas.rem (h : Pas l at_ p true k line beg) (hk : k < l.length) (hc : l[k].toNat ≠ 10) : Pas l at_ p true (k + 1) line beg :=
  h.next hk (by rw [drop_at hk, behind_t, decide_eq_true hc]) hc
theorem Pas.out (h : Pas l at_ p true k line beg) (hk : ∀ hk : k < l.length, l[k].toNat = 10) : Pas l at_ p false k line beg := by
  refine ⟨h.le, h.lk, ?_, h.pl1, h.pl2, h.l0, h.l1, h.b0, h.b1⟩
  rw [h.beh]
  by_cases hlt : k < l.length
  · have hc := hk hlt
    rw [drop_at hlt, behind_f, behind_t, if_neg (by omega), if_pos (by unfold blank; simp only [decide_eq_true_eq]; omega), decide_eq_false (by omega)]
  · rw [List.drop_of_length_le (by omega)]; rfl
theorem Pas.blank (h : Pas l at_ p false k line beg) (hk : k < l.length) (hc : l[k].toNat = 32 ∨ l[k].toNat = 9 ∨ l[k].toNat = 13) : Pas l at_ p false (k + 1) line beg :=
  h.next hk (by rw [drop_at hk, behind_f, if_neg (by omega), if_pos (by unfold Tx.blank; simp only [decide_eq_true_eq]; omega)]) (by omega)
theorem Pas.nl (h : Pas l at_ p false k line beg) (hk : k < l.length) (hc : l[k].toNat = 10) : Pas l at_ p false (k + 1) (line + 1) ((k : Int) + 1) := by
  have e := further_more (p := p) h.le hk
  have e2 : step (further p ((l.drop at_).take (k - at_))) l[k] = ((further p ((l.drop at_).take (k - at_))).1 + 1, 1) := by unfold step; rw [if_pos hc]
  rw [e2] at e
  have hb : behind false (l.drop k) = 1 + behind false (l.drop (k + 1)) := by rw [drop_at hk, behind_f, if_neg (by omega), if_pos (by unfold Tx.blank; simp only [decide_eq_true_eq]; omega)]
  have := h.le; have := h.beh; have := h.pl1; have h2 := h.pl2; have := h.l1; have := h.b1; have := h.l0
  exact ⟨by omega, by omega, by omega, by rw [e]; simp only; omega, by rw [e]; simp only; omega, by omega, by omega, by omega, by omega⟩
theorem Pas.stop (h : Pas l at_ p false k line beg) (hc : ∀ hk : k < l.length, l[k].toNat ≠ 35 ∧ Tx.blank l[k] = false) : behind false (l.drop at_) = k - at_ := by
  have := h.beh
  by_cases hlt : k < l.length
  · obtain ⟨h1, h2⟩ := hc hlt
    rw [drop_at hlt, behind_f, if_neg h1, if_neg (by rw [h2]; simp)] at this
    omega
  · rw [List.drop_of_length_le (show l.length ≤ k by omega), behind_nil] at this
    omega
end
end Culp.Tx

/- Walks of package text and of its reference: numbers. -/
namespace Go.Proofs.YtnhdbjhdmdefmaaDoor
set_option linter.unusedSimpArgs false
set_option linter.unusedVariables false
open Go.RowKit Culp

theorem inner_low {c : UInt8} (h : Tx.inner c = true) : 48 ≤ c.toNat ∧ c.toNat ≤ 122 := by
  unfold Tx.inner Tx.letter Tx.digit at h
  simp only [Bool.or_eq_true, decide_eq_true_eq] at h
  omega
theorem digit_low {c : UInt8} (h : Tx.digit c = true) : 48 ≤ c.toNat ∧ c.toNat ≤ 57 := by
  unfold Tx.digit at h
  simpa using h
def numV (l : List UInt8) : Int := match Tx.worth l with | some n => (n : Int) | none => 0
theorem numV_some {l : List UInt8} {n : Nat} (h : Tx.worth l = some n) : numV l = n := by unfold numV; rw [h]
theorem numV_none {l : List UInt8} (h : Tx.worth l = none) : numV l = 0 := by unfold numV; rw [h]
theorem take_snoc' (s : ByteArray) (k : Nat) (h : k < s.size) : s.data.toList.take (k + 1) = s.data.toList.take k ++ [s[k]] := by
  rw [List.take_succ_eq_append_getElem (by simpa using h)]; rfl
theorem size_list (s : ByteArray) : s.data.toList.length = s.size := by simp
theorem mem_get (s : ByteArray) (k : Nat) (h : k < s.size) : s[k] ∈ s.data.toList := by
  have : s.data.toList[k]'(by simpa using h) = s[k] := rfl
  rw [← this]; exact List.getElem_mem _
theorem all_take {l : List UInt8} {p : UInt8 → Bool} (h : l.all p = true) (k : Nat) : (l.take k).all p = true := by
  rw [List.all_eq_true] at h ⊢
  exact fun x hx => h x (List.mem_of_mem_take hx)
theorem not_all_of {l : List UInt8} {p : UInt8 → Bool} {x : UInt8} (hx : x ∈ l) (h : p x = false) : ¬ l.all p = true := fun ha => by
  rw [List.all_eq_true] at ha
  rw [ha x hx] at h; cases h
theorem worth_zero {l : List UInt8} (h : l.head? = some 48) (h1 : 1 < l.length) : Tx.worth l = none := by unfold Tx.worth; rw [if_pos ⟨h, h1⟩]
theorem worth_char {l : List UInt8} (h : ¬ l.all Tx.digit = true) : Tx.worth l = none := by
  unfold Tx.worth
  split
  · rfl
  · first | rfl | rw [if_neg h]
theorem worth_big {l : List UInt8} (h : 9223372036854775807 < Tx.value l) : Tx.worth l = none := by
  unfold Tx.worth
  split
  · rfl
  · split
    · rw [if_neg (by omega)]
    · rfl
theorem head_get (s : ByteArray) (h : 0 < s.size) : s.data.toList.head? = some s[0] := by
  rw [List.head?_eq_getElem?, List.getElem?_eq_getElem (by simpa using h)]; rfl
def NumRes (l : List UInt8) (w : World) (e : Ending) (w' : World) : Prop := Gives (.tuple #[.int .i64 (numV l), .bool (Tx.worth l).isSome]) w e w'
theorem NumRes.no {l : List UInt8} {w : World} (h : Tx.worth l = none) : NumRes l w (.returned (.tuple #[.int .i64 0, .bool false])) w := Gives.mk (by rw [numV_none h, h]; rfl)
theorem NumRes.yes {l : List UInt8} {w : World} {n : Nat} (h : Tx.worth l = some n) : NumRes l w (.returned (.tuple #[.int .i64 (n : Int), .bool true])) w := Gives.mk (by rw [numV_some h, h]; rfl)

set_option maxHeartbeats 800000 in
theorem number_any (s : ByteArray) (w : World) (h0 : 0 < s.size) (hs : s.size ≤ 65536) (hin : s.data.toList.all Tx.inner = true) :
    Calls Tryd.prog 71 #[.string s] w (NumRes s.data.toList w) := by
  have HI := Lib.hid hin
  have hl := size_list s
  have hh := head_get s h0
  by_cases hz : s[0].toNat = 48 ∧ 1 < s.size
  · obtain ⟨hz, h1⟩ := hz
    have HW := Lib.hid (worth_zero (l := s.data.toList) (by rw [hh]; congr 1; exact UInt8.toNat_inj.1 hz) (by omega))
    have q : (((s[0].toNat : Nat) : Int) == 48) = true := by simp [hz]
    clear hin hl hh hz
    go_enter Tryd.func71, Tryd.ntmps71
    go_wp2_with fail
    go_ret2
    exact NumRes.no HW.out
  have HZ := Lib.hid hz
  have HH := Lib.hid hh
  have HL := Lib.hid hl
  have key : ∃ b : Bool, (((s[0].toNat : Nat) : Int) == 48) = b ∧ (b = true → s.size = 1) := by
    refine ⟨_, rfl, fun h => ?_⟩
    simp at h
    omega
  clear hin hl hh hz
  obtain ⟨b, q, hb⟩ := key
  have fin : ∀ (k : Nat), s.size ≤ k → (s.data.toList.take k).all Tx.digit = true → Tx.value (s.data.toList.take k) ≤ 9223372036854775807 → Tx.worth s.data.toList = some (Tx.value (s.data.toList.take k)) := by
    intro k hk ha hv
    rw [List.take_of_length_le (by rw [HL.out]; omega)] at ha hv ⊢
    refine Tx.worth_mk ?_ ha hv
    rintro ⟨a1, a2⟩
    rw [HH.out] at a1
    rw [HL.out] at a2
    injection a1 with a1
    exact HZ.out ⟨by rw [a1]; rfl, a2⟩
  have HF := Lib.hid fin
  clear fin
  have h1 : b = true → s.size ≤ 1 := fun h => by rw [hb h]; omega
  clear hb
  cases b
  case' true => have h1 := h1 rfl
  case' false => clear h1
  all_goals
    go_enter Tryd.func71, Tryd.ntmps71
    go_wp2_with fail
    go_loop [4, 5] (fun n i => ∃ k : Nat, k ≤ s.size ∧ i = .int .i64 k ∧ n = .int .i64 (Tx.value (s.data.toList.take k) : Nat) ∧ Hid ((s.data.toList.take k).all Tx.digit = true) ∧ Tx.value (s.data.toList.take k) ≤ 9223372036854775807) (fun _ i => s.size - (intOf i).toNat)
    case atStart => exact ⟨0, Nat.zero_le _, rfl, rfl, Lib.hid rfl, by simp [Tx.value]⟩
    case round =>
      obtain ⟨k, hk, rfl, rfl, HA, hv⟩ := hrel
      by_cases hlt : k < s.size
      · have hmem := mem_get s k hlt
        have hin := List.all_eq_true.1 HI.out _ hmem
        have hb1 := inner_low hin
        have HS : Hid (Tx.value (s.data.toList.take (k + 1)) = 10 * Tx.value (s.data.toList.take k) + (s[k].toNat - 48)) := Lib.hid (by rw [take_snoc' s k hlt, Tx.value_snoc])
        have HT : Hid (s.data.toList.take (k + 1) = s.data.toList.take k ++ [s[k]]) := Lib.hid (take_snoc' s k hlt)
        have HP : Hid (Tx.value (s.data.toList.take (k + 1)) ≤ Tx.value s.data.toList) := Lib.hid (Tx.value_pre _ _)
        have HN : Hid (Tx.digit s[k] = false → Tx.worth s.data.toList = none) := Lib.hid (fun h => worth_char (not_all_of hmem h))
        clear hin hmem
        cases hd : Tx.digit s[k]
        · go_wp2_with fail
          refine (tdigit_any s[k] _).mono ?_
          rintro e w' ⟨rfl, rfl⟩
          go_wp2_with fail
          go_ret2
          exact NumRes.no (HN.out hd)
        · have hb2 := digit_low hd
          have HD := Lib.hid hd
          clear hb1 hd
          by_cases hov : 9223372036854775807 < 10 * Tx.value (s.data.toList.take k) + (s[k].toNat - 48)
          · have HB : Hid (Tx.worth s.data.toList = none) := Lib.hid (worth_big (by have := HP.out; have := HS.out; omega))
            go_wp2_with fail
            refine (tdigit_any s[k] _).mono ?_
            rw [HD.out]
            rintro e w' ⟨rfl, rfl⟩
            go_wp2_with fail
            go_ret2
            exact NumRes.no HB.out
          · go_wp2_with fail
            refine (tdigit_any s[k] _).mono ?_
            rw [HD.out]
            rintro e w' ⟨rfl, rfl⟩
            go_wp2_with fail
            go_round
            case rel =>
              refine ⟨k + 1, by omega, by go_num, ?_, Lib.hid ?_, ?_⟩
              · rw [HS.out]; exact int_congr (by omega)
              · rw [HT.out, List.all_append, HA.out]; simp [HD.out]
              · rw [HS.out]; omega
            case measure => simp [intOf]; omega
      · have HW := Lib.hid (HF.out k (by omega) HA.out hv)
        go_wp2_with fail
        go_ret2
        exact NumRes.yes HW.out
end Go.Proofs.YtnhdbjhdmdefmaaDoor

/- Walks of the reference of package text: numbers. -/
namespace Go.Proofs.YtnhdbjhdmdefmaaDoor
set_option linter.unusedSimpArgs false
set_option linter.unusedVariables false
open Go.RowKit Culp

theorem value_lt : ∀ l : List UInt8, l.all Tx.digit = true → Tx.value l < 10 ^ l.length := by
  refine Tx.snoc_ind ?_ ?_
  · intro _; decide
  · intro l c ih h
    rw [List.all_append, Bool.and_eq_true] at h
    have := ih h.1
    have hd : Tx.digit c = true := by simpa using h.2
    have := digit_low hd
    rw [Tx.value_snoc, List.length_append, List.length_singleton, Nat.pow_succ]
    omega
theorem worth_long {l : List UInt8} (h : 19 < l.length) : Tx.worth l = none := by
  cases hw : Tx.worth l with
  | none => rfl
  | some n =>
    obtain ⟨h0, h1, h2, h3⟩ := Tx.worth_some hw
    have hh : ∀ c, l.head? = some c → c.toNat ≠ 48 := fun c hc h48 => h0 ⟨by rw [hc]; congr 1; exact UInt8.toNat_inj.1 h48, by omega⟩
    have := Tx.value_ge l h1 hh (by intro e; rw [e] at h; simp at h)
    have : 10 ^ 19 ≤ 10 ^ (l.length - 1) := Nat.pow_le_pow_right (by omega) (by omega)
    omega
def WorthRes (l : List UInt8) (w : World) (e : Ending) (w' : World) : Prop := ∃ v : Int, e = .returned (.tuple #[.int .i64 v, .bool (Tx.worth l).isSome]) ∧ (∀ n, Tx.worth l = some n → v = n) ∧ w = w'
theorem WorthRes.no {l : List UInt8} {w : World} {v : Int} (h : Tx.worth l = none) : WorthRes l w (.returned (.tuple #[.int .i64 v, .bool false])) w := ⟨v, by rw [h]; rfl, (fun n hn => by rw [h] at hn; cases hn), rfl⟩
theorem WorthRes.yes {l : List UInt8} {w : World} {n : Nat} (h : Tx.worth l = some n) : WorthRes l w (.returned (.tuple #[.int .i64 (n : Int), .bool true])) w := ⟨n, by rw [h]; rfl, (fun m hm => by rw [h] at hm; injection hm with hm; rw [hm]), rfl⟩

end Go.Proofs.YtnhdbjhdmdefmaaDoor

/- Walks of package text and of its reference: a name's or a number's letters. -/
namespace Go.Proofs.YtnhdbjhdmdefmaaDoor
set_option linter.unusedSimpArgs false
set_option linter.unusedVariables false
open Go.RowKit Culp

def bs (l : List UInt8) : ByteArray := ⟨l.toArray⟩
theorem bs_list (l : List UInt8) : (bs l).data.toList = l := rfl
theorem bs_size (l : List UInt8) : (bs l).size = l.length := rfl
theorem bs_inj {a b : List UInt8} (h : bs a = bs b) : a = b := by have := congrArg (fun x => x.data.toList) h; simpa [bs] using this
theorem extract_bs (s : ByteArray) (a b : Nat) : s.extract a b = bs ((s.data.toList.drop a).take (b - a)) := str_inj' (by rw [Lib.extract_data, bs_list])
/-- The letters from a place on, seen as far as a place. -/
theorem run_ends {s : ByteArray} {at_ k : Nat} (h1 : at_ ≤ k) (h2 : k ≤ s.size) (ha : ∀ i (h : i < s.size), at_ ≤ i → i < k → Tx.inner s[i] = true) (he : ∀ h : k < s.size, Tx.inner s[k] = false) :
    Tx.run (s.data.toList.drop at_) = (s.data.toList.drop at_).take (k - at_) := by
  have hl := size_list s
  have e1 : s.data.toList.drop at_ = (s.data.toList.drop at_).take (k - at_) ++ s.data.toList.drop k := by
    have : s.data.toList.drop k = (s.data.toList.drop at_).drop (k - at_) := by rw [List.drop_drop]; congr 1; omega
    rw [this, List.take_append_drop]
  have hall : ((s.data.toList.drop at_).take (k - at_)).all Tx.inner = true := by
    rw [List.all_eq_true]
    intro x hx
    obtain ⟨i, hi, rfl⟩ := List.mem_iff_getElem.1 hx
    rw [List.length_take, List.length_drop] at hi
    rw [List.getElem_take, List.getElem_drop]
    exact ha (at_ + i) (by omega) (by omega) (by omega)
  conv => lhs; rw [e1]
  refine Tx.run_app hall ?_
  by_cases hk : k < s.size
  · right
    refine ⟨s[k], s.data.toList.drop (k + 1), ?_, he hk⟩
    rw [List.drop_eq_getElem_cons (by omega)]; rfl
  · left
    exact List.drop_of_length_le (by omega)
theorem inner_or {c : UInt8} (h : Tx.inner c = true) : Tx.letter c = true ∨ (Tx.letter c = false ∧ Tx.digit c = true) ∨ (Tx.letter c = false ∧ Tx.digit c = false ∧ (((c.toNat : Nat) : Int) == 95) = true) := by
  unfold Tx.inner at h
  simp only [Bool.or_eq_true, decide_eq_true_eq] at h
  cases h1 : Tx.letter c
  · cases h2 : Tx.digit c
    · rw [h1, h2] at h
      simp at h
      right; right
      refine ⟨rfl, rfl, ?_⟩
      simp [h]
    · exact .inr (.inl ⟨rfl, rfl⟩)
  · exact .inl rfl
theorem inner_nor {c : UInt8} (h : Tx.inner c = false) : Tx.letter c = false ∧ Tx.digit c = false ∧ (((c.toNat : Nat) : Int) == 95) = false := by
  unfold Tx.inner at h
  simp only [Bool.or_eq_false_iff, decide_eq_false_iff_not] at h
  refine ⟨h.1.1, h.1.2, ?_⟩
  rw [beq_eq_false_iff_ne]
  intro e
  exact h.2 (by omega)
theorem byte_sizeOf : ∀ w, (Go.sizeOf 5).run Tryd.prog w = .ok 1 w := fun w => by kernel_rfl
/-- A piece of a slice, as text. -/
theorem cut_text (W : World) (b o len cap l h : Nat) (s : ByteArray) (hB : Lib.Bytes W b o s) (hlh : l < h) (hh : h ≤ s.size) (hcap : s.size ≤ cap) :
    (Instr.slice 31 (.slice (some ⟨b, o, none⟩) len cap) (some (.int .i64 (l : Int))) (some (.int .i64 (h : Int))) none).run Tryd.prog W = .ok (.slice (some ⟨b, o + l, none⟩) (h - l) (cap - l)) W ∧
    (convert 31 9 (.slice (some ⟨b, o + l, none⟩) (h - l) (cap - l))).run Tryd.prog W = .ok (.string (bs ((s.data.toList.drop l).take (h - l)))) W := by
  refine ⟨Lib.run_slice_window W 31 5 Tryd.underlying31 byte_sizeOf b o len cap l h hlh (by omega), ?_⟩
  rw [Lib.run_convert_window W 31 5 9 Tryd.underlying31 Tryd.underlying5 Tryd.underlying9 b o s hB l (h - l) (cap - l) (by omega), extract_bs]
  congr 4; omega

/-- A reader as it lies in memory. -/
def Rd (r : Nat) (v : Value) (at_ line beg : Int) (m : Value) (w : World) : Prop := w.heap[r]? = some (.cells #[v, .int .i64 at_, .int .i64 line, .int .i64 beg, m] 111 (0, 0))
section
variable {r : Nat} {v m : Value} {at_ line beg : Int} {w w' : World}
theorem Rd.lt (h : Rd r v at_ line beg m w) : r < w.heap.size := by
  rcases Nat.lt_or_ge r w.heap.size with hlt | hge
  · exact hlt
  · unfold Rd at h; rw [Array.getElem?_eq_none hge] at h; cases h
theorem Rd.c0 (h : Rd r v at_ line beg m w) : w.cell? ⟨r, 0, none⟩ = some v := by unfold Rd at h; simp [World.cell?, h]
theorem Rd.c1 (h : Rd r v at_ line beg m w) : w.cell? ⟨r, 1, none⟩ = some (.int .i64 at_) := by unfold Rd at h; simp [World.cell?, h]
theorem Rd.c2 (h : Rd r v at_ line beg m w) : w.cell? ⟨r, 2, none⟩ = some (.int .i64 line) := by unfold Rd at h; simp [World.cell?, h]
theorem Rd.c3 (h : Rd r v at_ line beg m w) : w.cell? ⟨r, 3, none⟩ = some (.int .i64 beg) := by unfold Rd at h; simp [World.cell?, h]
theorem Rd.c4 (h : Rd r v at_ line beg m w) : w.cell? ⟨r, 4, none⟩ = some m := by unfold Rd at h; simp [World.cell?, h]
theorem Rd.free (h : Rd r v at_ line beg m w) (i : Nat) : w.frozen? ⟨r, i, none⟩ = false := by unfold Rd at h; simp [World.frozen?, h]
theorem Rd.later (h : Rd r v at_ line beg m w) (hb : Below w.heap.size w w') : Rd r v at_ line beg m w' := (hb.block r h.lt).trans h
theorem Rd.drew (h : Rd r v at_ line beg m w) : Rd r v at_ line beg m w.drew := h
theorem Rd.set1 (h : Rd r v at_ line beg m w) (x : Int) : Rd r v x line beg m (w.setCell ⟨r, 1, none⟩ (.int .i64 x)) := by
  unfold Rd at h ⊢
  simp [World.setCell, Array.getElem?_modify, h]
theorem Rd.set2 (h : Rd r v at_ line beg m w) (x : Int) : Rd r v at_ x beg m (w.setCell ⟨r, 2, none⟩ (.int .i64 x)) := by
  unfold Rd at h ⊢
  simp [World.setCell, Array.getElem?_modify, h]
theorem Rd.set3 (h : Rd r v at_ line beg m w) (x : Int) : Rd r v at_ line x m (w.setCell ⟨r, 3, none⟩ (.int .i64 x)) := by
  unfold Rd at h ⊢
  simp [World.setCell, Array.getElem?_modify, h]
end
/-- Bytes lie elsewhere than a reader. -/
theorem Rd.apart {r : Nat} {v m : Value} {at_ line beg : Int} {w : World} (h : Rd r v at_ line beg m w) {b o : Nat} {s : ByteArray} (hB : Lib.Bytes w b o s) (h0 : 0 < s.size) (hv : ∀ x, v ≠ .int .u8 x) (hm : ∀ x, m ≠ .int .u8 x) : b ≠ r := by
  rintro rfl
  have := hB 0 h0
  unfold Rd at h
  simp only [World.cell?, h, Option.bind_some] at this
  rcases o with _ | _ | _ | _ | _ | o
  · simp at this; exact hv _ this
  · simp at this
  · simp at this
  · simp at this
  · simp at this; exact hm _ this
  · simp at this
theorem bytes_keep {r : Nat} {w w' : World} {b o : Nat} {s : ByteArray} (hB : Lib.Bytes w b o s) (hk : Keep r w w') (hne : b ≠ r) : Lib.Bytes w' b o s := fun i hi => hk.cell (hB i hi) hne
end Go.Proofs.YtnhdbjhdmdefmaaDoor

/- Walks of package text: the reader's letters, blanks, places. -/
namespace Go.Proofs.YtnhdbjhdmdefmaaDoor
set_option linter.unusedSimpArgs false
set_option linter.unusedVariables false
open Go.RowKit Culp

set_option maxHeartbeats 800000 in
theorem trun_any (s : ByteArray) (r b o c : Nat) (m : Value) (at_ : Nat) (line beg : Int) (w : World) (hr : Rd r (.slice (some ⟨b, o, none⟩) s.size c) at_ line beg m w) (hB : Lib.Bytes w b o s) (hc : s.size ≤ c) (hat : at_ < s.size) (hin : Tx.inner s[at_] = true) (hs : s.size ≤ 1000000000000000) :
    Calls Tryd.prog 70 #[.pointer (some ⟨r, 0, none⟩)] w (Makes (.string (bs (Tx.run (s.data.toList.drop at_)))) w) := by
  have HB := Lib.hid hB
  have HI := Lib.hid hin
  have q0 := hr.c0
  have q1 := hr.c1
  clear hB hin hr
  go_enter Tryd.func70, Tryd.ntmps70
  go_wp2_with fail
  go_loop [3] (fun i => ∃ k : Nat, at_ ≤ k ∧ k ≤ s.size ∧ i = .int .i64 k ∧ Hid (∀ i (h : i < s.size), at_ ≤ i → i < k → Tx.inner s[i] = true)) (fun i => s.size - (intOf i).toNat)
  case atStart => exact ⟨at_, Nat.le_refl _, by omega, rfl, Lib.hid (fun i h h1 h2 => by omega)⟩
  case round =>
    obtain ⟨k, hk1, hk2, rfl, HA⟩ := hrel
    by_cases hlt : k < s.size
    · have hcell := HB.out k hlt
      cases hik : Tx.inner s[k]
      · have hgt : at_ < k := by
          rcases Nat.lt_or_ge at_ k with h | h
          · exact h
          · have : at_ = k := by omega
            subst this
            rw [HI.out] at hik; cases hik
        have HE := Lib.hid (run_ends hk1 hk2 HA.out (fun _ => hik))
        have HK := Lib.hid hik
        clear hik
        go_wp2_with fail
        refine (inner_any s[k] _).mono ?_
        rw [HK.out]
        rintro e w' ⟨rfl, rfl⟩
        go_wp2_with fail
        refine wp_region_plan (S := fun w' => w'.cell? ⟨r, 0, none⟩ = some (.slice (some ⟨b, o, none⟩) s.size c) ∧ w'.cell? ⟨r, 1, none⟩ = some (.int .i64 at_) ∧
            (Instr.slice 31 (.slice (some ⟨b, o, none⟩) s.size c) (some (.int .i64 (at_ : Int))) (some (.int .i64 (k : Int))) none).run Tryd.prog w' = .ok (.slice (some ⟨b, o + at_, none⟩) (k - at_) (c - at_)) w' ∧
            (convert 31 9 (.slice (some ⟨b, o + at_, none⟩) (k - at_) (c - at_))).run Tryd.prog w' = .ok (.string (bs ((s.data.toList.drop at_).take (k - at_)))) w')
          [(0, true), (1, true), (2, true), (3, true), (4, true), (5, true), (6, true), (7, true), (8, true), (9, true), (10, true), (11, true)] (by kernel_rfl) (by kernel_rfl) (by kernel_rfl) (fun _ _ _ _ _ h => h) ⟨q0, q1, cut_text w.drew b o s.size c at_ k s HB.out hgt hk2 hc⟩ ?_
        intro HS
        repeat (first | (apply wpPlan_look; rfl; rfl; (intro wq hq; (try dsimp only at hq); go_split_ands; go_simp; (try rw [if_neg (by omega)]); (try rw [if_pos (by omega)]); try with_reducible rfl); simp only [Act.put, List.setIfInBounds_toArray, List.set_cons_zero, List.set_cons_succ]) | (apply wpPlan_skip; rfl; rfl; simp only [Act.put, List.setIfInBounds_toArray, List.set_cons_zero, List.set_cons_succ]) | (apply wpPlan_pass; rfl; rfl; assumption; simp only [Act.put, List.setIfInBounds_toArray, List.set_cons_zero, List.set_cons_succ]))
        apply wpPlan_done
        go_wp2_with fail
        go_ret
        exact Makes.mk (by rw [HE.out]; rfl) ((Below.refl _ _).drew)
      · have HN : Hid (∀ i (h : i < s.size), at_ ≤ i → i < k + 1 → Tx.inner s[i] = true) := Lib.hid (fun i h h1 h2 => by
          by_cases e : i = k
          · subst e; exact hik
          · exact HA.out i h h1 (by omega))
        have HK := Lib.hid hik
        clear hik
        go_wp2_with fail
        refine (inner_any s[k] _).mono ?_
        rw [HK.out]
        rintro e w' ⟨rfl, rfl⟩
        go_wp2_with fail
        go_round
        case rel => exact ⟨k + 1, by omega, by omega, by go_num, HN⟩
        case measure => simp [intOf]; omega
    · have hgt : at_ < k := by omega
      have HE := Lib.hid (run_ends hk1 hk2 HA.out (fun h => absurd h hlt))
      go_wp2_with fail
      refine wp_region_plan (S := fun w' => w'.cell? ⟨r, 0, none⟩ = some (.slice (some ⟨b, o, none⟩) s.size c) ∧ w'.cell? ⟨r, 1, none⟩ = some (.int .i64 at_) ∧
          (Instr.slice 31 (.slice (some ⟨b, o, none⟩) s.size c) (some (.int .i64 (at_ : Int))) (some (.int .i64 (k : Int))) none).run Tryd.prog w' = .ok (.slice (some ⟨b, o + at_, none⟩) (k - at_) (c - at_)) w' ∧
          (convert 31 9 (.slice (some ⟨b, o + at_, none⟩) (k - at_) (c - at_))).run Tryd.prog w' = .ok (.string (bs ((s.data.toList.drop at_).take (k - at_)))) w')
        [(0, true), (1, true), (2, true), (3, true), (4, true), (5, true), (6, true), (7, true), (8, true), (9, true), (10, true), (11, true)] (by kernel_rfl) (by kernel_rfl) (by kernel_rfl) (fun _ _ _ _ _ h => h) ⟨q0, q1, cut_text w.drew b o s.size c at_ k s HB.out hgt hk2 hc⟩ ?_
      intro HS
      repeat (first | (apply wpPlan_look; rfl; rfl; (intro wq hq; (try dsimp only at hq); go_split_ands; go_simp; (try rw [if_neg (by omega)]); (try rw [if_pos (by omega)]); try with_reducible rfl); simp only [Act.put, List.setIfInBounds_toArray, List.set_cons_zero, List.set_cons_succ]) | (apply wpPlan_skip; rfl; rfl; simp only [Act.put, List.setIfInBounds_toArray, List.set_cons_zero, List.set_cons_succ]) | (apply wpPlan_pass; rfl; rfl; assumption; simp only [Act.put, List.setIfInBounds_toArray, List.set_cons_zero, List.set_cons_succ]))
      apply wpPlan_done
      go_wp2_with fail
      go_ret
      exact Makes.mk (by rw [HE.out]; rfl) ((Below.refl _ _).drew)
end Go.Proofs.YtnhdbjhdmdefmaaDoor

/- Walks of package text: the reader passes over blanks and remarks. -/
namespace Go.Proofs.YtnhdbjhdmdefmaaDoor
set_option linter.unusedSimpArgs false
set_option linter.unusedVariables false
open Go.RowKit Culp

/-- What passes leaves. -/
def PassRes (s : ByteArray) (r : Nat) (v m : Value) (at_ : Nat) (p : Nat × Nat) (w : World) (e : Ending) (w' : World) : Prop :=
  ∃ (k : Nat) (line beg : Int), e = .returned (.tuple #[]) ∧ Tx.Pas s.data.toList at_ p false k line beg ∧ Tx.behind false (s.data.toList.drop at_) = k - at_ ∧ Rd r v k line beg m w' ∧ Keep r w w'
/-- The relation at a round's head. -/
def PassAt (s : ByteArray) (r : Nat) (v m : Value) (at_ : Nat) (p : Nat × Nat) (w : World) (b : Bool) (k : Nat) (line beg : Int) (wx : World) : Prop :=
  Tx.Pas s.data.toList at_ p b (if b then k + 1 else k) line beg ∧ Rd r v k line beg m wx ∧ Keep r w wx

set_option maxRecDepth 100000 in
set_option maxHeartbeats 1600000 in
theorem passes_any (s : ByteArray) (r b o c : Nat) (m : Value) (at_ : Nat) (p : Nat × Nat) (w : World) (hr : Rd r (.slice (some ⟨b, o, none⟩) s.size c) at_ p.1 ((at_ : Int) + 1 - p.2) m w) (hB : Lib.Bytes w b o s) (hne : b ≠ r) (hc : s.size ≤ c) (hat : at_ ≤ s.size)
    (hp : p.1 ≤ at_ + 1 ∧ 1 ≤ p.2 ∧ p.2 ≤ at_ + 1) (hs : s.size ≤ 1000000000000000) :
    Calls Tryd.prog 62 #[.pointer (some ⟨r, 0, none⟩)] w (PassRes s r (.slice (some ⟨b, o, none⟩) s.size c) m at_ p w) := by
  have HB := Lib.hid hB
  have HR : Hid (PassAt s r (.slice (some ⟨b, o, none⟩) s.size c) m at_ p w false at_ p.1 ((at_ : Int) + 1 - p.2) w) := Lib.hid ⟨Tx.Pas.start (by rw [size_list]; exact hat) hp.1 hp.2.1 hp.2.2, hr, Keep.refl _ _⟩
  have HNE := Lib.hid hne
  clear hB hr hp hne
  go_enter Tryd.func62, Tryd.ntmps62
  go_step3
  go_wp2_with fail
  go_step3
  go_wp2_with fail
  go_loopg [] (s.size - at_) (fun g wx => ∃ (k : Nat) (line beg : Int), g = s.size - k ∧ k ≤ s.size ∧ Hid (PassAt s r (.slice (some ⟨b, o, none⟩) s.size c) m at_ p w false k line beg wx))
  case atStart => exact ⟨at_, _, _, rfl, hat, HR⟩
  case round =>
    obtain ⟨k, line, beg, rfl, hk, HP⟩ := hrel
    have q0 := HP.out.2.1.c0
    have q1 := HP.out.2.1.c1
    by_cases hlt : k < s.size
    · have hcell := HP.out.2.2.cell (HB.out k hlt) HNE.out
      go_wp2_with fail
      refine wp_region_plan (S := fun w' => w'.cell? ⟨r, 0, none⟩ = some (.slice (some ⟨b, o, none⟩) s.size c) ∧ w'.cell? ⟨r, 1, none⟩ = some (.int .i64 k))
        [(0, true), (1, true), (2, true), (3, true), (4, true), (5, true), (6, true), (7, true), (8, true), (9, true)] (by kernel_rfl) (by kernel_rfl) (by kernel_rfl) (fun _ _ _ _ _ h => h) ⟨q0, q1⟩ ?_
      intro HS
      repeat (first | (apply wpPlan_look; rfl; rfl; (intro wq hq; (try dsimp only at hq); go_split_ands; go_simp; (try rw [if_neg (by omega)]); (try rw [if_pos (by omega)]); try with_reducible rfl); simp only [Act.put, List.setIfInBounds_toArray, List.set_cons_zero, List.set_cons_succ]) | (apply wpPlan_skip; rfl; rfl; simp only [Act.put, List.setIfInBounds_toArray, List.set_cons_zero, List.set_cons_succ]) | (apply wpPlan_pass; rfl; rfl; assumption; simp only [Act.put, List.setIfInBounds_toArray, List.set_cons_zero, List.set_cons_succ]))
      apply wpPlan_done
      go_wp2_with fail
      refine wp_region_plan (S := fun w' => w'.cell? ⟨r, 0, none⟩ = some (.slice (some ⟨b, o, none⟩) s.size c) ∧ w'.cell? ⟨r, 1, none⟩ = some (.int .i64 k) ∧ w'.cell? ⟨b, o + k, none⟩ = some (.int .u8 s[k].toNat))
        [(0, true), (1, true), (2, true), (3, true), (4, true), (5, true), (6, true), (7, true), (8, true), (9, true)] (by kernel_rfl) (by kernel_rfl) (by kernel_rfl) (fun _ _ _ _ _ h => h) ⟨q0, q1, hcell⟩ ?_
      intro HS
      repeat (first | (apply wpPlan_look; rfl; rfl; (intro wq hq; (try dsimp only at hq); go_split_ands; go_simp; (try rw [if_neg (by omega)]); (try rw [if_pos (by omega)]); try with_reducible rfl); simp only [Act.put, List.setIfInBounds_toArray, List.set_cons_zero, List.set_cons_succ]) | (apply wpPlan_skip; rfl; rfl; simp only [Act.put, List.setIfInBounds_toArray, List.set_cons_zero, List.set_cons_succ]) | (apply wpPlan_pass; rfl; rfl; assumption; simp only [Act.put, List.setIfInBounds_toArray, List.set_cons_zero, List.set_cons_succ]))
      apply wpPlan_done
      have hrd := HP.out.2.1
      have hkeep := HP.out.2.2
      have hpas : Tx.Pas s.data.toList at_ p false k line beg := HP.out.1
      have hget : s.data.toList[k]'(by rw [size_list]; exact hlt) = s[k] := rfl
      have hkl : k < s.data.toList.length := by rw [size_list]; exact hlt
      have q5 := hrd.free 1
      have q6 := hrd.free 2
      have q7 := hrd.free 3
      have q2 := hrd.c2
      have q3 := hrd.c3
      have HRD := Lib.hid hrd
      have HKE := Lib.hid hkeep
      have HPA := Lib.hid hpas
      have hl0 := hpas.l0
      have hl1 := hpas.l1
      clear hrd hkeep hpas
      by_cases c35 : s[k].toNat = 35
      · have e35 := eq_lit (n := s[k].toNat) (z := 35) (by omega)
        have HP1 := Lib.hid (HPA.out.hash hkl (by rw [hget]; exact c35))
        clear hget c35 HP
        clear q0 q1 q2 q3 q5 q6 q7 hcell HS
        go_wp2_with fail
        go_loopg [] (s.size - k) (fun g wx => ∃ (j : Nat) (line2 beg2 : Int), g = s.size - j ∧ k ≤ j ∧ j < s.size ∧ Hid (PassAt s r (.slice (some ⟨b, o, none⟩) s.size c) m at_ p w true j line2 beg2 wx))
        case atStart => exact ⟨k, line, beg, rfl, Nat.le_refl _, hlt, Lib.hid ⟨HP1.out, HRD.out, HKE.out.drew.drew⟩⟩
        case round =>
          obtain ⟨j, line2, beg2, rfl, hkj, hj, HQ⟩ := hrel
          have q0 := HQ.out.2.1.c0
          have q1 := HQ.out.2.1.c1
          have q5 := HQ.out.2.1.free 1
          have hpas2 : Tx.Pas s.data.toList at_ p true (j + 1) line2 beg2 := HQ.out.1
          have HPA2 := Lib.hid hpas2
          clear hpas2 HP1 HRD HKE HPA e35
          by_cases hj1 : j + 1 < s.size
          · have hcell := HQ.out.2.2.cell (HB.out (j + 1) hj1) HNE.out
            have hd : decide ((j : Int) + 1 < (s.size : Int)) = true := decide_eq_true (by omega)
            have hjl : j + 1 < s.data.toList.length := by rw [size_list]; exact hj1
            have hget : s.data.toList[j + 1]'hjl = s[j + 1] := rfl
            by_cases c10 : s[j + 1].toNat = 10
            · have e10 : (((s[j + 1].toNat : Nat) : Int) != 10) = false := by simp [c10]
              have HO := Lib.hid (HPA2.out.out (fun _ => by rw [hget]; exact c10))
              clear hget c10
              have w1 : IntKind.i64.wrap ((j : Int) + 1) = (j : Int) + 1 := IntWalk.i64_in _ (by omega)
              have w2 : ((j : Int) + 1).toNat = j + 1 := by omega
              have w3 : (0 : Int) ≤ (j : Int) + 1 := by omega
              have w4 : j + 1 < s.size := hj1
              go_wp2_with fail
              refine wp_region_plan (S := fun w' => w'.cell? ⟨r, 0, none⟩ = some (.slice (some ⟨b, o, none⟩) s.size c) ∧ w'.cell? ⟨r, 1, none⟩ = some (.int .i64 j) ∧ w'.cell? ⟨b, o + (j + 1), none⟩ = some (.int .u8 s[j + 1].toNat))
                [(0, true), (1, true), (2, true), (3, true), (4, true), (5, true), (6, true), (7, true), (8, true), (9, true), (10, true), (11, true), (12, true), (13, true), (14, true), (15, true), (16, true), (17, true), (18, true), (19, true), (20, true), (21, true), (22, true), (23, true), (24, true)] (by kernel_rfl) (by kernel_rfl) (by kernel_rfl) (fun _ _ _ _ _ h => h) ⟨q0, q1, hcell⟩ ?_
              intro HS
              repeat (first | (apply wpPlan_look; rfl; rfl; (intro wq hq; (try dsimp only at hq); go_split_ands; go_simp; (try rw [if_neg (by omega)]); (try rw [if_pos (by omega)]); try with_reducible rfl); simp only [Act.put, List.setIfInBounds_toArray, List.set_cons_zero, List.set_cons_succ]) | (apply wpPlan_skip; rfl; rfl; simp only [Act.put, List.setIfInBounds_toArray, List.set_cons_zero, List.set_cons_succ]) | (apply wpPlan_pass; rfl; rfl; assumption; simp only [Act.put, List.setIfInBounds_toArray, List.set_cons_zero, List.set_cons_succ]))
              apply wpPlan_done
              clear w1 w2 w3 hd
              go_wp2_with fail
              go_roundg (s.size - (j + 1))
              case rel => exact ⟨j + 1, line2, beg2, rfl, by omega, Lib.hid ⟨HO.out, HQ.out.2.1.set1 _, (HQ.out.2.2.setCell 1 _).drew⟩⟩
              case measure => omega
            · have e10 : (((s[j + 1].toNat : Nat) : Int) != 10) = true := by simp; omega
              have HO := Lib.hid (HPA2.out.rem hjl (by rw [hget]; exact c10))
              clear hget c10
              have w1 : IntKind.i64.wrap ((j : Int) + 1) = (j : Int) + 1 := IntWalk.i64_in _ (by omega)
              have w2 : ((j : Int) + 1).toNat = j + 1 := by omega
              have w3 : (0 : Int) ≤ (j : Int) + 1 := by omega
              go_wp2_with fail
              refine wp_region_plan (S := fun w' => w'.cell? ⟨r, 0, none⟩ = some (.slice (some ⟨b, o, none⟩) s.size c) ∧ w'.cell? ⟨r, 1, none⟩ = some (.int .i64 j) ∧ w'.cell? ⟨b, o + (j + 1), none⟩ = some (.int .u8 s[j + 1].toNat))
                [(0, true), (1, true), (2, true), (3, true), (4, true), (5, true), (6, true), (7, true), (8, true), (9, true), (10, true), (11, true), (12, true), (13, true), (14, true), (15, true), (16, true), (17, true), (18, true), (19, true), (20, true), (21, true), (22, true), (23, true), (24, true)] (by kernel_rfl) (by kernel_rfl) (by kernel_rfl) (fun _ _ _ _ _ h => h) ⟨q0, q1, hcell⟩ ?_
              intro HS
              repeat (first | (apply wpPlan_look; rfl; rfl; (intro wq hq; (try dsimp only at hq); go_split_ands; go_simp; (try rw [if_neg (by omega)]); (try rw [if_pos (by omega)]); try with_reducible rfl); simp only [Act.put, List.setIfInBounds_toArray, List.set_cons_zero, List.set_cons_succ]) | (apply wpPlan_skip; rfl; rfl; simp only [Act.put, List.setIfInBounds_toArray, List.set_cons_zero, List.set_cons_succ]) | (apply wpPlan_pass; rfl; rfl; assumption; simp only [Act.put, List.setIfInBounds_toArray, List.set_cons_zero, List.set_cons_succ]))
              apply wpPlan_done
              clear w1 w2 w3 hd
              go_wp2_with fail
              go_roundg (s.size - (j + 1))
              case rel => exact ⟨j + 1, line2, beg2, rfl, by omega, hj1, Lib.hid ⟨HO.out, HQ.out.2.1.set1 _, (HQ.out.2.2.setCell 1 _).drew⟩⟩
              case measure => omega
          · have hd : decide ((j : Int) + 1 < (s.size : Int)) = false := decide_eq_false (by omega)
            have HO := Lib.hid (HPA2.out.out (fun h => absurd (show j + 1 < s.size by rw [← size_list]; exact h) hj1))
            have w1 : IntKind.i64.wrap ((j : Int) + 1) = (j : Int) + 1 := IntWalk.i64_in _ (by omega)
            go_wp2_with fail
            refine wp_region_plan (S := fun w' => w'.cell? ⟨r, 0, none⟩ = some (.slice (some ⟨b, o, none⟩) s.size c) ∧ w'.cell? ⟨r, 1, none⟩ = some (.int .i64 j))
              [(0, true), (1, true), (2, true), (3, true), (4, true), (5, true), (6, true), (7, true), (8, true), (9, true), (10, true), (11, true), (12, true), (13, true), (14, true), (15, true), (16, true), (17, true), (18, true), (19, true), (20, true), (21, true), (22, true), (23, true), (24, true)] (by kernel_rfl) (by kernel_rfl) (by kernel_rfl) (fun _ _ _ _ _ h => h) ⟨q0, q1⟩ ?_
            intro HS
            repeat (first | (apply wpPlan_look; rfl; rfl; (intro wq hq; (try dsimp only at hq); go_split_ands; go_simp; (try rw [if_neg (by omega)]); (try rw [if_pos (by omega)]); try with_reducible rfl); simp only [Act.put, List.setIfInBounds_toArray, List.set_cons_zero, List.set_cons_succ]) | (apply wpPlan_skip; rfl; rfl; simp only [Act.put, List.setIfInBounds_toArray, List.set_cons_zero, List.set_cons_succ]) | (apply wpPlan_pass; rfl; rfl; assumption; simp only [Act.put, List.setIfInBounds_toArray, List.set_cons_zero, List.set_cons_succ]))
            apply wpPlan_done
            clear w1 hd
            go_wp2_with fail
            go_roundg (s.size - (j + 1))
            case rel => exact ⟨j + 1, line2, beg2, rfl, by omega, Lib.hid ⟨HO.out, HQ.out.2.1.set1 _, (HQ.out.2.2.setCell 1 _).drew⟩⟩
            case measure => omega
      have e35 := ne_lit (n := s[k].toNat) (z := 35) (by omega)
      by_cases c10 : s[k].toNat = 10
      · have e32 := ne_lit (n := s[k].toNat) (z := 32) (by omega)
        have e9 := ne_lit (n := s[k].toNat) (z := 9) (by omega)
        have e13 := ne_lit (n := s[k].toNat) (z := 13) (by omega)
        have e10 := eq_lit (n := s[k].toNat) (z := 10) (by omega)
        have HP1 := Lib.hid (HPA.out.nl hkl (by rw [hget]; exact c10))
        clear hget c10 c35 HP
        go_wp2_with fail
        go_roundg (s.size - (k + 1))
        case rel => exact ⟨k + 1, line + 1, (k : Int) + 1, rfl, by omega, Lib.hid ⟨HP1.out, ((HRD.out.set1 _).set2 _).set3 _, (((HKE.out.setCell 1 _).setCell 2 _).setCell 3 _).drew.drew⟩⟩
        case measure => omega
      have e10 := ne_lit (n := s[k].toNat) (z := 10) (by omega)
      by_cases cb : s[k].toNat = 32 ∨ s[k].toNat = 9 ∨ s[k].toNat = 13
      · have HP1 := Lib.hid (HPA.out.blank hkl (by rw [hget]; exact cb))
        clear hget c10 c35 HP
        by_cases c32 : s[k].toNat = 32
        · have e32 := eq_lit (n := s[k].toNat) (z := 32) (by omega)
          clear cb c32
          go_wp2_with fail
          go_roundg (s.size - (k + 1))
          case rel => exact ⟨k + 1, line, beg, rfl, by omega, Lib.hid ⟨HP1.out, HRD.out.set1 _, (HKE.out.setCell 1 _).drew.drew⟩⟩
          case measure => omega
        have e32 := ne_lit (n := s[k].toNat) (z := 32) (by omega)
        by_cases c9 : s[k].toNat = 9
        · have e9 := eq_lit (n := s[k].toNat) (z := 9) (by omega)
          clear cb c32 c9
          go_wp2_with fail
          go_roundg (s.size - (k + 1))
          case rel => exact ⟨k + 1, line, beg, rfl, by omega, Lib.hid ⟨HP1.out, HRD.out.set1 _, (HKE.out.setCell 1 _).drew.drew⟩⟩
          case measure => omega
        · have e9 := ne_lit (n := s[k].toNat) (z := 9) (by omega)
          have e13 := eq_lit (n := s[k].toNat) (z := 13) (by omega)
          clear cb c32 c9
          go_wp2_with fail
          go_roundg (s.size - (k + 1))
          case rel => exact ⟨k + 1, line, beg, rfl, by omega, Lib.hid ⟨HP1.out, HRD.out.set1 _, (HKE.out.setCell 1 _).drew.drew⟩⟩
          case measure => omega
      · have e32 := ne_lit (n := s[k].toNat) (z := 32) (by omega)
        have e9 := ne_lit (n := s[k].toNat) (z := 9) (by omega)
        have e13 := ne_lit (n := s[k].toNat) (z := 13) (by omega)
        have HST := Lib.hid (HPA.out.stop (fun _ => ⟨by rw [hget]; exact c35, by rw [hget]; unfold Tx.blank; rw [decide_eq_false_iff_not]; omega⟩))
        clear hget cb c10 c35 HP
        go_wp2_with fail
        rw [Exit.noGoto_normal]
        exact bodyPost_end (v := .tuple #[]) (by simp [results, Tryd.results62, go_sem]) rfl ⟨k, line, beg, rfl, HPA.out, HST.out, HRD.out, HKE.out.drew.drew⟩
    · go_wp2_with fail
      refine wp_region_plan (S := fun w' => w'.cell? ⟨r, 0, none⟩ = some (.slice (some ⟨b, o, none⟩) s.size c) ∧ w'.cell? ⟨r, 1, none⟩ = some (.int .i64 k))
        [(0, true), (1, true), (2, true), (3, true), (4, true), (5, true), (6, true), (7, true), (8, true), (9, true)] (by kernel_rfl) (by kernel_rfl) (by kernel_rfl) (fun _ _ _ _ _ h => h) ⟨q0, q1⟩ ?_
      intro HS
      repeat (first | (apply wpPlan_look; rfl; rfl; (intro wq hq; (try dsimp only at hq); go_split_ands; go_simp; (try rw [if_neg (by omega)]); (try rw [if_pos (by omega)]); try with_reducible rfl); simp only [Act.put, List.setIfInBounds_toArray, List.set_cons_zero, List.set_cons_succ]) | (apply wpPlan_skip; rfl; rfl; simp only [Act.put, List.setIfInBounds_toArray, List.set_cons_zero, List.set_cons_succ]) | (apply wpPlan_pass; rfl; rfl; assumption; simp only [Act.put, List.setIfInBounds_toArray, List.set_cons_zero, List.set_cons_succ]))
      apply wpPlan_done
      go_wp2_with fail
      have HST := Lib.hid (Tx.Pas.stop (k := k) HP.out.1 (fun h => absurd (show k < s.size by rw [← size_list]; exact h) hlt))
      rw [Exit.noGoto_normal]
      exact bodyPost_end (v := .tuple #[]) (by simp [results, Tryd.results62, go_sem]) rfl ⟨k, line, beg, rfl, HP.out.1, HST.out, HP.out.2.1, HP.out.2.2.drew⟩
end Go.Proofs.YtnhdbjhdmdefmaaDoor

/- Walks of package text: the reader's place. -/
namespace Go.Proofs.YtnhdbjhdmdefmaaDoor
set_option linter.unusedSimpArgs false
set_option linter.unusedVariables false
open Go.RowKit Culp

set_option maxHeartbeats 800000 in
theorem place_any (r : Nat) (v m : Value) (at_ line beg : Int) (w : World) (hr : Rd r v at_ line beg m w) (h1 : 0 ≤ at_ ∧ at_ ≤ 1000000000000000) (h2 : 0 ≤ beg ∧ beg ≤ at_) :
    Calls Tryd.prog 63 #[.pointer (some ⟨r, 0, none⟩)] w (Makes (.agg #[.int .i64 line, .int .i64 (at_ - beg + 1)]) w) := by
  obtain ⟨h10, h11⟩ := h1
  obtain ⟨h20, h21⟩ := h2
  have HR := Lib.hid hr
  clear hr
  go_enter Tryd.func63, Tryd.ntmps63
  go_wp2_with fail
  have hr2 := HR.out.later ((Below.refl _ _).alloc (Nat.le_refl _) (.cells #[.int .i64 0, .int .i64 0] 25))
  have w1 : IntKind.i64.wrap (at_ - beg) = at_ - beg := IntWalk.i64_in _ (by omega)
  have w2 : IntKind.i64.wrap (at_ - beg + 1) = at_ - beg + 1 := IntWalk.i64_in _ (by omega)
  refine wp_region_plan (S := fun w' => w'.cell? ⟨r, 1, none⟩ = some (.int .i64 at_) ∧ w'.cell? ⟨r, 2, none⟩ = some (.int .i64 line) ∧ w'.cell? ⟨r, 3, none⟩ = some (.int .i64 beg))
    [(0, true), (1, true), (2, true), (3, true), (4, true), (5, true), (6, true), (7, true), (8, true), (9, true), (10, true), (11, true), (12, true), (13, true), (14, true), (15, false)] (by kernel_rfl) (by kernel_rfl) (by kernel_rfl) (fun _ _ _ _ _ h => h) ⟨hr2.c1, hr2.c2, hr2.c3⟩ ?_
  intro HS
  repeat (first | (apply wpPlan_look; rfl; rfl; (intro wq hq; (try dsimp only at hq); go_split_ands; go_simp; (try rw [if_neg (by omega)]); (try rw [if_pos (by omega)]); try with_reducible rfl); simp only [Act.put, List.setIfInBounds_toArray, List.set_cons_zero, List.set_cons_succ]) | (apply wpPlan_skip; rfl; rfl; simp only [Act.put, List.setIfInBounds_toArray, List.set_cons_zero, List.set_cons_succ]) | (apply wpPlan_pass; rfl; rfl; assumption; simp only [Act.put, List.setIfInBounds_toArray, List.set_cons_zero, List.set_cons_succ]))
  refine wpPlan_run0 rfl rfl (by simp [execOp, go_sem]; rfl) _ (fun _ h => h) ?_ ?_
  · have hr3 := HR.out.later (((Below.refl _ _).alloc (Nat.le_refl _) (.cells #[.int .i64 line, .int .i64 (at_ - beg + 1)] 25)).drew)
    exact ⟨hr3.c1, hr3.c2, hr3.c3⟩
  simp only [Act.put, List.setIfInBounds_toArray, List.set_cons_zero, List.set_cons_succ]
  apply wpPlan_done
  clear w1 w2 hr2
  go_wp2_with fail
  exact bodyPost_ret (v := .agg #[.int .i64 line, .int .i64 (at_ - beg + 1)]) (by simp [results, Tryd.results63, go_sem]) rfl (Makes.mk rfl (((Below.refl _ _).alloc (Nat.le_refl _) _).drew))
end Go.Proofs.YtnhdbjhdmdefmaaDoor

/- Walks of package text and of its reference: a text in quotes. -/
namespace Culp.Tx
set_option linter.unusedSimpArgs false
set_option linter.unusedVariables false
theorem unq_34 {c : UInt8} {l : List UInt8} (h : c.toNat = 34) : unq (c :: l) = some ([], 1) := by
  cases l with
  | nil => rw [unq, if_pos h]
  | cons d l => rw [unq, if_pos h]
theorem unq_esc {c d : UInt8} {l : List UInt8} (h : c.toNat = 92) (hd : d.toNat = 34 ∨ d.toNat = 92) : unq (c :: d :: l) = (unq l).map (fun p => (d :: p.1, p.2 + 2)) := by rw [unq, if_neg (by omega), if_pos h, if_pos hd]
theorem unq_n {c d : UInt8} {l : List UInt8} (h : c.toNat = 92) (hd : d.toNat = 110) : unq (c :: d :: l) = (unq l).map (fun p => (10 :: p.1, p.2 + 2)) := by rw [unq, if_neg (by omega), if_pos h, if_neg (by omega), if_pos hd]
theorem unq_bad {c : UInt8} {l : List UInt8} (h : c.toNat < 32 ∨ 126 < c.toNat) : unq (c :: l) = none := by
  cases l with
  | nil => rw [unq, if_neg (by omega)]
  | cons d l => rw [unq, if_neg (by omega), if_neg (by omega), if_pos h]
theorem unq_92 {c d : UInt8} {l : List UInt8} (h : c.toNat = 92) (hd : d.toNat ≠ 34) (hd2 : d.toNat ≠ 92) (hd3 : d.toNat ≠ 110) : unq (c :: d :: l) = none := by rw [unq, if_neg (by omega), if_pos h, if_neg (by omega), if_neg hd3]
theorem unq_one {c : UInt8} (h : c.toNat ≠ 34) : unq [c] = none := by rw [unq, if_neg h]
theorem unq_c {c : UInt8} {l : List UInt8} (h : c.toNat ≠ 34) (h1 : c.toNat ≠ 92) (h2 : 32 ≤ c.toNat) (h3 : c.toNat ≤ 126) : unq (c :: l) = (unq l).map (fun p => (c :: p.1, p.2 + 1)) := by
  cases l with
  | nil => rw [unq_one h]; rfl
  | cons d l => rw [unq, if_neg h, if_neg h1, if_neg (by omega)]
/-- So far a text's token has been read. -/
def Unq (l : List UInt8) (k : Nat) (acc : List UInt8) : Prop := unq (l.drop 1) = (unq (l.drop k)).map (fun p => (acc ++ p.1, p.2 + (k - 1)))
theorem Unq.start (l : List UInt8) : Unq l 1 [] := by unfold Unq; simp
theorem Unq.more {l acc : List UInt8} {k n : Nat} {c : UInt8} (h : Unq l k acc) (h1 : 1 ≤ k) (hu : unq (l.drop k) = (unq (l.drop (k + n))).map (fun p => (c :: p.1, p.2 + n))) : Unq l (k + n) (acc ++ [c]) := by
  unfold Unq at h ⊢
  rw [h, hu]
  cases unq (l.drop (k + n)) with
  | none => rfl
  | some p => simp; omega
theorem Unq.none {l acc : List UInt8} {k : Nat} (h : Unq l k acc) (hu : unq (l.drop k) = Option.none) : unq (l.drop 1) = Option.none := by
  unfold Unq at h; rw [h, hu]; rfl
theorem Unq.done {l acc : List UInt8} {k : Nat} (h : Unq l k acc) (h1 : 1 ≤ k) (hu : unq (l.drop k) = some ([], 1)) : unq (l.drop 1) = some (acc, k) := by
  unfold Unq at h; rw [h, hu]; simp; omega
theorem drop1 {l : List UInt8} {k : Nat} (hk : k < l.length) : l.drop k = l[k] :: l.drop (k + 1) := List.drop_eq_getElem_cons hk
theorem drop2 {l : List UInt8} {k : Nat} (hk : k + 1 < l.length) : l.drop k = l[k] :: l[k + 1] :: l.drop (k + 2) := by rw [drop1 (by omega), drop1 hk]
end Culp.Tx
namespace Go.Proofs.YtnhdbjhdmdefmaaDoor
set_option linter.unusedSimpArgs false
set_option linter.unusedVariables false
open Go.RowKit Culp

def byteV (c : UInt8) : Value := .int .u8 (c.toNat : Int)
theorem u8_info : (Tryd.prog.info? 5).map (fun i => (i.zero, i.size, i.bytes)) = some (some (.int .u8 0), 1, 1) := by kernel_rfl
theorem text_none (c : Nat) (W : World) : (convert 31 9 (.slice none ([] : List UInt8).length c)).run Tryd.prog W = .ok (.string (bs [])) W := by kernel_rfl
theorem text_at (w : World) (g c : Nat) (l : List UInt8) (h : Lib.Bytes w g 0 (bs l)) : (convert 31 9 (.slice (some ⟨g, 0, none⟩) l.length c)).run Tryd.prog w = .ok (.string (bs l)) w := by
  have := Lib.run_convert_whole w 31 5 9 Tryd.underlying31 Tryd.underlying5 Tryd.underlying9 g 0 (bs l) h c
  rw [bs_size] at this
  exact this
/-- An own row of bytes, as text. -/
theorem own_text {w : World} {base : Nat} {v : Value} {l : List UInt8} (h : w.ownsRow base 5 1 v l.length (l.map byteV)) : (convert 31 9 v).run Tryd.prog w = .ok (.string (bs l)) w := by
  obtain ⟨A, c, rfl, hl, hA⟩ := own_form h
  rcases Nat.eq_zero_or_pos l.length with h0 | h0
  · have hl0 : l = [] := List.eq_nil_of_length_eq_zero h0
    subst hl0
    have hA2 : A = none ∨ ∃ g, A = some ⟨g, 0, none⟩ := by
      rcases h.2 with ⟨hv, _⟩ | ⟨g, cap, cur, hv, _⟩
      · injection hv with hv1 _ hv3
        exact .inl hv1
      · injection hv with hv1 _ hv3
        exact .inr ⟨g, hv1⟩
    clear h hl hA h0
    rcases hA2 with rfl | ⟨g, rfl⟩
    · exact text_none c w
    · exact text_at w g c [] (fun i hi => absurd hi (by rw [bs_size]; simp))
  · obtain ⟨g, rfl, _, hc⟩ := hA h0
    refine text_at w g c l (fun i hi => ?_)
    rw [Nat.zero_add]
    refine hc i _ ?_
    rw [List.getElem?_map, List.getElem?_eq_getElem (by rw [← bs_size]; exact hi)]
    rfl

/-- What quoted answers. -/
def QuotedRes (l : List UInt8) (base : Nat) (w : World) (e : Ending) (w' : World) : Prop := Below w.heap.size w w' ∧ match Tx.unq (l.drop 1) with
  | some (t, k) => e = .returned (.tuple #[.string (bs t), .int .i64 ((base + k + 1 : Nat) : Int), .bool (decide (t.length ≤ 64))])
  | none => ∃ x y, e = .returned (.tuple #[x, y, .bool false])
theorem QuotedRes.yes {l t : List UInt8} {base k : Nat} {w w' : World} {x : Int} {b : Bool} (h : Tx.unq (l.drop 1) = some (t, k)) (hb : Below w.heap.size w w') (hx : x = ((base + k + 1 : Nat) : Int)) (hb2 : b = decide (t.length ≤ 64)) : QuotedRes l base w (.returned (.tuple #[.string (bs t), .int .i64 x, .bool b])) w' := ⟨hb, by rw [h, hx, hb2]⟩
theorem QuotedRes.no {l : List UInt8} {base : Nat} {w w' : World} {x y : Value} (h : Tx.unq (l.drop 1) = none) (hb : Below w.heap.size w w') : QuotedRes l base w (.returned (.tuple #[x, y, .bool false])) w' := ⟨hb, by rw [h]; exact ⟨x, y, rfl⟩⟩

set_option maxRecDepth 100000 in
set_option maxHeartbeats 1600000 in
theorem tquoted_any (s : ByteArray) (sv : Value) (w : World) (hb : BytesV w sv s) (h0 : 0 < s.size) (hs : s.size ≤ 1000000) :
    Calls Tryd.prog 72 #[sv] w (QuotedRes s.data.toList 0 w) := by
  obtain ⟨A, c, rfl, hc, hA⟩ := hb
  obtain ⟨b, o, rfl, hB⟩ := hA h0
  have HB := Lib.hid hB
  clear hA hB
  go_enter Tryd.func72, Tryd.ntmps72
  go_wp2_with fail
  go_loopw [5, 6] (fun v i wr => ∃ (k : Nat) (acc : List UInt8) (u : Value), i = .int .i64 k ∧ v = u ∧ 1 ≤ k ∧ k ≤ s.size ∧ acc.length ≤ k ∧ Hid (Tx.Unq s.data.toList k acc) ∧ wr.ownsRow w.heap.size 5 1 u acc.length (acc.map byteV) ∧ Below w.heap.size w wr) (fun _ i _ => s.size - (intOf i).toNat)
  case atStart => exact ⟨1, [], _, rfl, rfl, Nat.le_refl _, h0, by simp, Lib.hid (Tx.Unq.start _), World.ownsRow_nil _ _ _ _, Below.refl _ _⟩
  case round =>
    obtain ⟨k, acc, u, rfl, rfl, hk1, hk, hal, HU, hown, hbel⟩ := hrel
    by_cases hlt : k < s.size
    · have hkl : k < s.data.toList.length := by rw [size_list]; exact hlt
      have hcell := cell_later hbel (HB.out k hlt)
      have hdr := Tx.drop1 hkl
      have hget : s.data.toList[k] = s[k] := rfl
      rw [hget] at hdr
      have HD := Lib.hid hdr
      clear hdr hget
      by_cases c34 : s[k].toNat = 34
      · have e34 := eq_lit (n := s[k].toNat) (z := 34) (by omega)
        have HF := Lib.hid (HU.out.done hk1 (by rw [HD.out]; exact Tx.unq_34 c34))
        have hcv := own_text hown
        have HBE := Lib.hid hbel
        have HL := Lib.hid hown.1
        obtain ⟨A2, c2, rfl, _, _⟩ := own_form hown
        clear hown hbel c34 HU HD
        go_wp2_with fail
        go_ret3
        exact QuotedRes.yes HF.out HBE.out (by omega) (by simp; omega)
      have e34 := ne_lit (n := s[k].toNat) (z := 34) (by omega)
      by_cases c92 : s[k].toNat = 92
      · have e92 := eq_lit (n := s[k].toNat) (z := 92) (by omega)
        have l1 : 32 ≤ s[k].toNat := by omega
        have l2 : s[k].toNat ≤ 126 := by omega
        by_cases hlt2 : k + 1 < s.size
        · have hkl2 : k + 1 < s.data.toList.length := by rw [size_list]; exact hlt2
          have hcell2 := cell_later hbel (HB.out (k + 1) hlt2)
          have hdr2 : s.data.toList.drop k = s[k] :: s[k + 1] :: s.data.toList.drop (k + 2) := Tx.drop2 hkl2
          have HD2 := Lib.hid hdr2
          clear hdr2
          by_cases d34 : s[k + 1].toNat = 34
          · have f34 := eq_lit (n := s[k + 1].toNat) (z := 34) (by omega)
            have HU := Lib.hid (HU.out.more (n := 2) (c := s[k + 1]) hk1 (by rw [HD2.out]; exact Tx.unq_esc c92 (.inl d34)))
            clear c34 c92 d34 HD HD2
            go_wp2_with (at_builtin; refine append_one rfl (.tmp 60) (.tmp 65) 31 5 rfl w.heap.size _ 1 Tryd.underlying31 u8_info rfl _ _ _ rfl hown _ rfl rfl ?_ ?_ ?_ ?_)
            · omega
            · omega
            · exact hbel.size
            intro v' w2 hown' hg hb'
            have hb2 := hbel.trans hb'
            have hown2 : w2.ownsRow w.heap.size 5 1 v' (acc ++ [s[k + 1]]).length ((acc ++ [s[k + 1]]).map byteV) := by rw [List.length_append, List.map_append]; exact hown'
            clear hown hbel hg hb' hown'
            go_wp2_with fail
            go_roundw
            case rel => exact ⟨k + 2, acc ++ [s[k + 1]], v', rfl, rfl, by omega, by omega, by simp; omega, HU.out, hown2, hb2⟩
            case measure => simp [intOf]; omega
          have f34 := ne_lit (n := s[k + 1].toNat) (z := 34) (by omega)
          by_cases d92 : s[k + 1].toNat = 92
          · have f92 := eq_lit (n := s[k + 1].toNat) (z := 92) (by omega)
            have HU := Lib.hid (HU.out.more (n := 2) (c := s[k + 1]) hk1 (by rw [HD2.out]; exact Tx.unq_esc c92 (.inr d92)))
            clear c34 c92 d34 d92 HD HD2
            go_wp2_with (at_builtin; refine append_one rfl (.tmp 60) (.tmp 65) 31 5 rfl w.heap.size _ 1 Tryd.underlying31 u8_info rfl _ _ _ rfl hown _ rfl rfl ?_ ?_ ?_ ?_)
            · omega
            · omega
            · exact hbel.size
            intro v' w2 hown' hg hb'
            have hb2 := hbel.trans hb'
            have hown2 : w2.ownsRow w.heap.size 5 1 v' (acc ++ [s[k + 1]]).length ((acc ++ [s[k + 1]]).map byteV) := by rw [List.length_append, List.map_append]; exact hown'
            clear hown hbel hg hb' hown'
            go_wp2_with fail
            go_roundw
            case rel => exact ⟨k + 2, acc ++ [s[k + 1]], v', rfl, rfl, by omega, by omega, by simp; omega, HU.out, hown2, hb2⟩
            case measure => simp [intOf]; omega
          have f92 := ne_lit (n := s[k + 1].toNat) (z := 92) (by omega)
          by_cases d110 : s[k + 1].toNat = 110
          · have f110 := eq_lit (n := s[k + 1].toNat) (z := 110) (by omega)
            have HU := Lib.hid (HU.out.more (n := 2) (c := 10) hk1 (by rw [HD2.out]; exact Tx.unq_n c92 d110))
            clear c34 c92 d34 d92 d110 HD HD2
            go_wp2_with (at_builtin; refine append_one rfl (.tmp 87) (.tmp 88) 31 5 rfl w.heap.size _ 1 Tryd.underlying31 u8_info rfl _ _ _ rfl hown _ rfl rfl ?_ ?_ ?_ ?_)
            · omega
            · omega
            · exact hbel.size
            intro v' w2 hown' hg hb'
            have hb2 := hbel.trans hb'
            have hown2 : w2.ownsRow w.heap.size 5 1 v' (acc ++ [10]).length ((acc ++ [10]).map byteV) := by rw [List.length_append, List.map_append]; exact hown'
            clear hown hbel hg hb' hown'
            go_wp2_with fail
            go_roundw
            case rel => exact ⟨k + 2, acc ++ [10], v', rfl, rfl, by omega, by omega, by simp; omega, HU.out, hown2, hb2⟩
            case measure => simp [intOf]; omega
          · have f110 := ne_lit (n := s[k + 1].toNat) (z := 110) (by omega)
            have HF := Lib.hid (HU.out.none (by rw [HD2.out]; exact Tx.unq_92 c92 d34 d92 d110))
            have HBE := Lib.hid hbel
            clear hown hbel c34 c92 d34 d92 d110 HD HD2 HU
            go_wp2_with fail
            go_ret3
            exact QuotedRes.no HF.out HBE.out
        · have HF := Lib.hid (HU.out.none (by rw [HD.out, List.drop_of_length_le (by rw [size_list]; omega)]; exact Tx.unq_one c34))
          have HBE := Lib.hid hbel
          clear hown hbel c34 c92 HD HU
          go_wp2_with fail
          go_ret3
          exact QuotedRes.no HF.out HBE.out
      have e92 := ne_lit (n := s[k].toNat) (z := 92) (by omega)
      by_cases hr : s[k].toNat < 32 ∨ 126 < s[k].toNat
      · have HF := Lib.hid (HU.out.none (by rw [HD.out]; exact Tx.unq_bad hr))
        have HBE := Lib.hid hbel
        clear hown hbel c34 c92 HD HU
        by_cases hr2 : s[k].toNat < 32
        · go_wp2_with fail
          go_ret3
          exact QuotedRes.no HF.out HBE.out
        · have hr3 : 126 < s[k].toNat := by omega
          go_wp2_with fail
          go_ret3
          exact QuotedRes.no HF.out HBE.out
      · have hr2 : 32 ≤ s[k].toNat := by omega
        have hr3 : s[k].toNat ≤ 126 := by omega
        have HU := Lib.hid (HU.out.more (n := 1) (c := s[k]) hk1 (by rw [HD.out]; exact Tx.unq_c c34 c92 hr2 hr3))
        clear c34 c92 hr HD
        go_wp2_with (at_builtin; refine append_one rfl (.tmp 18) (.tmp 20) 31 5 rfl w.heap.size _ 1 Tryd.underlying31 u8_info rfl _ _ _ rfl hown _ rfl rfl ?_ ?_ ?_ ?_)
        · omega
        · omega
        · exact hbel.size
        intro v' w2 hown' hg hb'
        have hb2 := hbel.trans hb'
        have hown2 : w2.ownsRow w.heap.size 5 1 v' (acc ++ [s[k]]).length ((acc ++ [s[k]]).map byteV) := by rw [List.length_append, List.map_append]; exact hown'
        clear hown hbel hg hb' hown'
        go_wp2_with fail
        go_roundw
        case rel => exact ⟨k + 1, acc ++ [s[k]], v', rfl, rfl, by omega, by omega, by simp; omega, HU.out, hown2, hb2⟩
        case measure => simp [intOf]; omega
    · have HF := Lib.hid (HU.out.none (by rw [List.drop_of_length_le (by rw [size_list]; omega)]; rfl))
      have HBE := Lib.hid hbel
      clear hown hbel HU
      go_wp2_with fail
      go_ret3
      exact QuotedRes.no HF.out HBE.out
end Go.Proofs.YtnhdbjhdmdefmaaDoor

/- Walks of the reference of package text: a text in quotes. -/
namespace Culp.Tx
set_option linter.unusedSimpArgs false
set_option linter.unusedVariables false
/-- So far a text's token has been read; places of the source. -/
def Unq2 (l : List UInt8) (at_ i : Nat) (acc : List UInt8) : Prop := Unq (l.drop at_) (i - at_) acc
section
variable {l acc : List UInt8} {at_ i n : Nat} {c : UInt8}
theorem Unq2.start : Unq2 l at_ (at_ + 1) [] := by
  unfold Unq2
  rw [show at_ + 1 - at_ = 1 by omega]
  exact Unq.start _
theorem drop_sub (h1 : at_ + 1 ≤ i) : (l.drop at_).drop (i - at_) = l.drop i := by rw [List.drop_drop]; congr 1; omega
theorem Unq2.more (h : Unq2 l at_ i acc) (h1 : at_ + 1 ≤ i) (hu : unq (l.drop i) = (unq (l.drop (i + n))).map (fun p => (c :: p.1, p.2 + n))) : Unq2 l at_ (i + n) (acc ++ [c]) := by
  unfold Unq2 at h ⊢
  rw [show i + n - at_ = (i - at_) + n by omega]
  refine h.more (by omega) ?_
  rw [drop_sub h1, show (i - at_) + n = i + n - at_ by omega, drop_sub (by omega), hu]
theorem Unq2.none (h : Unq2 l at_ i acc) (h1 : at_ + 1 ≤ i) (hu : unq (l.drop i) = Option.none) : unq ((l.drop at_).drop 1) = Option.none := Unq.none h (by rw [drop_sub h1, hu])
theorem Unq2.done (h : Unq2 l at_ i acc) (h1 : at_ + 1 ≤ i) (hu : unq (l.drop i) = some ([], 1)) : unq ((l.drop at_).drop 1) = some (acc, i - at_) := Unq.done h (by omega) (by rw [drop_sub h1, hu])
end
end Culp.Tx
namespace Go.Proofs.YtnhdbjhdmdefmaaDoor
set_option linter.unusedSimpArgs false
set_option linter.unusedVariables false
open Go.RowKit Culp

end Go.Proofs.YtnhdbjhdmdefmaaDoor

/- Walks of package text: marks. -/
namespace Go.Proofs.YtnhdbjhdmdefmaaDoor
set_option linter.unusedSimpArgs false
set_option linter.unusedVariables false
open Go.RowKit Culp

theorem beq_bs (l m : List UInt8) : ((bs l).toList == m) = (l == m) := by rw [toL', bs_list]
theorem head_text (W : World) (b o cap h : Nat) (s : ByteArray) (hB : Lib.Bytes W b o s) (h0 : 0 < h) (hh : h ≤ s.size) (hcap : s.size ≤ cap) :
    (convert 31 9 (.slice (some ⟨b, o, none⟩) h cap)).run Tryd.prog W = .ok (.string (bs (s.data.toList.take h))) W := by
  have := (cut_text W b o s.size cap 0 h s hB h0 hh hcap).2
  simpa using this
theorem take2 (s : ByteArray) (h : 1 < s.size) : s.data.toList.take 2 = [s[0], s[1]] ∧ s.data.toList = s[0] :: s[1] :: s.data.toList.drop 2 := by
  have hl := size_list s
  have e : s.data.toList = s[0] :: s[1] :: s.data.toList.drop 2 := by
    have := Tx.drop2 (l := s.data.toList) (k := 0) (by omega)
    rw [List.drop_zero] at this
    exact this
  refine ⟨?_, e⟩
  conv => lhs; rw [e]
  rfl
theorem take1 (s : ByteArray) (h : 0 < s.size) : s.data.toList.take 1 = [s[0]] ∧ s.data.toList = s[0] :: s.data.toList.drop 1 := by
  have hl := size_list s
  have e : s.data.toList = s[0] :: s.data.toList.drop 1 := by
    have := Tx.drop1 (l := s.data.toList) (k := 0) (by omega)
    rw [List.drop_zero] at this
    exact this
  refine ⟨?_, e⟩
  conv => lhs; rw [e]
  rfl
def marksS : ByteArray := { data := #[40, 41, 91, 93, 123, 125, 44, 58, 59, 46, 61, 60, 43, 45, 42, 63, 33] }
theorem mark_ix (c : UInt8) (w : World) : Calls Tryd.prog 80 #[.string { data := #[40, 41, 91, 93, 123, 125, 44, 58, 59, 46, 61, 60, 43, 45, 42, 63, 33] }, .int .u8 (c.toNat : Int)] w (fun e w' => ∃ x : Int, e = .returned (.int .i64 x) ∧ (0 ≤ x ↔ c ∈ Tx.marks1) ∧ w = w') := by
  refine (Tryd.strings_IndexByte { data := #[40, 41, 91, 93, 123, 125, 44, 58, 59, 46, 61, 60, 43, 45, 42, 63, 33] } (c.toNat : Int) w).mono ?_
  rintro e w' ⟨rfl, rfl⟩
  refine ⟨_, rfl, ?_, rfl⟩
  have e1 : ((c.toNat : Int).toNat.toUInt8) = c := by simp
  rw [e1]
  have := Lib.contains_iff_indexByte Tx.marks1 c
  constructor
  · intro h
    have h2 : Tx.marks1.contains c = true := by rw [this]; exact decide_eq_true h
    simpa using h2
  · intro h
    have h2 : Tx.marks1.contains c = true := by simpa using h
    rw [this] at h2
    exact of_decide_eq_true h2
set_option maxRecDepth 100000 in
set_option maxHeartbeats 800000 in
theorem tmark_any (s : ByteArray) (sv : Value) (w : World) (hb : BytesV w sv s) (h0 : 0 < s.size) (hs : s.size ≤ 1000000) :
    Calls Tryd.prog 73 #[sv] w (Gives (.string (bs (Tx.mark s.data.toList))) w) := by
  obtain ⟨A, c, rfl, hc, hA⟩ := hb
  obtain ⟨b, o, rfl, hB⟩ := hA h0
  have HB := Lib.hid hB
  have hcell := HB.out 0 h0
  rw [Nat.add_zero] at hcell
  clear hA hB
  have hs1 := take1 s h0
  have hc1 := head_text w b o c 1 s HB.out (by omega) (by omega) hc
  rw [hs1.1] at hc1
  have HE := Lib.hid hs1.2
  clear hs1
  by_cases h2 : 1 < s.size
  · have hs2 := take2 s h2
    have hc2 := head_text w b o c 2 s HB.out (by omega) (by omega) hc
    rw [hs2.1] at hc2
    have HE2 := Lib.hid hs2.2
    have hb := beq_bs [s[0], s[1]]
    clear hs2
    have no : (∀ m ∈ Tx.marks2, ([s[0], s[1]] == m) = false) → [s[0], s[1]] ∉ Tx.marks2 := fun h hm => by have := h _ hm; simp at this
    have yes : ∀ m ∈ Tx.marks2, ([s[0], s[1]] == m) = true → Tx.mark s.data.toList = [s[0], s[1]] := fun m hm h => by
      rw [HE2.out, Tx.mark, if_pos (by have := eq_of_beq h; rw [this]; exact hm)]
    have YES := Lib.hid yes
    have q1 := hb [45, 62]
    have q2 := hb [61, 62]
    have q3 := hb [58, 61]
    have q4 := hb [61, 61]
    have q5 := hb [43, 43]
    clear hb yes
    cases p1 : ([s[0], s[1]] == [45, 62])
    case true =>
      have Y := Lib.hid (YES.out _ (by decide) p1)
      rw [p1] at q1
      clear q2 q3 q4 q5 no p1
      go_enter Tryd.func73, Tryd.ntmps73
      go_wp2_with fail
      go_ret
      exact Gives.mk (by rw [Y.out]; rfl)
    rw [p1] at q1
    cases p2 : ([s[0], s[1]] == [61, 62])
    case true =>
      have Y := Lib.hid (YES.out _ (by decide) p2)
      rw [p2] at q2
      clear q3 q4 q5 no p1 p2
      go_enter Tryd.func73, Tryd.ntmps73
      go_wp2_with fail
      go_ret
      exact Gives.mk (by rw [Y.out]; rfl)
    rw [p2] at q2
    cases p3 : ([s[0], s[1]] == [58, 61])
    case true =>
      have Y := Lib.hid (YES.out _ (by decide) p3)
      rw [p3] at q3
      clear q4 q5 no p1 p2 p3
      go_enter Tryd.func73, Tryd.ntmps73
      go_wp2_with fail
      go_ret
      exact Gives.mk (by rw [Y.out]; rfl)
    rw [p3] at q3
    cases p4 : ([s[0], s[1]] == [61, 61])
    case true =>
      have Y := Lib.hid (YES.out _ (by decide) p4)
      rw [p4] at q4
      clear q5 no p1 p2 p3 p4
      go_enter Tryd.func73, Tryd.ntmps73
      go_wp2_with fail
      go_ret
      exact Gives.mk (by rw [Y.out]; rfl)
    rw [p4] at q4
    cases p5 : ([s[0], s[1]] == [43, 43])
    case true =>
      have Y := Lib.hid (YES.out _ (by decide) p5)
      rw [p5] at q5
      clear no p1 p2 p3 p4 p5
      go_enter Tryd.func73, Tryd.ntmps73
      go_wp2_with fail
      go_ret
      exact Gives.mk (by rw [Y.out]; rfl)
    rw [p5] at q5
    have N := Lib.hid (no (by simp only [Tx.marks2, List.forall_mem_cons]; exact ⟨p1, p2, p3, p4, p5, by simp⟩))
    clear no p1 p2 p3 p4 p5 YES
    by_cases hm : s[0] ∈ Tx.marks1
    · have Y : Hid (Tx.mark s.data.toList = [s[0]]) := Lib.hid (by rw [HE2.out, Tx.mark, if_neg N.out, if_pos hm])
      have HM := Lib.hid hm
      clear hm
      go_enter Tryd.func73, Tryd.ntmps73
      go_wp2_with fail
      refine (mark_ix s[0] _).mono ?_
      rintro e w' ⟨x, rfl, hx, rfl⟩
      have hx0 : 0 ≤ x := hx.2 HM.out
      clear hx
      go_wp2_with fail
      go_ret
      exact Gives.mk (by rw [Y.out]; rfl)
    · have Y : Hid (Tx.mark s.data.toList = []) := Lib.hid (by rw [HE2.out, Tx.mark, if_neg N.out, if_neg hm])
      have HM := Lib.hid hm
      clear hm
      go_enter Tryd.func73, Tryd.ntmps73
      go_wp2_with fail
      refine (mark_ix s[0] _).mono ?_
      rintro e w' ⟨x, rfl, hx, rfl⟩
      have hx0 : x < 0 := by
        by_cases h : 0 ≤ x
        · exact absurd (hx.1 h) HM.out
        · omega
      clear hx
      go_wp2_with fail
      go_ret
      exact Gives.mk (by rw [Y.out]; rfl)
  · have HE3 : Hid (s.data.toList = [s[0]]) := Lib.hid (by
      have h1 := HE.out
      rw [List.drop_of_length_le (by rw [size_list]; omega)] at h1
      exact h1)
    by_cases hm : s[0] ∈ Tx.marks1
    · have Y : Hid (Tx.mark s.data.toList = [s[0]]) := Lib.hid (by rw [HE3.out, Tx.mark, if_pos hm])
      have HM := Lib.hid hm
      clear hm
      go_enter Tryd.func73, Tryd.ntmps73
      go_wp2_with fail
      refine (mark_ix s[0] _).mono ?_
      rintro e w' ⟨x, rfl, hx, rfl⟩
      have hx0 : 0 ≤ x := hx.2 HM.out
      clear hx
      go_wp2_with fail
      go_ret
      exact Gives.mk (by rw [Y.out]; rfl)
    · have Y : Hid (Tx.mark s.data.toList = []) := Lib.hid (by rw [HE3.out, Tx.mark, if_neg hm])
      have HM := Lib.hid hm
      clear hm
      go_enter Tryd.func73, Tryd.ntmps73
      go_wp2_with fail
      refine (mark_ix s[0] _).mono ?_
      rintro e w' ⟨x, rfl, hx, rfl⟩
      have hx0 : x < 0 := by
        by_cases h : 0 ≤ x
        · exact absurd (hx.1 h) HM.out
        · omega
      clear hx
      go_wp2_with fail
      go_ret
      exact Gives.mk (by rw [Y.out]; rfl)
end Go.Proofs.YtnhdbjhdmdefmaaDoor

/- Walks of the reference of package text: lists of texts. -/
namespace Go.Proofs.YtnhdbjhdmdefmaaDoor
set_option linter.unusedSimpArgs false
set_option linter.unusedVariables false
open Go.RowKit Culp

/-- Texts in a block. -/
def Strs (w : World) (g : Nat) (L : List (List UInt8)) : Prop := ∀ k x, L[k]? = some x → w.cell? ⟨g, k, none⟩ = some (.string (bs x))
theorem Strs.later {w w' : World} {g : Nat} {L : List (List UInt8)} (h : Strs w g L) (hb : Below w.heap.size w w') : Strs w' g L := fun k x hx => cell_later hb (h k x hx)
/-- A list of texts that a call makes. -/
def MakesStrs (L : List (List UInt8)) (w : World) (e : Ending) (w' : World) : Prop := e = .returned (.slice (some ⟨w.heap.size, 0, none⟩) L.length L.length) ∧ Strs w' w.heap.size L ∧ Below w.heap.size w w'
theorem strs_alloc (w : World) (L : List (List UInt8)) (t : TypeId) : Strs (w.alloc (.cells (L.map fun x => Value.string (bs x)).toArray t)) w.heap.size L := fun k x hx => by
  rw [World.cell?_alloc_at _ _ _ _ rfl]
  simp [hx]
def marksL : List (List UInt8) := Tx.marks2 ++ Tx.marks1.map fun c => [c]
end Go.Proofs.YtnhdbjhdmdefmaaDoor

/- Walks of package text: the words, as a map; names. -/
namespace Go.Proofs.YtnhdbjhdmdefmaaDoor
set_option linter.unusedSimpArgs false
set_option linter.unusedVariables false
open Go.RowKit Go.Maps Culp

/-- The library's table of blanks. -/
def Sp (w : World) : Prop := Lib.TabIs Tryd.prog w "strings.asciiSpace" .u8 Lib.asciiSpaceTab
theorem Sp.later {w w' : World} (h : Sp w) (hb : Below w.heap.size w w') : Sp w' := by
  unfold Sp Lib.TabIs World.var? at h ⊢
  cases hg : Tryd.prog.globalNamed "strings.asciiSpace" with
  | none => rw [hg] at h; cases h
  | some g =>
    rw [hg] at h
    simp only [Option.bind_some] at h ⊢
    have hlt : g < w.heap.size := by
      rcases Nat.lt_or_ge g w.heap.size with hlt | hge
      · exact hlt
      · rw [Array.getElem?_eq_none hge] at h; cases h
    rw [hb.block g hlt]
    exact h
/-- The words so far. -/
def wordsD : Nat → DataW Unit
  | 0 => .map []
  | k + 1 => (wordsD k).put (.string (Tx.words.getD k [])) (.lit (.int .i64 ((k : Int) + 1)))
theorem wordsD_map : ∀ k, IsMap (wordsD k)
  | 0 => ⟨[], rfl⟩
  | k + 1 => by
    obtain ⟨es, h⟩ := wordsD_map k
    rw [wordsD, h]
    exact ⟨_, rfl⟩
theorem wordsD_at (x : List UInt8) : ∀ k, k ≤ 23 → ∃ c : Int, (wordsD k).atKey (.string x) (.lit (.int .i64 0)) = .lit (.int .i64 c) ∧ 0 ≤ c ∧ (0 < c ↔ x ∈ Tx.words.take k)
  | 0, _ => ⟨0, rfl, by omega, by simp⟩
  | k + 1, h => by
    have hk : k < Tx.words.length := by have : Tx.words.length = 23 := rfl; omega
    have e : Tx.words.getD k [] = Tx.words[k] := by simp [List.getD, hk]
    rw [List.take_succ_eq_append_getElem hk, wordsD, e]
    by_cases hx : x = Tx.words[k]
    · refine ⟨(k : Int) + 1, ?_, by omega, ?_⟩
      · rw [hx]; exact atKey_put_same (wordsD_map k) (by trivial) _ _
      · constructor
        · intro _; rw [hx]; exact List.mem_append.2 (.inr (List.mem_singleton.2 rfl))
        · intro _; omega
    · obtain ⟨c, h1, h2, h3⟩ := wordsD_at x k (by omega)
      refine ⟨c, ?_, h2, ?_⟩
      · rw [atKey_put_other (by intro he; injection he with he; exact hx he)]; exact h1
      · rw [h3, List.mem_append]; simp [hx]
theorem wordsD_is (x : List UInt8) {c : Int} (h : (wordsD 23).atKey (.string x) (.lit (.int .i64 0)) = .lit (.int .i64 c)) : 0 ≤ c ∧ decide (0 < c) = Tx.isWord x := by
  obtain ⟨c', h1, h2, h3⟩ := wordsD_at x 23 (Nat.le_refl _)
  rw [h] at h1
  injection h1 with h1; injection h1 with _ h1
  subst h1
  refine ⟨h2, ?_⟩
  rw [show Tx.words.take 23 = Tx.words from rfl] at h3
  unfold Tx.isWord
  exact decide_eq_decide.2 h3
theorem lawS : Keyed Tryd.prog 9 := string_keyed Tryd.underlying9
theorem zeroI (w : World) : (zeroValue 3).run Tryd.prog w = .ok (.int .i64 0) w := by kernel_rfl
/-- The map of the words. -/
def WordsMap (w : World) (B : Nat) : Prop := w.ownsMap Tryd.prog 9 (plainElem Tryd.prog 3) B 23 (wordsD 23)
theorem WordsMap.same {w w' : World} {B : Nat} (h : WordsMap w B) (he : w'.heap[B]? = w.heap[B]?) : WordsMap w' B := by
  obtain ⟨es, clock, h1, h2⟩ := h
  exact ⟨es, clock, he.trans h1, h2⟩
theorem WordsMap.lt {w : World} {B : Nat} (h : WordsMap w B) : B < w.heap.size := by
  obtain ⟨es, clock, h1, h2⟩ := h
  rcases Nat.lt_or_ge B w.heap.size with hlt | hge
  · exact hlt
  · rw [Array.getElem?_eq_none hge] at h1; cases h1
theorem WordsMap.later {w w' : World} {B : Nat} (h : WordsMap w B) (hb : Below w.heap.size w w') : WordsMap w' B := h.same (hb.block B h.lt)
theorem WordsMap.keep {w w' : World} {B r : Nat} (h : WordsMap w B) (hk : Keep r w w') (hne : B ≠ r) : WordsMap w' B := h.same (hk.block B h.lt hne)
def MakesWords (w : World) (e : Ending) (w' : World) : Prop := ∃ B, e = .returned (.map (some B)) ∧ w.heap.size ≤ B ∧ WordsMap w' B ∧ Below w.heap.size w w'
def wordsText : ByteArray := bs [109,111,100,117,108,101,32,105,109,112,111,114,116,32,101,120,112,111,114,116,32,108,101,116,32,114,101,99,32,105,110,32,105,102,32,116,104,101,110,32,101,108,115,101,32,102,110,32,116,114,117,101,32,102,97,108,115,101,32,105,110,116,32,98,111,111,108,32,116,101,120,116,32,98,111,120,32,102,105,114,115,116,32,115,101,99,111,110,100,32,104,101,97,100,32,116,97,105,108,32,101,109,112,116,121,32,99,111,110,115,32,115,105,122,101]
theorem words_fields : Lib.fields wordsText.data.toList = Tx.words := by kernel_rfl
theorem words_ascii : ∀ b ∈ wordsText.data.toList, b.toNat < 128 := by decide
theorem words_call (w : World) (h : Sp w) : Calls Tryd.prog 69 #[.string wordsText] w (MakesStrs Tx.words w) := by
  refine (Tryd.strings_Fields wordsText w (by decide) (fun j b hb => words_ascii b (List.mem_of_getElem? hb)) h).mono ?_
  rintro e w' ⟨rfl, rfl⟩
  rw [words_fields]
  exact ⟨rfl, strs_alloc w Tx.words 9, (Below.refl _ _).alloc (Nat.le_refl _) _⟩

set_option maxHeartbeats 1600000 in
theorem twords_any (w : World) (hS : Sp w) : Calls Tryd.prog 61 #[] w (MakesWords w) := by
  have HS := Lib.hid hS
  clear hS
  have hmm := @run_makeMap Tryd.prog
  go_enter Tryd.func61, Tryd.ntmps61
  go_wp2_with fail
  refine (words_call _ (HS.out.later ((Below.refl _ _).alloc (Nat.le_refl _) _))).mono ?_
  rintro e w2 ⟨rfl, hS, hb⟩
  have HST := Lib.hid hS
  have hb0 : Below w.heap.size w w2 := below_later hb ((Below.refl _ _).alloc (Nat.le_refl _) _)
  have hown : w2.ownsMap Tryd.prog 9 (plainElem Tryd.prog 3) w.heap.size 0 (wordsD 0) := by
    obtain ⟨es, clock, h1, h2⟩ := World.ownsMap_made (H := Unit) w Tryd.prog 9 (plainElem Tryd.prog 3)
    exact ⟨es, clock, (hb.block _ (by simp)).trans h1, h2⟩
  clear hS hb
  go_wp2_with fail
  have hlen : Tx.words.length ≤ 23 := Nat.le_refl _
  have hst : Strs w2 (w.heap.size + 1) Tx.words := by have := HST.out; simpa using this
  have HST2 := Lib.hid hst
  clear hst HST
  go_loopw [7] (fun i wr => ∃ k : Nat, k ≤ Tx.words.length ∧ i = .int .i64 k ∧ wr.ownsMap Tryd.prog 9 (plainElem Tryd.prog 3) w.heap.size k (wordsD k) ∧ Below w.heap.size w wr ∧ Hid (Strs wr (w.heap.size + 1) Tx.words)) (fun i _ => Tx.words.length - (intOf i).toNat)
  case atStart => exact ⟨0, Nat.zero_le _, rfl, hown, hb0, HST2⟩
  case round =>
    obtain ⟨k, hk, rfl, hown, hbel, HS2⟩ := hrel
    by_cases hlt : k < Tx.words.length
    · have hcell := HS2.out k _ (List.getElem?_eq_getElem hlt)
      have hkey : keyOf Tryd.prog 9 (.string (bs Tx.words[k])) = some (.string Tx.words[k]) := Go.WideMaps.keyOf_string_mk Tryd.underlying9 (by have := (Tx.words_short _ (List.getElem_mem hlt)).2.1; rw [bs_size]; unfold maxLen; omega)
      have HD : Hid (wordsD (k + 1) = (wordsD k).put (.string Tx.words[k]) (.lit (.int .i64 ((k : Int) + 1)))) := Lib.hid (by rw [wordsD]; simp [List.getD, hlt])
      generalize Tx.words[k] = y at *
      go_wp2_with (at_mapUpdate; refine wpList_mapUpdate_own _ rfl _ _ _ 108 rfl 9 3 lawS Tryd.underlying108 _ w.heap.size k _ rfl hown (by unfold maxLen; omega) _ _ _ rfl rfl hkey _ [] (plainElem_int Tryd.underlying3 (by simp [Lit.wf, IntKind.min, IntKind.max, IntKind.signed, IntKind.bits]; omega)) ?_; intro w1 hown1 hgrow1)
      have hb1 := hbel.grown hgrow1 hbel.size (fun j hj => by cases hj; exact Nat.le_refl _)
      have HS3 : Hid (Strs w1 (w.heap.size + 1) Tx.words) := Lib.hid (fun j x hj => by
        have h1 := HS2.out j x hj
        have h2 := World.block_lt_of_cell? _ _ h1
        rw [World.cell?_of_block (w := wr) (hgrow1.block _ h2 (by simp))]
        exact h1)
      rw [← HD.out] at hown1
      clear hown hbel hgrow1 HS2
      go_wp2_with fail
      go_roundw
      case rel => exact ⟨k + 1, by omega, by go_num, hown1, hb1, HS3⟩
      case measure => simp [intOf]; omega
    · have hk23 : k = 23 := by have : Tx.words.length = 23 := rfl; omega
      have HO := Lib.hid hown
      have HB := Lib.hid hbel
      have HK := Lib.hid hk23
      clear hown hbel hk23
      go_wp2_with fail
      go_ret
      refine ⟨w.heap.size, rfl, Nat.le_refl _, ?_, HB.out⟩
      have := HO.out
      rw [HK.out] at this
      exact this
end Go.Proofs.YtnhdbjhdmdefmaaDoor

/- Walks of package text and of its reference: words and names. -/
namespace Culp.Tx
set_option linter.unusedSimpArgs false
set_option linter.unusedVariables false
section
variable {l : List UInt8}
theorem isName_nil : isName [] = false := by decide
theorem isName_long (h : 32 < l.length) : isName l = false := by unfold isName; rw [decide_eq_false (p := l.length ≤ 32) (by omega)]; simp
theorem isName_first {c : UInt8} (h : l.head? = some c) (hc : letter c = false) : isName l = false := by unfold isName; rw [h]; simp [hc]
theorem isName_word (h : isWord l = true) : isName l = false := by unfold isName; rw [h]; simp
theorem isName_inner (h : ¬ l.all inner = true) : isName l = false := by unfold isName; rw [Bool.eq_false_iff.2 h]; simp
theorem isName_yes {c : UInt8} (h : l.head? = some c) (h1 : l.length ≤ 32) (hc : letter c = true) (hw : isWord l = false) (hi : l.all inner = true) : isName l = true := by
  unfold isName
  rw [h, hw, hi, decide_eq_true h1]
  cases l with
  | nil => simp at h
  | cons d l => simp [hc]
end
end Culp.Tx
namespace Go.Proofs.YtnhdbjhdmdefmaaDoor
set_option linter.unusedSimpArgs false
set_option linter.unusedVariables false
open Go.RowKit Go.Maps Culp

theorem bs_self (s : ByteArray) : bs s.data.toList = s := str_inj' (bs_list _)
set_option maxHeartbeats 800000 in
theorem tIsWord_any (s : ByteArray) (w : World) (hs : s.size ≤ 140737488351232) (hS : Sp w) : Calls Tryd.prog 59 #[.string s] w (Makes (.bool (Tx.isWord s.data.toList)) w) := by
  have hkey : keyOf Tryd.prog 9 (.string s) = some (.string s.data.toList) := Go.WideMaps.keyOf_string_mk Tryd.underlying9 (by unfold maxLen; omega)
  have HS := Lib.hid hS
  clear hS
  go_enter Tryd.func59, Tryd.ntmps59
  go_wp2_with fail
  refine (twords_any _ HS.out).mono ?_
  rintro e w2 ⟨B, rfl, hB, hown, hb⟩
  have HB := Lib.hid hb
  unfold WordsMap at hown
  clear hb hB
  go_wp2_with (at_lookup; refine wpList_lookup_own_int _ rfl _ _ 108 rfl 9 3 .i64 lawS Tryd.underlying108 Tryd.underlying3 (zeroI _) B 23 _ rfl hown _ _ rfl hkey ?_; intro c hat hwc)
  obtain ⟨h1, h2⟩ := wordsD_is _ hat
  have H2 := Lib.hid h2
  clear h2 hat hwc hown hkey
  go_wp2_with fail
  go_ret
  exact Makes.mk (bool_congr H2.out) HB.out

set_option maxHeartbeats 1600000 in
theorem tIsName_any (s : ByteArray) (w : World) (hs : s.size ≤ 140737488351232) (hS : Sp w) : Calls Tryd.prog 44 #[.string s] w (Makes (.bool (Tx.isName s.data.toList)) w) := by
  have hl := size_list s
  have HSP := Lib.hid hS
  clear hS
  by_cases h0 : s.size = 0
  · have HN : Hid (Tx.isName s.data.toList = false) := Lib.hid (by rw [List.eq_nil_of_length_eq_zero (l := s.data.toList) (by omega)]; exact Tx.isName_nil)
    have q1 : (s.toList == []) = true := by rw [toL', List.eq_nil_of_length_eq_zero (l := s.data.toList) (by omega)]; rfl
    have q2 : s.size ≤ 0 := by omega
    clear hl h0
    go_enter Tryd.func44, Tryd.ntmps44
    go_wp2_with fail
    go_ret
    exact Makes.mk (by rw [HN.out]; rfl) (Below.refl _ _)
  have h1 : 0 < s.size := by omega
  have q1 : (s.toList == []) = false := by
    rw [toL']
    cases hx : s.data.toList with
    | nil => rw [hx] at hl; simp at hl; omega
    | cons a b => rfl
  have hh := head_get s h1
  clear h0
  by_cases h32 : 32 < s.size
  · have HN := Lib.hid (Tx.isName_long (l := s.data.toList) (by omega))
    clear hl hh
    go_enter Tryd.func44, Tryd.ntmps44
    go_wp2_with fail
    go_ret
    exact Makes.mk (by rw [HN.out]; rfl) (Below.refl _ _)
  have HL := Lib.hid hl
  have HH := Lib.hid hh
  clear hl hh
  cases hc : Tx.letter s[0]
  · have HN := Lib.hid (Tx.isName_first HH.out hc)
    have HC := Lib.hid hc
    clear hc
    go_enter Tryd.func44, Tryd.ntmps44
    go_wp2_with fail
    refine (tletter_any s[0] _).mono ?_
    rw [HC.out]
    rintro e w' ⟨rfl, rfl⟩
    go_wp2_with fail
    go_ret
    exact Makes.mk (by rw [HN.out]; rfl) (Below.refl _ _)
  have HC := Lib.hid hc
  clear hc
  cases hw : Tx.isWord s.data.toList
  case true =>
    have HN := Lib.hid (Tx.isName_word hw)
    have HW := Lib.hid hw
    clear hw
    go_enter Tryd.func44, Tryd.ntmps44
    go_wp2_with fail
    refine (tletter_any s[0] _).mono ?_
    rw [HC.out]
    rintro e w' ⟨rfl, rfl⟩
    go_wp2_with fail
    refine (tIsWord_any s _ hs HSP.out).mono ?_
    rw [HW.out]
    rintro e w2 ⟨rfl, hb⟩
    have HB := Lib.hid hb
    clear hb
    go_wp2_with fail
    go_ret
    exact Makes.mk (by rw [HN.out]; rfl) HB.out
  have HW := Lib.hid hw
  clear hw
  go_enter Tryd.func44, Tryd.ntmps44
  go_wp2_with fail
  refine (tletter_any s[0] _).mono ?_
  rw [HC.out]
  rintro e w' ⟨rfl, rfl⟩
  go_wp2_with fail
  refine (tIsWord_any s _ hs HSP.out).mono ?_
  rw [HW.out]
  rintro e w2 ⟨rfl, hb⟩
  have HB := Lib.hid hb
  clear hb
  go_wp2_with fail
  go_loop [23] (fun i => ∃ k : Nat, k ≤ s.size ∧ i = .int .i64 k ∧ Hid ((s.data.toList.take k).all Tx.inner = true)) (fun i => s.size - (intOf i).toNat)
  case atStart => exact ⟨0, Nat.zero_le _, rfl, Lib.hid rfl⟩
  case round =>
    obtain ⟨k, hk, rfl, HA⟩ := hrel
    by_cases hlt : k < s.size
    · have HM := Lib.hid (mem_get s k hlt)
      have HT := Lib.hid (take_snoc' s k hlt)
      cases hi : Tx.inner s[k]
      · have HN := Lib.hid (Tx.isName_inner (not_all_of HM.out hi))
        have HI := Lib.hid hi
        clear hi
        go_wp2_with fail
        refine (inner_any s[k] _).mono ?_
        rw [HI.out]
        rintro e w' ⟨rfl, rfl⟩
        go_wp2_with fail
        go_ret
        exact Makes.mk (by rw [HN.out]; rfl) HB.out
      · have HN : Hid ((s.data.toList.take (k + 1)).all Tx.inner = true) := Lib.hid (by rw [HT.out, List.all_append, HA.out]; simp [hi])
        have HI := Lib.hid hi
        clear hi
        go_wp2_with fail
        refine (inner_any s[k] _).mono ?_
        rw [HI.out]
        rintro e w' ⟨rfl, rfl⟩
        go_wp2_with fail
        go_round
        case rel => exact ⟨k + 1, by omega, by go_num, HN⟩
        case measure => simp [intOf]; omega
    · have HN := Lib.hid (Tx.isName_yes HH.out (by rw [HL.out]; omega) HC.out HW.out (by have := HA.out; rw [List.take_of_length_le (by rw [HL.out]; omega)] at this; exact this))
      go_wp2_with fail
      go_ret
      exact Makes.mk (by rw [HN.out]; rfl) HB.out
end Go.Proofs.YtnhdbjhdmdefmaaDoor

/- Walks of package text and of its reference: a text is quoted. -/
namespace Culp
set_option linter.unusedSimpArgs false
set_option linter.unusedVariables false
open Go Go.RowKit
/-- Two more elements onto a row of the call's own; they lie in a block that was just made for them. -/
theorem append_two {P : Program} {w : World} {ops : Array Oper} {rest : List Oper} {o : Oper} {a : Act} {Q : Exit → Act → World → Prop} (hgd : o.guard = none) (s x : Operand) (t e : TypeId)
    (ho : o.op = .call { callee := .builtin .append, args := #[s, x], argTypes := #[t, t] })
    (base : Nat) (z : Value) (bytes : Nat) (ht : P.underlying t = some (.slice e)) (hi : (P.info? e).map (fun i => (i.zero, i.size, i.bytes)) = some (some z, 1, bytes))
    (hzs : z.cells.size = 1)
    (v : Value) (n : Nat) (xs : List Value) (hs : a.eval s = v) (hown : w.ownsRow base e 1 v n xs) (u1 u2 : Value)
    (hx : a.eval x = .slice (some ⟨w.heap.size, 0, none⟩) 2 2) (h1 : u1.oneCell' = true) (h2 : u2.oneCell' = true)
    (h63 : n + 2 ≤ 1000000000000000) (hbytes : (n + 2) * bytes ≤ 140737488355328) (hbase : base ≤ w.heap.size)
    (h : ∀ v' w', w'.ownsRow base e 1 v' (n + 2) (xs ++ [u1, u2]) → Below base w w' → wpList P ops Q rest (a.put o.dst v') w') :
    wpList P ops Q (o :: rest) a (w.alloc (.cells #[u1, u2] e)) := by
  refine append_many hgd s x t e ho base z bytes ht hi hzs v n xs hs (hown.alloc _) _ 2 2 [u1, u2] hx rfl (fun _ => ⟨w.heap.size, rfl, fun i u hu => ?_⟩) ?_ h63 hbytes (by simp; omega) (by omega) ?_
  · rw [World.cell?_alloc_at _ _ _ _ rfl]
    match i, hu with
    | 0, hu => exact hu
    | 1, hu => exact hu
  · intro u hu
    simp at hu
    rcases hu with rfl | rfl
    · exact h1
    · exact h2
  · intro v' w' hown' _ hb
    exact h v' w' hown' (((Below.refl base w).alloc hbase _).trans hb)
namespace Tx
set_option linter.unusedSimpArgs false
set_option linter.unusedVariables false
theorem escs_app : ∀ (a b : List UInt8), escs (a ++ b) = match escs a, escs b with | some x, some y => some (x ++ y) | _, _ => none
  | [], b => by cases h : escs b <;> simp [escs, h]
  | c :: a, b => by
    have ih := escs_app a b
    rw [List.cons_append, escs, escs, ih]
    cases esc c <;> cases escs a <;> cases escs b <;> simp
theorem escs_snoc {l a e : List UInt8} {c : UInt8} (h : escs l = some a) (hc : esc c = some e) : escs (l ++ [c]) = some (a ++ e) := by
  rw [escs_app, h]; simp [escs, hc]
theorem escs_no : ∀ {l : List UInt8} {c : UInt8}, c ∈ l → esc c = none → escs l = none
  | d :: l, c, h, hc => by
    rw [escs]
    rcases List.mem_cons.1 h with rfl | h
    · rw [hc]
    · rw [escs_no h hc]; cases esc d <;> rfl
theorem esc_nl {c : UInt8} (h : c.toNat = 10) : esc c = some [92, 110] := by unfold esc; rw [if_pos h]
theorem esc_no {c : UInt8} (h : c.toNat ≠ 10) (h2 : c.toNat < 32 ∨ 126 < c.toNat) : esc c = none := by unfold esc; rw [if_neg h, if_pos h2]
theorem esc_q {c : UInt8} (h : c.toNat = 34 ∨ c.toNat = 92) : esc c = some [92, c] := by unfold esc; rw [if_neg (by omega), if_neg (by omega), if_pos h]
theorem esc_c {c : UInt8} (h1 : 32 ≤ c.toNat) (h2 : c.toNat ≤ 126) (h3 : c.toNat ≠ 34) (h4 : c.toNat ≠ 92) : esc c = some [c] := by unfold esc; rw [if_neg (by omega), if_neg (by omega), if_neg (by omega)]
theorem esc_len {c : UInt8} {e : List UInt8} (h : esc c = some e) : e.length ≤ 2 := by
  unfold esc at h
  split at h
  · injection h with h; subst h; simp
  split at h
  · cases h
  split at h <;> (injection h with h; subst h; simp)
theorem quote_long {l : List UInt8} (h : 64 < l.length) : quote l = none := by unfold quote; rw [if_pos h]
theorem quote_bad {l : List UInt8} (h : escs l = none) : quote l = none := by unfold quote; rw [h]; split <;> rfl
theorem quote_good {l m : List UInt8} (h1 : l.length ≤ 64) (h : escs l = some m) : quote l = some (34 :: m ++ [34]) := by unfold quote; rw [if_neg (by omega), h]; rfl
end Tx
end Culp
namespace Go.Proofs.YtnhdbjhdmdefmaaDoor
set_option linter.unusedSimpArgs false
set_option linter.unusedVariables false
open Go.RowKit Go.Maps Culp

/-- What Quote answers. -/
def QuoteRes (l : List UInt8) (w : World) (e : Ending) (w' : World) : Prop := Below w.heap.size w w' ∧ match Tx.quote l with
  | some q => e = .returned (.tuple #[.string (bs q), .int .i64 0])
  | none => e = .returned (.tuple #[.string { data := #[] }, .int .i64 14])
theorem QuoteRes.yes {l q : List UInt8} {w w' : World} {t : ByteArray} (h : Tx.quote l = some q) (hb : Below w.heap.size w w') (ht : t = bs q) : QuoteRes l w (.returned (.tuple #[.string t, .int .i64 0])) w' := ⟨hb, by rw [h, ht]⟩
theorem QuoteRes.no {l : List UInt8} {w w' : World} (h : Tx.quote l = none) (hb : Below w.heap.size w w') : QuoteRes l w (.returned (.tuple #[.string { data := #[] }, .int .i64 14])) w' := ⟨hb, by rw [h]⟩

set_option maxRecDepth 100000 in
set_option maxHeartbeats 1600000 in
theorem tQuote_any (s : ByteArray) (w : World) (hs : s.size ≤ 140737488351232) : Calls Tryd.prog 41 #[.string s] w (QuoteRes s.data.toList w) := by
  have hl := size_list s
  by_cases h64 : 64 < s.size
  · have HQ := Lib.hid (Tx.quote_long (l := s.data.toList) (by omega))
    clear hl
    go_enter Tryd.func41, Tryd.ntmps41
    go_wp2_with fail
    go_ret2
    exact QuoteRes.no HQ.out (Below.refl _ _)
  have HL := Lib.hid hl
  clear hl
  go_enter Tryd.func41, Tryd.ntmps41
  go_wp2_with fail
  have hown0 : (w.alloc (.cells #[.int .u8 34] 5)).ownsRow w.heap.size 5 1 (.slice (some ⟨w.heap.size, 0, none⟩) 1 1) ([34] : List UInt8).length (([34] : List UInt8).map byteV) :=
    World.ownsRow_lit (base := w.heap.size) (e := 5) (size := 1) w #[.int .u8 34] 1 (Nat.le_refl _) (by unfold maxLen; omega) (by simp)
  go_loopw [4, 13] (fun v i wr => ∃ (k : Nat) (acc : List UInt8) (u : Value), k ≤ s.size ∧ i = .int .i64 k ∧ v = u ∧ Hid (Tx.escs (s.data.toList.take k) = some acc) ∧ acc.length ≤ 2 * k ∧ wr.ownsRow w.heap.size 5 1 u (34 :: acc).length ((34 :: acc).map byteV) ∧ Below w.heap.size w wr) (fun _ i _ => s.size - (intOf i).toNat)
  case atStart => exact ⟨0, [], _, Nat.zero_le _, rfl, rfl, Lib.hid rfl, by simp, hown0, (Below.refl _ _).alloc (Nat.le_refl _) _⟩
  case round =>
    clear hown0
    obtain ⟨k, acc, u, hk, rfl, rfl, HE, hal, hown, hbel⟩ := hrel
    by_cases hlt : k < s.size
    · have HM := Lib.hid (mem_get s k hlt)
      have HT := Lib.hid (take_snoc' s k hlt)
      have step : ∀ e, Tx.esc s[k] = some e → Hid (Tx.escs (s.data.toList.take (k + 1)) = some (acc ++ e)) := fun e he => Lib.hid (by rw [HT.out]; exact Tx.escs_snoc HE.out he)
      by_cases c10 : s[k].toNat = 10
      · have e10 := eq_lit (n := s[k].toNat) (z := 10) (by omega)
        have HE2 := step _ (Tx.esc_nl c10)
        clear step c10
        go_wp2_with (at_builtin; refine append_two rfl (.tmp 26) (.tmp 27) 31 5 rfl w.heap.size _ 1 Tryd.underlying31 u8_info rfl _ _ _ rfl hown _ _ rfl rfl rfl ?_ ?_ ?_ ?_)
        · simp; omega
        · simp; omega
        · exact hbel.size
        intro v' w2 hown' hb'
        have hb2 := hbel.trans hb'
        have hown2 : w2.ownsRow w.heap.size 5 1 v' (34 :: (acc ++ [92, 110])).length ((34 :: (acc ++ [92, 110])).map byteV) := by simpa [byteV] using hown'
        clear hown hbel hb' hown'
        go_wp2_with fail
        go_roundw
        case rel => exact ⟨k + 1, acc ++ [92, 110], v', by omega, by go_num, rfl, HE2, by simp; omega, hown2, hb2⟩
        case measure => simp [intOf]; omega
      have e10 := ne_lit (n := s[k].toNat) (z := 10) (by omega)
      by_cases hr : s[k].toNat < 32 ∨ 126 < s[k].toNat
      · have HQ := Lib.hid (Tx.quote_bad (Tx.escs_no HM.out (Tx.esc_no c10 hr)))
        have HB := Lib.hid hbel
        clear step c10 hown hbel
        by_cases hr2 : s[k].toNat < 32
        · clear hr
          go_wp2_with fail
          go_ret2
          exact QuoteRes.no HQ.out HB.out
        · have hr3 : 126 < s[k].toNat := by omega
          clear hr
          go_wp2_with fail
          go_ret2
          exact QuoteRes.no HQ.out HB.out
      have hr1 : 32 ≤ s[k].toNat := by omega
      have hr2 : s[k].toNat ≤ 126 := by omega
      clear hr c10
      by_cases c34 : s[k].toNat = 34
      · have e34 := eq_lit (n := s[k].toNat) (z := 34) (by omega)
        have HE2 := step _ (Tx.esc_q (.inl c34))
        clear step c34
        go_wp2_with (at_builtin; refine append_two rfl (.tmp 43) (.tmp 45) 31 5 rfl w.heap.size _ 1 Tryd.underlying31 u8_info rfl _ _ _ rfl hown _ _ rfl rfl rfl ?_ ?_ ?_ ?_)
        · simp; omega
        · simp; omega
        · exact hbel.size
        intro v' w2 hown' hb'
        have hb2 := hbel.trans hb'
        have hown2 : w2.ownsRow w.heap.size 5 1 v' (34 :: (acc ++ [92, s[k]])).length ((34 :: (acc ++ [92, s[k]])).map byteV) := by simpa [byteV] using hown'
        clear hown hbel hb' hown'
        go_wp2_with fail
        go_roundw
        case rel => exact ⟨k + 1, acc ++ [92, s[k]], v', by omega, by go_num, rfl, HE2, by simp; omega, hown2, hb2⟩
        case measure => simp [intOf]; omega
      have e34 := ne_lit (n := s[k].toNat) (z := 34) (by omega)
      by_cases c92 : s[k].toNat = 92
      · have e92 := eq_lit (n := s[k].toNat) (z := 92) (by omega)
        have HE2 := step _ (Tx.esc_q (.inr c92))
        clear step c34 c92
        go_wp2_with (at_builtin; refine append_two rfl (.tmp 43) (.tmp 45) 31 5 rfl w.heap.size _ 1 Tryd.underlying31 u8_info rfl _ _ _ rfl hown _ _ rfl rfl rfl ?_ ?_ ?_ ?_)
        · simp; omega
        · simp; omega
        · exact hbel.size
        intro v' w2 hown' hb'
        have hb2 := hbel.trans hb'
        have hown2 : w2.ownsRow w.heap.size 5 1 v' (34 :: (acc ++ [92, s[k]])).length ((34 :: (acc ++ [92, s[k]])).map byteV) := by simpa [byteV] using hown'
        clear hown hbel hb' hown'
        go_wp2_with fail
        go_roundw
        case rel => exact ⟨k + 1, acc ++ [92, s[k]], v', by omega, by go_num, rfl, HE2, by simp; omega, hown2, hb2⟩
        case measure => simp [intOf]; omega
      have e92 := ne_lit (n := s[k].toNat) (z := 92) (by omega)
      have HE2 := step _ (Tx.esc_c hr1 hr2 c34 c92)
      clear step c34 c92
      go_wp2_with (at_builtin; refine append_one rfl (.tmp 19) (.tmp 21) 31 5 rfl w.heap.size _ 1 Tryd.underlying31 u8_info rfl _ _ _ rfl hown _ rfl rfl ?_ ?_ ?_ ?_)
      · simp; omega
      · simp; omega
      · exact hbel.size
      intro v' w2 hown' hg hb'
      have hb2 := hbel.trans hb'
      have hown2 : w2.ownsRow w.heap.size 5 1 v' (34 :: (acc ++ [s[k]])).length ((34 :: (acc ++ [s[k]])).map byteV) := by simpa [byteV] using hown'
      clear hown hbel hg hb' hown'
      go_wp2_with fail
      go_roundw
      case rel => exact ⟨k + 1, acc ++ [s[k]], v', by omega, by go_num, rfl, HE2, by simp; omega, hown2, hb2⟩
      case measure => simp [intOf]; omega
    · have HQ := Lib.hid (Tx.quote_good (l := s.data.toList) (m := acc) (by rw [HL.out]; omega) (by have := HE.out; rw [List.take_of_length_le (by rw [HL.out]; omega)] at this; exact this))
      go_wp2_with (at_builtin; refine append_one rfl (.tmp 48) (.tmp 49) 31 5 rfl w.heap.size _ 1 Tryd.underlying31 u8_info rfl _ _ _ rfl hown _ rfl rfl ?_ ?_ ?_ ?_)
      · simp; omega
      · simp; omega
      · exact hbel.size
      intro v' w2 hown' hg hb'
      have HB := Lib.hid (hbel.trans hb')
      have hown2 : w2.ownsRow w.heap.size 5 1 v' (34 :: acc ++ [34]).length ((34 :: acc ++ [34]).map byteV) := by simpa [byteV] using hown'
      have hcv := own_text hown2
      clear hown hbel hg hb' hown' hown2
      go_wp2_with fail
      go_ret2
      exact QuoteRes.yes HQ.out HB.out rfl
end Go.Proofs.YtnhdbjhdmdefmaaDoor

/- Walks of the reference of package text: a text is quoted. -/
namespace Go.Proofs.YtnhdbjhdmdefmaaDoor
set_option linter.unusedSimpArgs false
set_option linter.unusedVariables false
open Go.RowKit Go.Maps Culp

theorem bs_app (a b : List UInt8) : bs a ++ bs b = bs (a ++ b) := str_inj' (by simp [bs])
theorem bs_more {t u : ByteArray} {a b : List UInt8} (h : t = bs a) (hu : u = bs b) : t ++ u = bs (a ++ b) := by rw [h, hu, bs_app]
theorem one_byte (s : ByteArray) (k : Nat) (h : k < s.size) : s.extract k (k + 1) = bs [s[k]] := by
  rw [extract_bs, Tx.drop1 (l := s.data.toList) (by rw [size_list]; exact h), show k + 1 - k = 1 by omega]; rfl
end Go.Proofs.YtnhdbjhdmdefmaaDoor
