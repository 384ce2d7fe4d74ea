
/- Walks of package text and of its reference: bytes. -/
import Derived.Test.YtdobaililmkkcaaGreatDoorTb
import Derived.Test.YtdobaililmkkcaaGreatDoorTxN
import Derived.IntWalk
import Derived.Deep.LoopGhost
import Derived.Test.YtdobaililmkkcaaGreatDoorShelf
import Derived.Lib.IndexAny
namespace Go.Proofs.YtdobaililmkkcaaGreatDoor
set_option linter.unusedSimpArgs false
set_option linter.unusedVariables false
open Go.RowKit Culp

set_option maxHeartbeats 400000 in
theorem tletter_any (c : UInt8) (w : World) : Calls Tryz.prog 50 #[.int .u8 (c.toNat : Int)] w (Gives (.bool (Tx.letter c)) w) := by
  go_enter Tryz.func50, Tryz.ntmps50
  go_wp2
  all_goals
    go_ret
    refine Gives.mk (bool_congr ?_)
    unfold Tx.letter
    rw [Bool.eq_iff_iff]
    simp
    try omega
set_option maxHeartbeats 400000 in
theorem rletter_any (c : UInt8) (w : World) : Calls Tryz.prog 76 #[.int .u8 (c.toNat : Int)] w (Gives (.bool (Tx.letter c)) w) := by
  go_enter Tryz.func76, Tryz.ntmps76
  go_wp2
  all_goals
    go_ret
    refine Gives.mk (bool_congr ?_)
    unfold Tx.letter
    rw [Bool.eq_iff_iff]
    simp
    try omega
set_option maxHeartbeats 400000 in
theorem tdigit_any (c : UInt8) (w : World) : Calls Tryz.prog 64 #[.int .u8 (c.toNat : Int)] w (Gives (.bool (Tx.digit c)) w) := by
  go_enter Tryz.func64, Tryz.ntmps64
  go_wp2
  all_goals
    go_ret
    refine Gives.mk (bool_congr ?_)
    unfold Tx.digit
    rw [Bool.eq_iff_iff]
    simp
    try omega
set_option maxHeartbeats 400000 in
theorem rdigit_any (c : UInt8) (w : World) : Calls Tryz.prog 78 #[.int .u8 (c.toNat : Int)] w (Gives (.bool (Tx.digit c)) w) := by
  go_enter Tryz.func78, Tryz.ntmps78
  go_wp2
  all_goals
    go_ret
    refine Gives.mk (bool_congr ?_)
    unfold Tx.digit
    rw [Bool.eq_iff_iff]
    simp
    try omega
set_option maxHeartbeats 400000 in
theorem inner_any (c : UInt8) (w : World) : Calls Tryz.prog 52 #[.int .u8 (c.toNat : Int)] w (Gives (.bool (Tx.inner c)) w) := by
  go_enter Tryz.func52, Tryz.ntmps52
  go_wp2_with fail
  refine (tletter_any c _).mono ?_
  rintro e w' ⟨rfl, rfl⟩
  have e1 : Tx.inner c = (Tx.letter c || Tx.digit c || decide (c.toNat = 95)) := rfl
  cases h1 : Tx.letter c
  · cases h2 : Tx.digit c
    all_goals
      go_wp2_with fail
      refine (tdigit_any c _).mono ?_
      rintro e w' ⟨rfl, rfl⟩
      go_wp2_with fail
      go_ret
      refine Gives.mk (bool_congr ?_)
      rw [e1, h1, h2, Bool.eq_iff_iff]
      simp
      try omega
  · go_wp2_with fail
    go_ret
    exact Gives.mk (bool_congr (by simp [e1, h1]))
end Go.Proofs.YtdobaililmkkcaaGreatDoor

/- Passing over blanks and remarks, step by step; no program in sight. -/
namespace Culp.Tx

/-- As far as a place all is blanks and remarks; where the line stands. -/
structure Pas (l : List UInt8) (at_ : Nat) (p : Nat × Nat) (b : Bool) (k : Nat) (line beg : Int) : Prop where
  le : at_ ≤ k
  lk : k ≤ l.length
  beh : behind false (l.drop at_) = (k - at_) + behind b (l.drop k)
  pl1 : line = (further p ((l.drop at_).take (k - at_))).1
  pl2 : beg = (k : Int) + 1 - (further p ((l.drop at_).take (k - at_))).2
  l0 : 0 ≤ line
  l1 : line ≤ k + 1
  b0 : 0 ≤ beg
  b1 : beg ≤ k
section
variable {l : List UInt8} {at_ k : Nat} {p : Nat × Nat} {line beg : Int} {b : Bool}
theorem behind_f (c : UInt8) (l : List UInt8) : behind false (c :: l) = if c.toNat = 35 then 1 + behind true l else if Tx.blank c = true then 1 + behind false l else 0 := by rw [behind]
theorem behind_t (c : UInt8) (l : List UInt8) : behind true (c :: l) = 1 + behind (decide (c.toNat ≠ 10)) l := by rw [behind]
theorem behind_nil (b : Bool) : behind b [] = 0 := by cases b <;> rfl
theorem Pas.start (h : at_ ≤ l.length) (h1 : p.1 ≤ at_ + 1) (h2 : 1 ≤ p.2) (h3 : p.2 ≤ at_ + 1) : Pas l at_ p false at_ p.1 ((at_ : Int) + 1 - p.2) :=
  ⟨Nat.le_refl _, h, by simp, by simp [further], by simp [further], by omega, by omega, by omega, by omega⟩
theorem take_more (h : at_ ≤ k) (hk : k < l.length) : (l.drop at_).take (k + 1 - at_) = (l.drop at_).take (k - at_) ++ [l[k]] := by
  have e : k + 1 - at_ = (k - at_) + 1 := by omega
  have e2 : at_ + (k - at_) = k := by omega
  rw [e, List.take_succ_eq_append_getElem (by rw [List.length_drop]; omega), List.getElem_drop]
  simp only [e2]
theorem further_more (h : at_ ≤ k) (hk : k < l.length) : further p ((l.drop at_).take (k + 1 - at_)) = step (further p ((l.drop at_).take (k - at_))) l[k] := by
  rw [take_more h hk]; unfold further; rw [List.foldl_append]; rfl
theorem Pas.next (h : Pas l at_ p b k line beg) (hk : k < l.length) {b' : Bool} (hb : behind b (l.drop k) = 1 + behind b' (l.drop (k + 1))) (hn : l[k].toNat ≠ 10) : Pas l at_ p b' (k + 1) line beg := by
  have e := further_more (p := p) h.le hk
  have e2 : step (further p ((l.drop at_).take (k - at_))) l[k] = ((further p ((l.drop at_).take (k - at_))).1, (further p ((l.drop at_).take (k - at_))).2 + 1) := by unfold step; rw [if_neg hn]
  rw [e2] at e
  have := h.le; have := h.beh; have := h.pl1; have h2 := h.pl2; have := h.l1; have := h.b1
  exact ⟨by omega, by omega, by omega, by rw [e]; exact h.pl1, by rw [e]; simp only; omega, h.l0, by omega, h.b0, by omega⟩
theorem drop_at (hk : k < l.length) : l.drop k = l[k] :: l.drop (k + 1) := List.drop_eq_getElem_cons hk
theorem Pas.hash (h : Pas l at_ p false k line beg) (hk : k < l.length) (hc : l[k].toNat = 35) : Pas l at_ p true (k + 1) line beg :=
  h.next hk (by rw [drop_at hk, behind_f, if_pos hc]) (by omega)
theorem Pas.rem (h : Pas l at_ p true k line beg) (hk : k < l.length) (hc : l[k].toNat ≠ 10) : Pas l at_ p true (k + 1) line beg :=
  h.next hk (by rw [drop_at hk, behind_t, decide_eq_true hc]) hc
theorem Pas.out (h : Pas l at_ p true k line beg) (hk : ∀ hk : k < l.length, l[k].toNat = 10) : Pas l at_ p false k line beg := by
  refine ⟨h.le, h.lk, ?_, h.pl1, h.pl2, h.l0, h.l1, h.b0, h.b1⟩
  rw [h.beh]
  by_cases hlt : k < l.length
  · have hc := hk hlt
    rw [drop_at hlt, behind_f, behind_t, if_neg (by omega), if_pos (by unfold blank; simp only [decide_eq_true_eq]; omega), decide_eq_false (by omega)]
  · rw [List.drop_of_length_le (by omega)]; rfl
theorem Pas.blank (h : Pas l at_ p false k line beg) (hk : k < l.length) (hc : l[k].toNat = 32 ∨ l[k].toNat = 9 ∨ l[k].toNat = 13) : Pas l at_ p false (k + 1) line beg :=
  h.next hk (by rw [drop_at hk, behind_f, if_neg (by omega), if_pos (by unfold Tx.blank; simp only [decide_eq_true_eq]; omega)]) (by omega)
theorem Pas.nl (h : Pas l at_ p false k line beg) (hk : k < l.length) (hc : l[k].toNat = 10) : Pas l at_ p false (k + 1) (line + 1) ((k : Int) + 1) := by
  have e := further_more (p := p) h.le hk
  have e2 : step (further p ((l.drop at_).take (k - at_))) l[k] = ((further p ((l.drop at_).take (k - at_))).1 + 1, 1) := by unfold step; rw [if_pos hc]
  rw [e2] at e
  have hb : behind false (l.drop k) = 1 + behind false (l.drop (k + 1)) := by rw [drop_at hk, behind_f, if_neg (by omega), if_pos (by unfold Tx.blank; simp only [decide_eq_true_eq]; omega)]
  have := h.le; have := h.beh; have := h.pl1; have h2 := h.pl2; have := h.l1; have := h.b1; have := h.l0
  exact ⟨by omega, by omega, by omega, by rw [e]; simp only; omega, by rw [e]; simp only; omega, by omega, by omega, by omega, by omega⟩
theorem Pas.stop (h : Pas l at_ p false k line beg) (hc : ∀ hk : k < l.length, l[k].toNat ≠ 35 ∧ Tx.blank l[k] = false) : behind false (l.drop at_) = k - at_ := by
  have := h.beh
  by_cases hlt : k < l.length
  · obtain ⟨h1, h2⟩ := hc hlt
    rw [drop_at hlt, behind_f, if_neg h1, if_neg (by rw [h2]; simp)] at this
    omega
  · rw [List.drop_of_length_le (show l.length ≤ k by omega), behind_nil] at this
    omega
end
end Culp.Tx

/- Walks of package text and of its reference: numbers. -/
namespace Go.Proofs.YtdobaililmkkcaaGreatDoor
open Go.RowKit Culp

theorem inner_low {c : UInt8} (h : Tx.inner c = true) : 48 ≤ c.toNat ∧ c.toNat ≤ 122 := by
  unfold Tx.inner Tx.letter Tx.digit at h
  simp only [Bool.or_eq_true, decide_eq_true_eq] at h
  omega
theorem digit_low {c : UInt8} (h : Tx.digit c = true) : 48 ≤ c.toNat ∧ c.toNat ≤ 57 := by
  unfold Tx.digit at h
  simpa using h
def numV (l : List UInt8) : Int := match Tx.worth l with | some n => (n : Int) | none => 0
theorem numV_some {l : List UInt8} {n : Nat} (h : Tx.worth l = some n) : numV l = n := by unfold numV; rw [h]
theorem numV_none {l : List UInt8} (h : Tx.worth l = none) : numV l = 0 := by unfold numV; rw [h]
theorem take_snoc' (s : ByteArray) (k : Nat) (h : k < s.size) : s.data.toList.take (k + 1) = s.data.toList.take k ++ [s[k]] := by
  rw [List.take_succ_eq_append_getElem (by simpa using h)]; rfl
theorem size_list (s : ByteArray) : s.data.toList.length = s.size := by simp
theorem mem_get (s : ByteArray) (k : Nat) (h : k < s.size) : s[k] ∈ s.data.toList := by
  have : s.data.toList[k]'(by simpa using h) = s[k] := rfl
  rw [← this]; exact List.getElem_mem _
theorem all_take {l : List UInt8} {p : UInt8 → Bool} (h : l.all p = true) (k : Nat) : (l.take k).all p = true := by
  rw [List.all_eq_true] at h ⊢
  exact fun x hx => h x (List.mem_of_mem_take hx)
theorem not_all_of {l : List UInt8} {p : UInt8 → Bool} {x : UInt8} (hx : x ∈ l) (h : p x = false) : ¬ l.all p = true := fun ha => by
  rw [List.all_eq_true] at ha
  rw [ha x hx] at h; cases h
theorem worth_zero {l : List UInt8} (h : l.head? = some 48) (h1 : 1 < l.length) : Tx.worth l = none := by unfold Tx.worth; rw [if_pos ⟨h, h1⟩]
theorem worth_char {l : List UInt8} (h : ¬ l.all Tx.digit = true) : Tx.worth l = none := by
  unfold Tx.worth
  split
  · rfl
  · first | rfl | rw [if_neg h]
theorem worth_big {l : List UInt8} (h : 9223372036854775807 < Tx.value l) : Tx.worth l = none := by
  unfold Tx.worth
  split
  · rfl
  · split
    · rw [if_neg (by omega)]
    · rfl
theorem head_get (s : ByteArray) (h : 0 < s.size) : s.data.toList.head? = some s[0] := by
  rw [List.head?_eq_getElem?, List.getElem?_eq_getElem (by simpa using h)]; rfl
def NumRes (l : List UInt8) (w : World) (e : Ending) (w' : World) : Prop := Gives (.tuple #[.int .i64 (numV l), .bool (Tx.worth l).isSome]) w e w'
theorem NumRes.no {l : List UInt8} {w : World} (h : Tx.worth l = none) : NumRes l w (.returned (.tuple #[.int .i64 0, .bool false])) w := Gives.mk (by rw [numV_none h, h]; rfl)
theorem NumRes.yes {l : List UInt8} {w : World} {n : Nat} (h : Tx.worth l = some n) : NumRes l w (.returned (.tuple #[.int .i64 (n : Int), .bool true])) w := Gives.mk (by rw [numV_some h, h]; rfl)

end Go.Proofs.YtdobaililmkkcaaGreatDoor

/- Walks of the reference of package text: numbers. -/
namespace Go.Proofs.YtdobaililmkkcaaGreatDoor
open Go.RowKit Culp

theorem value_lt : ∀ l : List UInt8, l.all Tx.digit = true → Tx.value l < 10 ^ l.length := by
  refine Tx.snoc_ind ?_ ?_
  · intro _; decide
  · intro l c ih h
    rw [List.all_append, Bool.and_eq_true] at h
    have := ih h.1
    have hd : Tx.digit c = true := by simpa using h.2
    have := digit_low hd
    rw [Tx.value_snoc, List.length_append, List.length_singleton, Nat.pow_succ]
    omega
theorem worth_long {l : List UInt8} (h : 19 < l.length) : Tx.worth l = none := by
  cases hw : Tx.worth l with
  | none => rfl
  | some n =>
    obtain ⟨h0, h1, h2, h3⟩ := Tx.worth_some hw
    have hh : ∀ c, l.head? = some c → c.toNat ≠ 48 := fun c hc h48 => h0 ⟨by rw [hc]; congr 1; exact UInt8.toNat_inj.1 h48, by omega⟩
    have := Tx.value_ge l h1 hh (by intro e; rw [e] at h; simp at h)
    have : 10 ^ 19 ≤ 10 ^ (l.length - 1) := Nat.pow_le_pow_right (by omega) (by omega)
    omega
def WorthRes (l : List UInt8) (w : World) (e : Ending) (w' : World) : Prop := ∃ v : Int, e = .returned (.tuple #[.int .i64 v, .bool (Tx.worth l).isSome]) ∧ (∀ n, Tx.worth l = some n → v = n) ∧ w = w'
theorem WorthRes.no {l : List UInt8} {w : World} {v : Int} (h : Tx.worth l = none) : WorthRes l w (.returned (.tuple #[.int .i64 v, .bool false])) w := ⟨v, by rw [h]; rfl, (fun n hn => by rw [h] at hn; cases hn), rfl⟩
theorem WorthRes.yes {l : List UInt8} {w : World} {n : Nat} (h : Tx.worth l = some n) : WorthRes l w (.returned (.tuple #[.int .i64 (n : Int), .bool true])) w := ⟨n, by rw [h]; rfl, (fun m hm => by rw [h] at hm; injection hm with hm; rw [hm]), rfl⟩

end Go.Proofs.YtdobaililmkkcaaGreatDoor

/- Walks of package text and of its reference: a name's or a number's letters. -/
namespace Go.Proofs.YtdobaililmkkcaaGreatDoor
open Go.RowKit Culp

def bs (l : List UInt8) : ByteArray := ⟨l.toArray⟩
theorem bs_list (l : List UInt8) : (bs l).data.toList = l := rfl
theorem bs_size (l : List UInt8) : (bs l).size = l.length := rfl
theorem bs_inj {a b : List UInt8} (h : bs a = bs b) : a = b := by have := congrArg (fun x => x.data.toList) h; simpa [bs] using this
theorem extract_bs (s : ByteArray) (a b : Nat) : s.extract a b = bs ((s.data.toList.drop a).take (b - a)) := str_inj' (by rw [Lib.extract_data, bs_list])
/-- The letters from a place on, seen as far as a place. -/
theorem run_ends {s : ByteArray} {at_ k : Nat} (h1 : at_ ≤ k) (h2 : k ≤ s.size) (ha : ∀ i (h : i < s.size), at_ ≤ i → i < k → Tx.inner s[i] = true) (he : ∀ h : k < s.size, Tx.inner s[k] = false) :
    Tx.run (s.data.toList.drop at_) = (s.data.toList.drop at_).take (k - at_) := by
  have hl := size_list s
  have e1 : s.data.toList.drop at_ = (s.data.toList.drop at_).take (k - at_) ++ s.data.toList.drop k := by
    have : s.data.toList.drop k = (s.data.toList.drop at_).drop (k - at_) := by rw [List.drop_drop]; congr 1; omega
    rw [this, List.take_append_drop]
  have hall : ((s.data.toList.drop at_).take (k - at_)).all Tx.inner = true := by
    rw [List.all_eq_true]
    intro x hx
    obtain ⟨i, hi, rfl⟩ := List.mem_iff_getElem.1 hx
    rw [List.length_take, List.length_drop] at hi
    rw [List.getElem_take, List.getElem_drop]
    exact ha (at_ + i) (by omega) (by omega) (by omega)
  conv => lhs; rw [e1]
  refine Tx.run_app hall ?_
  by_cases hk : k < s.size
  · right
    refine ⟨s[k], s.data.toList.drop (k + 1), ?_, he hk⟩
    rw [List.drop_eq_getElem_cons (by omega)]; rfl
  · left
    exact List.drop_of_length_le (by omega)
theorem inner_or {c : UInt8} (h : Tx.inner c = true) : Tx.letter c = true ∨ (Tx.letter c = false ∧ Tx.digit c = true) ∨ (Tx.letter c = false ∧ Tx.digit c = false ∧ (((c.toNat : Nat) : Int) == 95) = true) := by
  unfold Tx.inner at h
  simp only [Bool.or_eq_true, decide_eq_true_eq] at h
  cases h1 : Tx.letter c
  · cases h2 : Tx.digit c
    · rw [h1, h2] at h
      simp at h
      right; right
      refine ⟨rfl, rfl, ?_⟩
      simp [h]
    · exact .inr (.inl ⟨rfl, rfl⟩)
  · exact .inl rfl
theorem inner_nor {c : UInt8} (h : Tx.inner c = false) : Tx.letter c = false ∧ Tx.digit c = false ∧ (((c.toNat : Nat) : Int) == 95) = false := by
  unfold Tx.inner at h
  simp only [Bool.or_eq_false_iff, decide_eq_false_iff_not] at h
  refine ⟨h.1.1, h.1.2, ?_⟩
  rw [beq_eq_false_iff_ne]
  intro e
  exact h.2 (by omega)
theorem byte_sizeOf : ∀ w, (Go.sizeOf 5).run Tryz.prog w = .ok 1 w := fun w => by kernel_rfl
/-- A piece of a slice, as text. -/
theorem cut_text (W : World) (b o len cap l h : Nat) (s : ByteArray) (hB : Lib.Bytes W b o s) (hlh : l < h) (hh : h ≤ s.size) (hcap : s.size ≤ cap) :
    (Instr.slice 95 (.slice (some ⟨b, o, none⟩) len cap) (some (.int .i64 (l : Int))) (some (.int .i64 (h : Int))) none).run Tryz.prog W = .ok (.slice (some ⟨b, o + l, none⟩) (h - l) (cap - l)) W ∧
    (convert 95 9 (.slice (some ⟨b, o + l, none⟩) (h - l) (cap - l))).run Tryz.prog W = .ok (.string (bs ((s.data.toList.drop l).take (h - l)))) W := by
  refine ⟨Lib.run_slice_window W 95 5 Tryz.underlying95 byte_sizeOf b o len cap l h hlh (by omega), ?_⟩
  rw [Lib.run_convert_window W 95 5 9 Tryz.underlying95 Tryz.underlying5 Tryz.underlying9 b o s hB l (h - l) (cap - l) (by omega), extract_bs]
  congr 4; omega

section
variable {r : Nat} {v m : Value} {at_ line beg : Int} {w w' : World}
end
theorem bytes_keep {r : Nat} {w w' : World} {b o : Nat} {s : ByteArray} (hB : Lib.Bytes w b o s) (hk : Keep r w w') (hne : b ≠ r) : Lib.Bytes w' b o s := fun i hi => hk.cell (hB i hi) hne
end Go.Proofs.YtdobaililmkkcaaGreatDoor

/- Walks of package text: the reader's letters, blanks, places. -/
namespace Go.Proofs.YtdobaililmkkcaaGreatDoor
open Go.RowKit Culp

end Go.Proofs.YtdobaililmkkcaaGreatDoor

/- Walks of package text: the reader passes over blanks and remarks. -/
namespace Go.Proofs.YtdobaililmkkcaaGreatDoor
open Go.RowKit Culp

end Go.Proofs.YtdobaililmkkcaaGreatDoor

/- Walks of package text: the reader's place. -/
namespace Go.Proofs.YtdobaililmkkcaaGreatDoor
open Go.RowKit Culp

end Go.Proofs.YtdobaililmkkcaaGreatDoor

/- Walks of package text and of its reference: a text in quotes. -/
namespace Culp.Tx
theorem unq_34 {c : UInt8} {l : List UInt8} (h : c.toNat = 34) : unq (c :: l) = some ([], 1) := by
  cases l with
  | nil => rw [unq, if_pos h]
  | cons d l => rw [unq, if_pos h]
theorem unq_esc {c d : UInt8} {l : List UInt8} (h : c.toNat = 92) (hd : d.toNat = 34 ∨ d.toNat = 92) : unq (c :: d :: l) = (unq l).map (fun p => (d :: p.1, p.2 + 2)) := by rw [unq, if_neg (by omega), if_pos h, if_pos hd]
theorem unq_n {c d : UInt8} {l : List UInt8} (h : c.toNat = 92) (hd : d.toNat = 110) : unq (c :: d :: l) = (unq l).map (fun p => (10 :: p.1, p.2 + 2)) := by rw [unq, if_neg (by omega), if_pos h, if_neg (by omega), if_pos hd]
theorem unq_bad {c : UInt8} {l : List UInt8} (h : c.toNat < 32 ∨ 126 < c.toNat) : unq (c :: l) = none := by
  cases l with
  | nil => rw [unq, if_neg (by omega)]
  | cons d l => rw [unq, if_neg (by omega), if_neg (by omega), if_pos h]
theorem unq_92 {c d : UInt8} {l : List UInt8} (h : c.toNat = 92) (hd : d.toNat ≠ 34) (hd2 : d.toNat ≠ 92) (hd3 : d.toNat ≠ 110) : unq (c :: d :: l) = none := by rw [unq, if_neg (by omega), if_pos h, if_neg (by omega), if_neg hd3]
theorem unq_one {c : UInt8} (h : c.toNat ≠ 34) : unq [c] = none := by rw [unq, if_neg h]
theorem unq_c {c : UInt8} {l : List UInt8} (h : c.toNat ≠ 34) (h1 : c.toNat ≠ 92) (h2 : 32 ≤ c.toNat) (h3 : c.toNat ≤ 126) : unq (c :: l) = (unq l).map (fun p => (c :: p.1, p.2 + 1)) := by
  cases l with
  | nil => rw [unq_one h]; rfl
  | cons d l => rw [unq, if_neg h, if_neg h1, if_neg (by omega)]
/-- So far a text's token has been read. -/
def Unq (l : List UInt8) (k : Nat) (acc : List UInt8) : Prop := unq (l.drop 1) = (unq (l.drop k)).map (fun p => (acc ++ p.1, p.2 + (k - 1)))
theorem Unq.start (l : List UInt8) : Unq l 1 [] := by unfold Unq; simp
theorem Unq.more {l acc : List UInt8} {k n : Nat} {c : UInt8} (h : Unq l k acc) (h1 : 1 ≤ k) (hu : unq (l.drop k) = (unq (l.drop (k + n))).map (fun p => (c :: p.1, p.2 + n))) : Unq l (k + n) (acc ++ [c]) := by
  unfold Unq at h ⊢
  rw [h, hu]
  cases unq (l.drop (k + n)) with
  | none => rfl
  | some p => simp; omega
theorem Unq.none {l acc : List UInt8} {k : Nat} (h : Unq l k acc) (hu : unq (l.drop k) = Option.none) : unq (l.drop 1) = Option.none := by
  unfold Unq at h; rw [h, hu]; rfl
theorem Unq.done {l acc : List UInt8} {k : Nat} (h : Unq l k acc) (h1 : 1 ≤ k) (hu : unq (l.drop k) = some ([], 1)) : unq (l.drop 1) = some (acc, k) := by
  unfold Unq at h; rw [h, hu]; simp; omega
theorem drop1 {l : List UInt8} {k : Nat} (hk : k < l.length) : l.drop k = l[k] :: l.drop (k + 1) := List.drop_eq_getElem_cons hk
theorem drop2 {l : List UInt8} {k : Nat} (hk : k + 1 < l.length) : l.drop k = l[k] :: l[k + 1] :: l.drop (k + 2) := by rw [drop1 (by omega), drop1 hk]
end Culp.Tx
namespace Go.Proofs.YtdobaililmkkcaaGreatDoor
open Go.RowKit Culp

def byteV (c : UInt8) : Value := .int .u8 (c.toNat : Int)
theorem u8_info : (Tryz.prog.info? 5).map (fun i => (i.zero, i.size, i.bytes)) = some (some (.int .u8 0), 1, 1) := by kernel_rfl
theorem text_none (c : Nat) (W : World) : (convert 95 9 (.slice none ([] : List UInt8).length c)).run Tryz.prog W = .ok (.string (bs [])) W := by kernel_rfl
theorem text_at (w : World) (g c : Nat) (l : List UInt8) (h : Lib.Bytes w g 0 (bs l)) : (convert 95 9 (.slice (some ⟨g, 0, none⟩) l.length c)).run Tryz.prog w = .ok (.string (bs l)) w := by
  have := Lib.run_convert_whole w 95 5 9 Tryz.underlying95 Tryz.underlying5 Tryz.underlying9 g 0 (bs l) h c
  rw [bs_size] at this
  exact this
/-- An own row of bytes, as text. -/
theorem own_text {w : World} {base : Nat} {v : Value} {l : List UInt8} (h : w.ownsRow base 5 1 v l.length (l.map byteV)) : (convert 95 9 v).run Tryz.prog w = .ok (.string (bs l)) w := by
  obtain ⟨A, c, rfl, hl, hA⟩ := own_form h
  rcases Nat.eq_zero_or_pos l.length with h0 | h0
  · have hl0 : l = [] := List.eq_nil_of_length_eq_zero h0
    subst hl0
    have hA2 : A = none ∨ ∃ g, A = some ⟨g, 0, none⟩ := by
      rcases h.2 with ⟨hv, _⟩ | ⟨g, cap, cur, hv, _⟩
      · injection hv with hv1 _ hv3
        exact .inl hv1
      · injection hv with hv1 _ hv3
        exact .inr ⟨g, hv1⟩
    clear h hl hA h0
    rcases hA2 with rfl | ⟨g, rfl⟩
    · exact text_none c w
    · exact text_at w g c [] (fun i hi => absurd hi (by rw [bs_size]; simp))
  · obtain ⟨g, rfl, _, hc⟩ := hA h0
    refine text_at w g c l (fun i hi => ?_)
    rw [Nat.zero_add]
    refine hc i _ ?_
    rw [List.getElem?_map, List.getElem?_eq_getElem (by rw [← bs_size]; exact hi)]
    rfl

/-- What quoted answers. -/
def QuotedRes (l : List UInt8) (base : Nat) (w : World) (e : Ending) (w' : World) : Prop := Below w.heap.size w w' ∧ match Tx.unq (l.drop 1) with
  | some (t, k) => e = .returned (.tuple #[.string (bs t), .int .i64 ((base + k + 1 : Nat) : Int), .bool (decide (t.length ≤ 64))])
  | none => ∃ x y, e = .returned (.tuple #[x, y, .bool false])
theorem QuotedRes.yes {l t : List UInt8} {base k : Nat} {w w' : World} {x : Int} {b : Bool} (h : Tx.unq (l.drop 1) = some (t, k)) (hb : Below w.heap.size w w') (hx : x = ((base + k + 1 : Nat) : Int)) (hb2 : b = decide (t.length ≤ 64)) : QuotedRes l base w (.returned (.tuple #[.string (bs t), .int .i64 x, .bool b])) w' := ⟨hb, by rw [h, hx, hb2]⟩
theorem QuotedRes.no {l : List UInt8} {base : Nat} {w w' : World} {x y : Value} (h : Tx.unq (l.drop 1) = none) (hb : Below w.heap.size w w') : QuotedRes l base w (.returned (.tuple #[x, y, .bool false])) w' := ⟨hb, by rw [h]; exact ⟨x, y, rfl⟩⟩

end Go.Proofs.YtdobaililmkkcaaGreatDoor

/- Walks of the reference of package text: a text in quotes. -/
namespace Culp.Tx
/-- So far a text's token has been read; places of the source. -/
def Unq2 (l : List UInt8) (at_ i : Nat) (acc : List UInt8) : Prop := Unq (l.drop at_) (i - at_) acc
section
variable {l acc : List UInt8} {at_ i n : Nat} {c : UInt8}
theorem Unq2.start : Unq2 l at_ (at_ + 1) [] := by
  unfold Unq2
  rw [show at_ + 1 - at_ = 1 by omega]
  exact Unq.start _
theorem drop_sub (h1 : at_ + 1 ≤ i) : (l.drop at_).drop (i - at_) = l.drop i := by rw [List.drop_drop]; congr 1; omega
theorem Unq2.more (h : Unq2 l at_ i acc) (h1 : at_ + 1 ≤ i) (hu : unq (l.drop i) = (unq (l.drop (i + n))).map (fun p => (c :: p.1, p.2 + n))) : Unq2 l at_ (i + n) (acc ++ [c]) := by
  unfold Unq2 at h ⊢
  rw [show i + n - at_ = (i - at_) + n by omega]
  refine h.more (by omega) ?_
  rw [drop_sub h1, show (i - at_) + n = i + n - at_ by omega, drop_sub (by omega), hu]
theorem Unq2.none (h : Unq2 l at_ i acc) (h1 : at_ + 1 ≤ i) (hu : unq (l.drop i) = Option.none) : unq ((l.drop at_).drop 1) = Option.none := Unq.none h (by rw [drop_sub h1, hu])
theorem Unq2.done (h : Unq2 l at_ i acc) (h1 : at_ + 1 ≤ i) (hu : unq (l.drop i) = some ([], 1)) : unq ((l.drop at_).drop 1) = some (acc, i - at_) := Unq.done h (by omega) (by rw [drop_sub h1, hu])
end
end Culp.Tx
namespace Go.Proofs.YtdobaililmkkcaaGreatDoor
open Go.RowKit Culp

end Go.Proofs.YtdobaililmkkcaaGreatDoor

/- Walks of package text: marks. -/
namespace Go.Proofs.YtdobaililmkkcaaGreatDoor
open Go.RowKit Culp

theorem beq_bs (l m : List UInt8) : ((bs l).toList == m) = (l == m) := by rw [toL', bs_list]
theorem head_text (W : World) (b o cap h : Nat) (s : ByteArray) (hB : Lib.Bytes W b o s) (h0 : 0 < h) (hh : h ≤ s.size) (hcap : s.size ≤ cap) :
    (convert 95 9 (.slice (some ⟨b, o, none⟩) h cap)).run Tryz.prog W = .ok (.string (bs (s.data.toList.take h))) W := by
  have := (cut_text W b o s.size cap 0 h s hB h0 hh hcap).2
  simpa using this
theorem take2 (s : ByteArray) (h : 1 < s.size) : s.data.toList.take 2 = [s[0], s[1]] ∧ s.data.toList = s[0] :: s[1] :: s.data.toList.drop 2 := by
  have hl := size_list s
  have e : s.data.toList = s[0] :: s[1] :: s.data.toList.drop 2 := by
    have := Tx.drop2 (l := s.data.toList) (k := 0) (by omega)
    rw [List.drop_zero] at this
    exact this
  refine ⟨?_, e⟩
  conv => lhs; rw [e]
  rfl
theorem take1 (s : ByteArray) (h : 0 < s.size) : s.data.toList.take 1 = [s[0]] ∧ s.data.toList = s[0] :: s.data.toList.drop 1 := by
  have hl := size_list s
  have e : s.data.toList = s[0] :: s.data.toList.drop 1 := by
    have := Tx.drop1 (l := s.data.toList) (k := 0) (by omega)
    rw [List.drop_zero] at this
    exact this
  refine ⟨?_, e⟩
  conv => lhs; rw [e]
  rfl
def marksS : ByteArray := { data := #[40, 41, 91, 93, 123, 125, 44, 58, 59, 46, 61, 60, 43, 45, 42, 63, 33] }
end Go.Proofs.YtdobaililmkkcaaGreatDoor
