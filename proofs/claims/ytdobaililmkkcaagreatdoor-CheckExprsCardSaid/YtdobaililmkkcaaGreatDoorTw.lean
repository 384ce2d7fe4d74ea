
/- Walks of package types: what each function answers. -/
import Derived.Test.YtdobaililmkkcaaGreatDoorRows
import Derived.Test.YtdobaililmkkcaaGreatDoorTyp
import Derived.Test.YtdobaililmkkcaaGreatDoorMem
import Derived.Test.YtdobaililmkkcaaGreatDoorTb
namespace Go.Proofs.YtdobaililmkkcaaGreatDoor
set_option linter.unusedSimpArgs false
set_option linter.unusedVariables false
open Go.RowKit Culp

set_option maxHeartbeats 400000 in
theorem arity_any (c : Int) (w : World) :
    Calls Tryz.prog 62 #[.int .u8 c] w (Gives (.int .i64 (arI c)) w) := by
  go_enter Tryz.func62, Tryz.ntmps62
  go_wp2
  all_goals
    go_ret
    refine Gives.mk (int_congr ?_)
    simp_all [arI]

/-- The rest behind so many types, from a place on. -/
def eatAt (s : ByteArray) (at_ n : Nat) : Option (List UInt8) := eat (s.data.toList.drop at_) n

/-- What skip answers. -/
def SkipRes (s : ByteArray) (k : Nat) (w : World) (e : Ending) (w' : World) : Prop :=
  w = w' ∧ match eatAt s k 1 with
    | some r => e = .returned (.tuple #[.int .i64 ((s.size - r.length : Nat) : Int), .bool true])
    | none => ∃ p : Nat, p ≤ s.size ∧ e = .returned (.tuple #[.int .i64 (p : Int), .bool false])

theorem SkipRes.yes {s : ByteArray} {k j : Nat} {w : World} (hj : j ≤ s.size) (h : eatAt s k 1 = some (s.data.toList.drop j)) {u : Value} (hu : u = .tuple #[.int .i64 (j : Int), .bool true]) :
    SkipRes s k w (.returned u) w := by
  refine ⟨rfl, ?_⟩
  rw [h]
  have : s.data.toList.length = s.size := by simp
  show Ending.returned u = _
  rw [hu, List.length_drop, this, show s.size - (s.size - j) = j by omega]
theorem SkipRes.no {s : ByteArray} {k j : Nat} {w : World} (hj : j ≤ s.size) (h : eatAt s k 1 = none) {u : Value} (hu : u = .tuple #[.int .i64 (j : Int), .bool false]) :
    SkipRes s k w (.returned u) w := by
  refine ⟨rfl, ?_⟩
  rw [h]
  exact ⟨j, hj, by rw [hu]⟩

theorem eatAt_end (s : ByteArray) {k : Nat} (n : Nat) (h : s.size ≤ k) : eatAt s k (n + 1) = none := by
  unfold eatAt
  rw [List.drop_eq_nil_of_le (by simpa using h)]; rfl
theorem eatAt_bad (s : ByteArray) {k : Nat} (n : Nat) (h : k < s.size) (ha : ari s[k] = none) : eatAt s k (n + 1) = none := by
  unfold eatAt
  rw [drop_cons (by simpa using h)]
  exact eat_none _ _ ha
theorem eatAt_step (s : ByteArray) {k m : Nat} (n : Nat) (h : k < s.size) (ha : ari s[k] = some m) : eatAt s k (n + 1) = eatAt s (k + 1) (n + m) := by
  unfold eatAt
  rw [drop_cons (by simpa using h)]
  exact eat_some _ _ ha

set_option maxHeartbeats 400000 in
theorem skip_any (s : ByteArray) (k : Nat) (w : World) (hs : s.size ≤ 1000000000000000) (hk : k ≤ s.size) :
    Calls Tryz.prog 49 #[.string s, .int .i64 k] w (SkipRes s k w) := by
  go_enter Tryz.func49, Tryz.ntmps49
  go_wp2
  go_loop [1, 6] (fun a l => ∃ j n : Nat, j ≤ s.size ∧ n ≤ j + 1 ∧ a = .int .i64 j ∧ l = .int .i64 n ∧ Hid (eatAt s k 1 = eatAt s j n)) (fun a _ => s.size - (intOf a).toNat)
  case atStart => exact ⟨k, 1, hk, by omega, rfl, rfl, rfl⟩
  case round =>
    obtain ⟨j, n, hj, hn, rfl, rfl, H⟩ := hrel
    rcases n with _ | n
    · go_wp2
      go_ret2
      exact SkipRes.yes hj (by rw [H.out]; simp [eatAt]) rfl
    · by_cases hlt : j < s.size
      · cases ha : ari s[j] with
        | none =>
          have h1 : arI s[j].toNat = -1 := arI_none ha
          have X : Hid (eatAt s k 1 = none) := H.out.trans (eatAt_bad s n hlt ha)
          clear ha H
          go_wp2_with (go_at_call 62; refine (arity_any _ _).mono ?_; rintro e w' ⟨rfl, rfl⟩)
          go_ret2
          exact SkipRes.no hj X.out rfl
        | some m =>
          have h1 : arI s[j].toNat = m := arI_some ha
          have hm : m ≤ 2 := by rcases ari_cases ha with ⟨h, _⟩ | ⟨h, _⟩ | ⟨h, _⟩ <;> omega
          have X : Hid (eatAt s k 1 = eatAt s (j + 1) (n + m)) := H.out.trans (eatAt_step s n hlt ha)
          clear ha H
          go_wp2_with (go_at_call 62; refine (arity_any _ _).mono ?_; rintro e w' ⟨rfl, rfl⟩)
          go_round
          case rel => exact ⟨j + 1, n + m, by omega, by omega, by go_num, by go_num, X⟩
          case measure => simp [intOf]; omega
      · have X : Hid (eatAt s k 1 = none) := H.out.trans (eatAt_end s n (by omega))
        clear H
        go_wp2_with (go_at_call 62; refine (arity_any _ _).mono ?_; rintro e w' ⟨rfl, rfl⟩)
        go_ret2
        exact SkipRes.no hj X.out rfl

/-- Two answers of skip, each by itself. -/
theorem skip_yes (s : ByteArray) (k j : Nat) (w : World) (hs : s.size ≤ 1000000000000000) (hk : k ≤ s.size) (hj : j ≤ s.size) (h : eatAt s k 1 = some (s.data.toList.drop j)) :
    Calls Tryz.prog 49 #[.string s, .int .i64 k] w (Gives (.tuple #[.int .i64 (j : Int), .bool true]) w) :=
  (skip_any s k w hs hk).mono fun e w' ⟨hw, hr⟩ => by
    rw [h] at hr
    have : s.data.toList.length = s.size := by simp
    refine ⟨?_, hw⟩
    rw [hr, List.length_drop, this, show s.size - (s.size - j) = j by omega]
/-- An answer with a place that nobody asks for. -/
def GivesFail (w : World) (n : Nat) (e : Ending) (w' : World) : Prop := ∃ p : Nat, p ≤ n ∧ e = .returned (.tuple #[.int .i64 (p : Int), .bool false]) ∧ w = w'
theorem skip_no (s : ByteArray) (k : Nat) (w : World) (hs : s.size ≤ 1000000000000000) (hk : k ≤ s.size) (h : eatAt s k 1 = none) :
    Calls Tryz.prog 49 #[.string s, .int .i64 k] w (GivesFail w s.size) :=
  (skip_any s k w hs hk).mono fun e w' ⟨hw, hr⟩ => by
    rw [h] at hr
    obtain ⟨p, hp, he⟩ := hr
    exact ⟨p, hp, he, hw⟩

/-- What Check answers. -/
def CheckRes (s : ByteArray) (w : World) (e : Ending) (w' : World) : Prop :=
  w = w' ∧ ((isTy s.data.toList = true ∧ e = .returned (.tuple #[.int .i64 0, .int .i64 0])) ∨
    (isTy s.data.toList = false ∧ ∃ p : Nat, p ≤ s.size + 64 ∧ e = .returned (.tuple #[.int .i64 (if 64 < s.size then 21 else 20), .int .i64 p])))

theorem isTy_long {s : ByteArray} (h : 64 < s.size) : isTy s.data.toList = false := by
  have : s.data.toList.length = s.size := by simp
  unfold isTy
  rw [this, decide_eq_false (by omega)]; rfl
theorem isTy_short {s : ByteArray} (h : s.size ≤ 64) : isTy s.data.toList = (eatAt s 0 1 == some []) := by
  have : s.data.toList.length = s.size := by simp
  unfold isTy eatAt
  rw [this, decide_eq_true h]; simp

set_option maxHeartbeats 400000 in
theorem Check_any (s : ByteArray) (w : World) :
    Calls Tryz.prog 21 #[.string s] w (CheckRes s w) := by
  by_cases hl : 64 < s.size
  · have X := Lib.hid (isTy_long hl)
    go_enter Tryz.func21, Tryz.ntmps21
    go_wp2_with fail
    go_ret2
    exact ⟨rfl, .inr ⟨X.out, 64, by omega, by rw [if_pos hl]; rfl⟩⟩
  · have hl' : s.size ≤ 64 := by omega
    have X := Lib.hid (isTy_short hl')
    cases he : eatAt s 0 1 with
    | none =>
      have Y : Hid (isTy s.data.toList = false) := by rw [Hid, X.out, he]; rfl
      have H := Lib.hid he; clear he X
      go_enter Tryz.func21, Tryz.ntmps21
      go_wp2_with (go_at_call 49; refine (skip_no s 0 _ (by omega) (by omega) H.out).mono ?_; rintro e w' ⟨p, hp, rfl, rfl⟩)
      go_ret2
      exact ⟨rfl, .inr ⟨Y.out, p, by omega, by rw [if_neg hl]; rfl⟩⟩
    | some r =>
      have hr : r = s.data.toList.drop (s.size - r.length) := by
        have := eat_suffix he
        simpa using this
      have hrl : r.length ≤ s.size := by
        have := eat_length he
        simpa using this
      generalize hj : s.size - r.length = j at hr
      have hjs : j ≤ s.size := by omega
      subst hr
      have H := Lib.hid he
      by_cases hz : j = s.size
      · subst hz
        have Y : Hid (isTy s.data.toList = true) := by rw [Hid, X.out, he]; simp
        clear he X hj
        go_enter Tryz.func21, Tryz.ntmps21
        go_wp2_with (go_at_call 49; refine (skip_yes s 0 s.size _ (by omega) (by omega) (by omega) H.out).mono ?_; rintro e w' ⟨rfl, rfl⟩)
        go_ret2
        exact ⟨rfl, .inl ⟨Y.out, rfl⟩⟩
      · have hlt : j < s.size := by omega
        have Y : Hid (isTy s.data.toList = false) := by
          rw [Hid, X.out, he, beq_eq_false_iff_ne]
          intro h
          have h1 := Option.some.inj h
          have h2 := congrArg List.length h1
          simp at h2
          omega
        clear he X hj
        go_enter Tryz.func21, Tryz.ntmps21
        go_wp2_with (go_at_call 49; refine (skip_yes s 0 j _ (by omega) (by omega) (by omega) H.out).mono ?_; rintro e w' ⟨rfl, rfl⟩)
        go_ret2
        exact ⟨rfl, .inr ⟨Y.out, j, by omega, by rw [if_neg hl]; rfl⟩⟩

theorem Check_yes (t : Ty) (ht : t.fits) (w : World) : Calls Tryz.prog 21 #[.string t.str] w (Gives (.tuple #[.int .i64 0, .int .i64 0]) w) :=
  (Check_any _ w).mono fun e w' ⟨hw, hr⟩ => by
    rcases hr with ⟨_, he⟩ | ⟨h, _⟩
    · exact ⟨he, hw⟩
    · rw [str_list, isTy_enc t ht] at h; cases h
/-- A refusal: which error, and some place. -/
def Refuses (n : Nat) (w : World) (e : Ending) (w' : World) : Prop := ∃ c p : Int, 20 ≤ c ∧ c ≤ 21 ∧ c = (if 64 < n then 21 else 20) ∧ e = .returned (.tuple #[.int .i64 c, .int .i64 p]) ∧ w = w'
theorem Check_no (s : ByteArray) (h : isTy s.data.toList = false) (w : World) : Calls Tryz.prog 21 #[.string s] w (Refuses s.size w) :=
  (Check_any _ w).mono fun e w' ⟨hw, hr⟩ => by
    rcases hr with ⟨h', _⟩ | ⟨_, p, _, he⟩
    · rw [h] at h'; cases h'
    · refine ⟨if 64 < s.size then 21 else 20, p, ?_, ?_, rfl, he, hw⟩ <;> split <;> omega

/- 'e, _ := Check(t); return e == OK', under whatever name. -/
set_option maxHeartbeats 400000 in
theorem tis_any (s : ByteArray) (w : World) : Calls Tryz.prog 27 #[.string s] w (Gives (.bool (isTy s.data.toList)) w) := by
  cases h : isTy s.data.toList with
  | false =>
    have H := Lib.hid h; clear h
    go_enter Tryz.func27, Tryz.ntmps27
    go_wp2_with (go_at_call 21; refine (Check_no s H.out _).mono ?_; rintro e w' ⟨c, p, hc1, hc2, -, rfl, rfl⟩; have hc0 : (c == 0) = false := beq_eq_false_iff_ne.2 (by omega))
    go_ret
    exact Gives.mk rfl
  | true =>
    obtain ⟨t, rfl, ht⟩ := ty_of s h; clear h
    go_enter Tryz.func27, Tryz.ntmps27
    go_wp2_with (go_at_call 21; refine (Check_yes t ht _).mono ?_; rintro e w' ⟨rfl, rfl⟩)
    go_ret
    exact Gives.mk rfl
set_option maxHeartbeats 400000 in
theorem ris_any (s : ByteArray) (w : World) : Calls Tryz.prog 134 #[.string s] w (Gives (.bool (isTy s.data.toList)) w) := by
  cases h : isTy s.data.toList with
  | false =>
    have H := Lib.hid h; clear h
    go_enter Tryz.func134, Tryz.ntmps134
    go_wp2_with (go_at_call 21; refine (Check_no s H.out _).mono ?_; rintro e w' ⟨c, p, hc1, hc2, -, rfl, rfl⟩; have hc0 : (c == 0) = false := beq_eq_false_iff_ne.2 (by omega))
    go_ret
    exact Gives.mk rfl
  | true =>
    obtain ⟨t, rfl, ht⟩ := ty_of s h; clear h
    go_enter Tryz.func134, Tryz.ntmps134
    go_wp2_with (go_at_call 21; refine (Check_yes t ht _).mono ?_; rintro e w' ⟨rfl, rfl⟩)
    go_ret
    exact Gives.mk rfl

theorem enc_head (t : Ty) : ∃ c r, t.enc = c :: r := by cases t <;> exact ⟨_, _, rfl⟩
theorem str_get (t : Ty) (h : 0 < t.str.size) : t.str[0] = t.hd := by
  have e : t.enc = t.hd :: t.enc.tail := by cases t <;> rfl
  have : t.str[0] = t.enc[0]'(by simpa [str_size] using h) := by simp [Ty.str, ByteArray.getElem_eq_getElem_data]
  rw [this]
  cases t <;> rfl

def strs (l : List Ty) : List Value := l.map fun t => .string t.str

/-- The text of a part. -/
theorem part_at {t k : Ty} {d r : List Ty} (h : t.kids = d ++ k :: r) :
    eatAt t.str (1 + (Ty.encs d).length) 1 = some (t.str.data.toList.drop (1 + (Ty.encs (d ++ [k])).length)) ∧ t.str.extract (1 + (Ty.encs d).length) (1 + (Ty.encs (d ++ [k])).length) = k.str ∧
    1 + (Ty.encs (d ++ [k])).length ≤ t.str.size ∧ (Ty.encs d).length < (Ty.encs (d ++ [k])).length := by
  have he : t.enc = (t.hd :: Ty.encs d) ++ (k.enc ++ Ty.encs r) := by rw [enc_kids, h, encs_append, encs_cons]; simp
  have hdk : (Ty.encs (d ++ [k])).length = (Ty.encs d).length + k.enc.length := by rw [encs_append]; simp [Ty.encs]
  have hk := k.enc_pos
  refine ⟨?_, ?_, ?_, by omega⟩
  · unfold eatAt
    rw [str_list, he, hdk, List.drop_append_of_le_length (by simp; omega), List.drop_of_length_le (by simp; omega), List.nil_append, eat_enc_one]
    rw [List.drop_append, List.drop_of_length_le (by simp; omega), List.nil_append, show 1 + ((Ty.encs d).length + k.enc.length) - (t.hd :: Ty.encs d).length = k.enc.length by simp; omega]
    simp
  · apply ByteArray.ext
    apply Array.ext'
    rw [str_list]
    simp only [ByteArray.data_extract, Array.toList_extract, str_list, List.extract_eq_take_drop]
    rw [he, hdk, List.drop_append_of_le_length (by simp; omega), List.drop_of_length_le (by simp; omega), List.nil_append]
    rw [show 1 + ((Ty.encs d).length + k.enc.length) - (1 + (Ty.encs d).length) = k.enc.length by omega]
    simp
  · rw [str_size, he, hdk]; simp; omega

theorem string_info : (Tryz.prog.info? 9).map (fun i => (i.zero, i.size, i.bytes)) = some (some (.string ByteArray.empty), 1, 16) := by kernel_rfl

/-- What parts hands back: a new slice of the parts' texts. -/
def PartsRes (ks : List Ty) (w : World) (e : Ending) (w' : World) : Prop :=
  ∃ v, e = .returned v ∧ w'.ownsRow w.heap.size 9 1 v ks.length (strs ks) ∧ Below w.heap.size w w'

set_option maxHeartbeats 400000 in
theorem parts_any (t : Ty) (ht : t.fits) (w : World) :
    Calls Tryz.prog 147 #[.string t.str] w (PartsRes t.kids w) := by
  have hsz : t.str.size ≤ 64 := by rw [str_size]; exact ht
  have hse : Hid (t.str.size = 1 + (Ty.encs t.kids).length) := by rw [Hid, str_size, enc_kids]; simp; omega
  go_enter Tryz.func147, Tryz.ntmps147
  go_wp2
  go_loopw [3, 4] (fun v a wr => ∃ (d r : List Ty) (k : Nat), Hid (t.kids = d ++ r) ∧ k ≤ t.str.size ∧ Hid (k = 1 + (Ty.encs d).length) ∧ a = .int .i64 k ∧ wr.ownsRow w.heap.size 9 1 v d.length (strs d) ∧ Below w.heap.size w wr) (fun _ a _ => t.str.size - (intOf a).toNat)
  case atStart => exact ⟨[], t.kids, 1, rfl, by have := hse.out; omega, rfl, rfl, World.ownsRow_nil _ _ _ _, Below.refl _ _⟩
  case round =>
    obtain ⟨d, r, k, hk, hks, hke, rfl, hown, hbel⟩ := hrel
    rcases r with _ | ⟨c, r⟩
    · have hlt : ¬ k < t.str.size := by have h1 := hse.out; have h2 := hke.out; have h3 := hk.out; simp at h3; rw [h3] at h1; omega
      have X : Hid (t.kids = d) := Lib.hid (by have := hk.out; simpa using this)
      clear hse hk hke
      go_wp2
      go_ret
      exact ⟨_, rfl, by rw [X.out]; exact hown, hbel⟩
    · obtain ⟨h1, h2, h3, h4⟩ := part_at hk.out
      generalize hj : 1 + (Ty.encs (d ++ [c])).length = j at h1 h2 h3 h4
      have hjk : k < j := by have := hke.out; omega
      have hlt : k < t.str.size := by omega
      rw [← hke.out] at h1 h2
      have H1 := Lib.hid h1
      have H2 := Lib.hid h2
      have HJ := Lib.hid hj
      have hdl : d.length ≤ 64 := by
        have h5 : ∀ l : List Ty, l.length ≤ (Ty.encs l).length := fun l => by
          induction l with
          | nil => simp
          | cons x l ih => rw [encs_cons]; have := x.enc_pos; simp; omega
        have := h5 d; have := hke.out; omega
      clear h1 h2 hj h4
      go_wp2_with (first
        | (go_at_call 49; refine (skip_yes t.str k j _ (by omega) (by omega) (by omega) H1.out).mono ?_; rintro e w' ⟨rfl, rfl⟩)
        | (at_builtin; refine append_one rfl (.tmp 17) (.tmp 22) 23 9 rfl w.heap.size _ 16 Tryz.underlying23 string_info rfl _ _ _ rfl hown _ rfl rfl ?_ ?_ ?_ ?_))
      · omega
      · omega
      · exact hbel.size
      · intro v' w' hown' hg hb'
        rw [H2.out] at hown'
        have hb2 := hbel.trans hb'
        clear hown hbel hg hb'
        have hown2 : w'.ownsRow w.heap.size 9 1 v' (d ++ [c]).length (strs (d ++ [c])) := by simpa [strs] using hown'
        clear hown'
        go_wp2
        go_roundw
        case rel => exact ⟨d ++ [c], r, j, by have := hk.out; rw [Hid, this]; simp, by omega, HJ.out.symm, rfl, hown2, hb2⟩
        case measure => simp [intOf]; omega

set_option maxHeartbeats 400000 in
theorem Parts_any (t : Ty) (ht : t.fits) (w : World) :
    Calls Tryz.prog 135 #[.string t.str] w (PartsRes t.kids w) := by
  have T : Hid (isTy t.str.data.toList = true) := by rw [Hid, str_list]; exact isTy_enc t ht
  go_enter Tryz.func135, Tryz.ntmps135
  go_wp2_with (first
    | (go_at_call 27; refine (tis_any _ _).mono ?_; rw [T.out]; rintro e w' ⟨rfl, rfl⟩)
    | (go_at_call 147; refine (parts_any t ht _).mono ?_; rintro e w' ⟨v, rfl, hown, hbel⟩))
  go_ret
  exact ⟨_, rfl, hown, hbel⟩
theorem str_inj {s t : Ty} (h : s.str = t.str) : s = t := enc_inj (by rw [← str_list s, h, str_list])
theorem dyn_str : Ty.dyn.str = { data := #[63] } := rfl
theorem toL (s : ByteArray) : s.toList = s.data.toList := ByteArray.toList_eq s
theorem str_dyn {s : Ty} (h : s ≠ .dyn) : (s.str.toList == [63]) = false := by
  rw [toL, str_list, beq_eq_false_iff_ne]
  intro e
  exact h (enc_inj e)
theorem str_isdyn : (Ty.dyn.str.toList == [63]) = true := by rw [toL]; rfl
theorem hd_eq (s t : Ty) : (((s.hd.toNat : Nat) : Int) == ((t.hd.toNat : Nat) : Int)) = decide (s.hd = t.hd) := by
  rw [Bool.eq_iff_iff]
  simp only [beq_iff_eq, decide_eq_true_eq]
  exact u8_eq_iff _ _

theorem hd_ne (s t : Ty) : (((s.hd.toNat : Nat) : Int) != ((t.hd.toNat : Nat) : Int)) = !decide (s.hd = t.hd) := by rw [← hd_eq]; rfl
theorem fits_sub {a t : Ty} (ht : t.fits) (h : a ∈ t.kids) : a.fits := by
  unfold Ty.fits at *
  cases t <;> simp [Ty.kids] at h <;> simp [Ty.enc] at ht
  all_goals first | (rcases h with rfl | rfl <;> omega) | (subst h; omega)

end Go.Proofs.YtdobaililmkkcaaGreatDoor
