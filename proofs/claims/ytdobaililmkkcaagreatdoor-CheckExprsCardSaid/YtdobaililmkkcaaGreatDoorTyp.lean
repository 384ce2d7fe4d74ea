
/- Plain facts on types as texts of letters: no program in sight. -/
import Derived.Below
namespace Culp
set_option linter.unusedSimpArgs false
set_option linter.unusedVariables false

/-- The number of parts of a head. -/
def ari (c : UInt8) : Option Nat :=
  if c = 105 ∨ c = 98 ∨ c = 116 ∨ c = 63 then some 0
  else if c = 108 ∨ c = 120 then some 1
  else if c = 62 ∨ c = 44 then some 2
  else none

/-- The same as Go's number: -1 where it is no head. -/
def arI (c : Int) : Int :=
  if c = 105 ∨ c = 98 ∨ c = 116 ∨ c = 63 then 0
  else if c = 108 ∨ c = 120 then 1
  else if c = 62 ∨ c = 44 then 2
  else -1

theorem arI_bounds (c : Int) : -1 ≤ arI c ∧ arI c ≤ 2 := by
  unfold arI; repeat' split <;> omega

theorem u8_eq_iff (c : UInt8) (n : UInt8) : ((c.toNat : Int) = (n.toNat : Int)) ↔ c = n := by
  constructor
  · intro h; exact UInt8.toNat_inj.1 (by omega)
  · rintro rfl; rfl

theorem arI_none {c : UInt8} (h : ari c = none) : arI c.toNat = -1 := by
  unfold ari at h
  unfold arI
  have e := fun n => u8_eq_iff c n
  have a1 := e 105; have a2 := e 98; have a3 := e 116; have a4 := e 63; have a5 := e 108; have a6 := e 120; have a7 := e 62; have a8 := e 44
  simp at a1 a2 a3 a4 a5 a6 a7 a8
  simp only [a1, a2, a3, a4, a5, a6, a7, a8]
  split at h
  · cases h
  · split at h
    · cases h
    · split at h
      · cases h
      · simp_all

theorem arI_some {c : UInt8} {k : Nat} (h : ari c = some k) : arI c.toNat = k := by
  unfold ari at h
  unfold arI
  have e := fun n => u8_eq_iff c n
  have a1 := e 105; have a2 := e 98; have a3 := e 116; have a4 := e 63; have a5 := e 108; have a6 := e 120; have a7 := e 62; have a8 := e 44
  simp at a1 a2 a3 a4 a5 a6 a7 a8
  simp only [a1, a2, a3, a4, a5, a6, a7, a8]
  split at h
  · rename_i g; rw [if_pos g]; cases h; rfl
  · rename_i g1
    rw [if_neg g1]
    split at h
    · rename_i g; rw [if_pos g]; cases h; rfl
    · rename_i g2
      rw [if_neg g2]
      split at h
      · rename_i g; rw [if_pos g]; cases h; rfl
      · cases h

/-- What is left behind so many types. -/
def eat : List UInt8 → Nat → Option (List UInt8)
  | l, 0 => some l
  | [], _ + 1 => none
  | c :: l, n + 1 => match ari c with
    | none => none
    | some k => eat l (n + k)

@[simp] theorem eat_zero (l : List UInt8) : eat l 0 = some l := by cases l <;> rfl
@[simp] theorem eat_nil (n : Nat) : eat [] (n + 1) = none := rfl
theorem eat_cons (c : UInt8) (l : List UInt8) (n : Nat) : eat (c :: l) (n + 1) = match ari c with | none => none | some k => eat l (n + k) := rfl

theorem eat_none {c : UInt8} (l : List UInt8) (n : Nat) (h : ari c = none) : eat (c :: l) (n + 1) = none := by rw [eat_cons, h]
theorem eat_some {c : UInt8} {k : Nat} (l : List UInt8) (n : Nat) (h : ari c = some k) : eat (c :: l) (n + 1) = eat l (n + k) := by rw [eat_cons, h]

theorem eat_length {l r : List UInt8} : ∀ {n : Nat}, eat l n = some r → r.length ≤ l.length := by
  induction l with
  | nil => intro n h; cases n with
    | zero => simp at h; subst h; simp
    | succ n => simp at h
  | cons c l ih => intro n h; cases n with
    | zero => simp at h; subst h; simp
    | succ n =>
      cases ha : ari c with
      | none => rw [eat_none _ _ ha] at h; cases h
      | some k => rw [eat_some _ _ ha] at h; have := ih h; simp; omega

theorem eat_suffix {l r : List UInt8} : ∀ {n : Nat}, eat l n = some r → r = l.drop (l.length - r.length) := by
  induction l with
  | nil => intro n h; cases n with
    | zero => simp at h; subst h; simp
    | succ n => simp at h
  | cons c l ih => intro n h; cases n with
    | zero => simp at h; subst h; simp
    | succ n =>
      cases ha : ari c with
      | none => rw [eat_none _ _ ha] at h; cases h
      | some k =>
        rw [eat_some _ _ ha] at h
        have h1 := ih h
        have h2 := eat_length h
        rw [show (c :: l).length - r.length = (l.length - r.length) + 1 by simp; omega]
        simpa using h1

/-- The drop at a place, opened. -/
theorem drop_cons {s : List UInt8} {k : Nat} (h : k < s.length) : s.drop k = s[k] :: s.drop (k + 1) := List.drop_eq_getElem_cons h

/-- Types as trees. -/
inductive Ty where
  | int | bool | text | dyn
  | fn (a b : Ty) | pair (a b : Ty)
  | list (a : Ty) | box (a : Ty)
  deriving DecidableEq

/-- A type's letters. -/
def Ty.enc : Ty → List UInt8
  | .int => [105] | .bool => [98] | .text => [116] | .dyn => [63]
  | .fn a b => 62 :: (a.enc ++ b.enc) | .pair a b => 44 :: (a.enc ++ b.enc)
  | .list a => 108 :: a.enc | .box a => 120 :: a.enc

def Ty.encs (l : List Ty) : List UInt8 := (l.map Ty.enc).flatten

theorem Ty.enc_pos (t : Ty) : 0 < t.enc.length := by cases t <;> simp [Ty.enc]

theorem eat_enc (t : Ty) : ∀ (n : Nat) (r : List UInt8), eat (t.enc ++ r) (n + 1) = eat r n := by
  induction t with
  | int | bool | text | dyn => intro n r; simp [Ty.enc, eat_cons, ari]
  | fn a b iha ihb | pair a b iha ihb =>
    intro n r
    simp only [Ty.enc, List.cons_append, List.append_assoc]
    rw [eat_some (k := 2) _ _ (by simp [ari]), show n + 2 = (n + 1) + 1 by omega, iha, ihb]
  | list a iha | box a iha =>
    intro n r
    simp only [Ty.enc, List.cons_append]
    rw [eat_some (k := 1) _ _ (by simp [ari]), iha]

theorem eat_encs (l : List Ty) (r : List UInt8) : eat (Ty.encs l ++ r) l.length = some r := by
  induction l with
  | nil => simp [Ty.encs]
  | cons t l ih =>
    have e : Ty.encs (t :: l) ++ r = t.enc ++ (Ty.encs l ++ r) := by simp [Ty.encs]
    rw [e, List.length_cons, eat_enc, ih]

theorem ari_cases {c : UInt8} {k : Nat} (h : ari c = some k) :
    (k = 0 ∧ (c = 105 ∨ c = 98 ∨ c = 116 ∨ c = 63)) ∨ (k = 1 ∧ (c = 108 ∨ c = 120)) ∨ (k = 2 ∧ (c = 62 ∨ c = 44)) := by
  unfold ari at h
  split at h
  · left; cases h; exact ⟨rfl, by assumption⟩
  · split at h
    · right; left; cases h; exact ⟨rfl, by assumption⟩
    · split at h
      · right; right; cases h; exact ⟨rfl, by assumption⟩
      · cases h

theorem encs_of_eat : ∀ (l : List UInt8) (n : Nat) (r : List UInt8), eat l n = some r → ∃ ts : List Ty, ts.length = n ∧ l = Ty.encs ts ++ r := by
  intro l
  induction l with
  | nil =>
    intro n r h
    cases n with
    | zero => simp at h; subst h; exact ⟨[], rfl, by simp [Ty.encs]⟩
    | succ n => simp at h
  | cons c l ih =>
    intro n r h
    cases n with
    | zero => simp at h; subst h; exact ⟨[], rfl, by simp [Ty.encs]⟩
    | succ n =>
      cases ha : ari c with
      | none => rw [eat_none _ _ ha] at h; cases h
      | some k =>
        rw [eat_some _ _ ha] at h
        obtain ⟨ts, hl, rfl⟩ := ih _ _ h
        rcases ari_cases ha with ⟨rfl, hc⟩ | ⟨rfl, hc⟩ | ⟨rfl, hc⟩
        · rcases hc with rfl | rfl | rfl | rfl
          · exact ⟨.int :: ts, by simp [hl], by simp [Ty.encs, Ty.enc]⟩
          · exact ⟨.bool :: ts, by simp [hl], by simp [Ty.encs, Ty.enc]⟩
          · exact ⟨.text :: ts, by simp [hl], by simp [Ty.encs, Ty.enc]⟩
          · exact ⟨.dyn :: ts, by simp [hl], by simp [Ty.encs, Ty.enc]⟩
        · match ts, hl with
          | t :: ts, hl =>
            rcases hc with rfl | rfl
            · exact ⟨.list t :: ts, by simpa using hl, by simp [Ty.encs, Ty.enc]⟩
            · exact ⟨.box t :: ts, by simpa using hl, by simp [Ty.encs, Ty.enc]⟩
        · match ts, hl with
          | t :: u :: ts, hl =>
            rcases hc with rfl | rfl
            · exact ⟨.fn t u :: ts, by simpa using hl, by simp [Ty.encs, Ty.enc]⟩
            · exact ⟨.pair t u :: ts, by simpa using hl, by simp [Ty.encs, Ty.enc]⟩

theorem eat_one {l r : List UInt8} (h : eat l 1 = some r) : ∃ t : Ty, l = t.enc ++ r := by
  obtain ⟨ts, hl, rfl⟩ := encs_of_eat l 1 r h
  match ts, hl with
  | [t], _ => exact ⟨t, by simp [Ty.encs]⟩

theorem eat_enc_one (t : Ty) (r : List UInt8) : eat (t.enc ++ r) 1 = some r := by rw [eat_enc]; simp

theorem enc_append_inj {t u : Ty} {r q : List UInt8} (h : t.enc ++ r = u.enc ++ q) : t = u ∧ r = q := by
  have hr : r = q := by
    have h1 := eat_enc_one t r
    rw [h, eat_enc_one] at h1
    exact (Option.some.inj h1).symm
  subst hr
  have h2 := List.append_cancel_right h
  refine ⟨?_, rfl⟩
  clear h
  induction t generalizing u with
  | int | bool | text | dyn => cases u <;> simp_all [Ty.enc]
  | fn a b iha ihb =>
    cases u <;> simp [Ty.enc] at h2
    rename_i c d
    have h3 := eat_enc_one a b.enc
    rw [h2, eat_enc_one] at h3
    have h4 := Option.some.inj h3
    rw [h4] at h2
    rw [iha (List.append_cancel_right h2), ihb h4.symm]
  | pair a b iha ihb =>
    cases u <;> simp [Ty.enc] at h2
    rename_i c d
    have h3 := eat_enc_one a b.enc
    rw [h2, eat_enc_one] at h3
    have h4 := Option.some.inj h3
    rw [h4] at h2
    rw [iha (List.append_cancel_right h2), ihb h4.symm]
  | list a iha | box a iha =>
    cases u <;> simp [Ty.enc] at h2
    rw [iha h2]

theorem enc_inj {t u : Ty} (h : t.enc = u.enc) : t = u := (enc_append_inj (r := []) (q := []) (by simpa using h)).1

/-- A text is a type. -/
def isTy (l : List UInt8) : Bool := decide (l.length ≤ 64) && (eat l 1 == some [])

theorem isTy_iff (l : List UInt8) : isTy l = true ↔ ∃ t : Ty, l = t.enc ∧ t.enc.length ≤ 64 := by
  unfold isTy
  simp only [Bool.and_eq_true, decide_eq_true_eq, beq_iff_eq]
  constructor
  · rintro ⟨h1, h2⟩
    obtain ⟨t, ht⟩ := eat_one h2
    simp at ht
    exact ⟨t, ht, by rw [← ht]; exact h1⟩
  · rintro ⟨t, rfl, h⟩
    exact ⟨h, by simpa using eat_enc_one t []⟩

theorem isTy_enc (t : Ty) (h : t.enc.length ≤ 64) : isTy t.enc = true := (isTy_iff _).2 ⟨t, rfl, h⟩

/-- The first letter. -/
def Ty.hd : Ty → UInt8
  | .int => 105 | .bool => 98 | .text => 116 | .dyn => 63 | .fn _ _ => 62 | .pair _ _ => 44 | .list _ => 108 | .box _ => 120
/-- The parts. -/
def Ty.kids : Ty → List Ty
  | .int => [] | .bool => [] | .text => [] | .dyn => [] | .fn a b => [a, b] | .pair a b => [a, b] | .list a => [a] | .box a => [a]
theorem enc_kids (t : Ty) : t.enc = t.hd :: Ty.encs t.kids := by cases t <;> simp [Ty.enc, Ty.hd, Ty.kids, Ty.encs]
theorem encs_cons (k : Ty) (l : List Ty) : Ty.encs (k :: l) = k.enc ++ Ty.encs l := by simp [Ty.encs]
theorem encs_append (k l : List Ty) : Ty.encs (k ++ l) = Ty.encs k ++ Ty.encs l := by simp [Ty.encs]
/-- A type's text. -/
def Ty.str (t : Ty) : ByteArray := ⟨t.enc.toArray⟩
theorem str_list (t : Ty) : t.str.data.toList = t.enc := by simp [Ty.str]
theorem str_size (t : Ty) : t.str.size = t.enc.length := by simp [Ty.str, ByteArray.size]
/-- A type that is not too long. -/
def Ty.fits (t : Ty) : Prop := t.enc.length ≤ 64
theorem ty_of (s : ByteArray) (h : isTy s.data.toList = true) : ∃ t : Ty, s = t.str ∧ t.fits := by
  obtain ⟨t, h1, h2⟩ := (isTy_iff _).1 h
  refine ⟨t, ?_, h2⟩
  unfold Ty.str
  rw [← h1]


/-- The ground. -/
def Ty.gnd : Ty → Ty
  | .fn _ _ => .fn .dyn .dyn | .pair _ _ => .pair .dyn .dyn | .list _ => .list .dyn | .box _ => .box .dyn | t => t
def Ty.sz : Ty → Nat
  | .int => 1 | .bool => 1 | .text => 1 | .dyn => 1 | .fn a b => 1 + a.sz + b.sz | .pair a b => 1 + a.sz + b.sz | .list a => 1 + a.sz | .box a => 1 + a.sz
theorem Ty.sz_pos (t : Ty) : 0 < t.sz := by cases t <;> simp [Ty.sz] <;> omega
theorem Ty.sz_enc (t : Ty) : t.sz = t.enc.length := by induction t <;> simp [Ty.sz, Ty.enc] <;> omega

theorem kids_sz {t k : Ty} (h : k ∈ t.kids) : k.sz < t.sz := by
  cases t <;> simp [Ty.kids] at h
  all_goals first | (rcases h with rfl | rfl <;> simp only [Ty.sz] <;> omega) | (subst h; simp only [Ty.sz]; omega)

end Culp
