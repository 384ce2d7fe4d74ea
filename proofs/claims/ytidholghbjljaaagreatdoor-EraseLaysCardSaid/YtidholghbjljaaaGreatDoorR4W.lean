
/- Plain facts on types as texts of letters: no program in sight. -/
import Derived.Below
import Derived.WalkKit
import Derived.WalkSpells
import Derived.WalkLawsBesides
import Derived.Lib.Hide
import Derived.Calls
import Derived.Laws.Sem
import Derived.OrdersHeld
import Derived.Deep.RegionHeld
import Derived.StillTail
import Derived.Test.YtidholghbjljaaaGreatDoorRows
import Derived.Lib.SlBytesRow
namespace Culp
set_option linter.unusedSimpArgs false
set_option linter.unusedVariables false

/-- The number of parts of a head. -/
def ari (c : UInt8) : Option Nat :=
  if c = 105 ∨ c = 98 ∨ c = 116 ∨ c = 63 then some 0
  else if c = 108 ∨ c = 120 then some 1
  else if c = 62 ∨ c = 44 then some 2
  else none

/-- The same as Go's number: -1 where it is no head. -/
def arI (c : Int) : Int :=
  if c = 105 ∨ c = 98 ∨ c = 116 ∨ c = 63 then 0
  else if c = 108 ∨ c = 120 then 1
  else if c = 62 ∨ c = 44 then 2
  else -1

theorem u8_eq_iff (c : UInt8) (n : UInt8) : ((c.toNat : Int) = (n.toNat : Int)) ↔ c = n := by
  constructor
  · intro h; exact UInt8.toNat_inj.1 (by omega)
  · rintro rfl; rfl

theorem arI_none {c : UInt8} (h : ari c = none) : arI c.toNat = -1 := by
  unfold ari at h
  unfold arI
  have e := fun n => u8_eq_iff c n
  have a1 := e 105; have a2 := e 98; have a3 := e 116; have a4 := e 63; have a5 := e 108; have a6 := e 120; have a7 := e 62; have a8 := e 44
  simp at a1 a2 a3 a4 a5 a6 a7 a8
  simp only [a1, a2, a3, a4, a5, a6, a7, a8]
  split at h
  · cases h
  · split at h
    · cases h
    · split at h
      · cases h
      · simp_all

theorem arI_some {c : UInt8} {k : Nat} (h : ari c = some k) : arI c.toNat = k := by
  unfold ari at h
  unfold arI
  have e := fun n => u8_eq_iff c n
  have a1 := e 105; have a2 := e 98; have a3 := e 116; have a4 := e 63; have a5 := e 108; have a6 := e 120; have a7 := e 62; have a8 := e 44
  simp at a1 a2 a3 a4 a5 a6 a7 a8
  simp only [a1, a2, a3, a4, a5, a6, a7, a8]
  split at h
  · rename_i g; rw [if_pos g]; cases h; rfl
  · rename_i g1
    rw [if_neg g1]
    split at h
    · rename_i g; rw [if_pos g]; cases h; rfl
    · rename_i g2
      rw [if_neg g2]
      split at h
      · rename_i g; rw [if_pos g]; cases h; rfl
      · cases h

/-- What is left behind so many types. -/
def eat : List UInt8 → Nat → Option (List UInt8)
  | l, 0 => some l
  | [], _ + 1 => none
  | c :: l, n + 1 => match ari c with
    | none => none
    | some k => eat l (n + k)

@[simp] theorem eat_zero (l : List UInt8) : eat l 0 = some l := by cases l <;> rfl
@[simp] theorem eat_nil (n : Nat) : eat [] (n + 1) = none := rfl
theorem eat_cons (c : UInt8) (l : List UInt8) (n : Nat) : eat (c :: l) (n + 1) = match ari c with | none => none | some k => eat l (n + k) := rfl

theorem eat_none {c : UInt8} (l : List UInt8) (n : Nat) (h : ari c = none) : eat (c :: l) (n + 1) = none := by rw [eat_cons, h]
theorem eat_some {c : UInt8} {k : Nat} (l : List UInt8) (n : Nat) (h : ari c = some k) : eat (c :: l) (n + 1) = eat l (n + k) := by rw [eat_cons, h]

theorem eat_length {l r : List UInt8} : ∀ {n : Nat}, eat l n = some r → r.length ≤ l.length := by
  induction l with
  | nil => intro n h; cases n with
    | zero => simp at h; subst h; simp
    | succ n => simp at h
  | cons c l ih => intro n h; cases n with
    | zero => simp at h; subst h; simp
    | succ n =>
      cases ha : ari c with
      | none => rw [eat_none _ _ ha] at h; cases h
      | some k => rw [eat_some _ _ ha] at h; have := ih h; simp; omega

theorem eat_suffix {l r : List UInt8} : ∀ {n : Nat}, eat l n = some r → r = l.drop (l.length - r.length) := by
  induction l with
  | nil => intro n h; cases n with
    | zero => simp at h; subst h; simp
    | succ n => simp at h
  | cons c l ih => intro n h; cases n with
    | zero => simp at h; subst h; simp
    | succ n =>
      cases ha : ari c with
      | none => rw [eat_none _ _ ha] at h; cases h
      | some k =>
        rw [eat_some _ _ ha] at h
        have h1 := ih h
        have h2 := eat_length h
        rw [show (c :: l).length - r.length = (l.length - r.length) + 1 by simp; omega]
        simpa using h1

/-- The drop at a place, opened. -/
theorem drop_cons {s : List UInt8} {k : Nat} (h : k < s.length) : s.drop k = s[k] :: s.drop (k + 1) := List.drop_eq_getElem_cons h

/-- Types as trees. -/
inductive Ty where
  | int | bool | text | dyn
  | fn (a b : Ty) | pair (a b : Ty)
  | list (a : Ty) | box (a : Ty)
  deriving DecidableEq

/-- A type's letters. -/
def Ty.enc : Ty → List UInt8
  | .int => [105] | .bool => [98] | .text => [116] | .dyn => [63]
  | .fn a b => 62 :: (a.enc ++ b.enc) | .pair a b => 44 :: (a.enc ++ b.enc)
  | .list a => 108 :: a.enc | .box a => 120 :: a.enc

def Ty.encs (l : List Ty) : List UInt8 := (l.map Ty.enc).flatten

theorem Ty.enc_pos (t : Ty) : 0 < t.enc.length := by cases t <;> simp [Ty.enc]

theorem eat_enc (t : Ty) : ∀ (n : Nat) (r : List UInt8), eat (t.enc ++ r) (n + 1) = eat r n := by
  induction t with
  | int | bool | text | dyn => intro n r; simp [Ty.enc, eat_cons, ari]
  | fn a b iha ihb | pair a b iha ihb =>
    intro n r
    simp only [Ty.enc, List.cons_append, List.append_assoc]
    rw [eat_some (k := 2) _ _ (by simp [ari]), show n + 2 = (n + 1) + 1 by omega, iha, ihb]
  | list a iha | box a iha =>
    intro n r
    simp only [Ty.enc, List.cons_append]
    rw [eat_some (k := 1) _ _ (by simp [ari]), iha]

theorem ari_cases {c : UInt8} {k : Nat} (h : ari c = some k) :
    (k = 0 ∧ (c = 105 ∨ c = 98 ∨ c = 116 ∨ c = 63)) ∨ (k = 1 ∧ (c = 108 ∨ c = 120)) ∨ (k = 2 ∧ (c = 62 ∨ c = 44)) := by
  unfold ari at h
  split at h
  · left; cases h; exact ⟨rfl, by assumption⟩
  · split at h
    · right; left; cases h; exact ⟨rfl, by assumption⟩
    · split at h
      · right; right; cases h; exact ⟨rfl, by assumption⟩
      · cases h

theorem encs_of_eat : ∀ (l : List UInt8) (n : Nat) (r : List UInt8), eat l n = some r → ∃ ts : List Ty, ts.length = n ∧ l = Ty.encs ts ++ r := by
  intro l
  induction l with
  | nil =>
    intro n r h
    cases n with
    | zero => simp at h; subst h; exact ⟨[], rfl, by simp [Ty.encs]⟩
    | succ n => simp at h
  | cons c l ih =>
    intro n r h
    cases n with
    | zero => simp at h; subst h; exact ⟨[], rfl, by simp [Ty.encs]⟩
    | succ n =>
      cases ha : ari c with
      | none => rw [eat_none _ _ ha] at h; cases h
      | some k =>
        rw [eat_some _ _ ha] at h
        obtain ⟨ts, hl, rfl⟩ := ih _ _ h
        rcases ari_cases ha with ⟨rfl, hc⟩ | ⟨rfl, hc⟩ | ⟨rfl, hc⟩
        · rcases hc with rfl | rfl | rfl | rfl
          · exact ⟨.int :: ts, by simp [hl], by simp [Ty.encs, Ty.enc]⟩
          · exact ⟨.bool :: ts, by simp [hl], by simp [Ty.encs, Ty.enc]⟩
          · exact ⟨.text :: ts, by simp [hl], by simp [Ty.encs, Ty.enc]⟩
          · exact ⟨.dyn :: ts, by simp [hl], by simp [Ty.encs, Ty.enc]⟩
        · match ts, hl with
          | t :: ts, hl =>
            rcases hc with rfl | rfl
            · exact ⟨.list t :: ts, by simpa using hl, by simp [Ty.encs, Ty.enc]⟩
            · exact ⟨.box t :: ts, by simpa using hl, by simp [Ty.encs, Ty.enc]⟩
        · match ts, hl with
          | t :: u :: ts, hl =>
            rcases hc with rfl | rfl
            · exact ⟨.fn t u :: ts, by simpa using hl, by simp [Ty.encs, Ty.enc]⟩
            · exact ⟨.pair t u :: ts, by simpa using hl, by simp [Ty.encs, Ty.enc]⟩

theorem eat_one {l r : List UInt8} (h : eat l 1 = some r) : ∃ t : Ty, l = t.enc ++ r := by
  obtain ⟨ts, hl, rfl⟩ := encs_of_eat l 1 r h
  match ts, hl with
  | [t], _ => exact ⟨t, by simp [Ty.encs]⟩

theorem eat_enc_one (t : Ty) (r : List UInt8) : eat (t.enc ++ r) 1 = some r := by rw [eat_enc]; simp

theorem enc_append_inj {t u : Ty} {r q : List UInt8} (h : t.enc ++ r = u.enc ++ q) : t = u ∧ r = q := by
  have hr : r = q := by
    have h1 := eat_enc_one t r
    rw [h, eat_enc_one] at h1
    exact (Option.some.inj h1).symm
  subst hr
  have h2 := List.append_cancel_right h
  refine ⟨?_, rfl⟩
  clear h
  induction t generalizing u with
  | int | bool | text | dyn => cases u <;> simp_all [Ty.enc]
  | fn a b iha ihb =>
    cases u <;> simp [Ty.enc] at h2
    rename_i c d
    have h3 := eat_enc_one a b.enc
    rw [h2, eat_enc_one] at h3
    have h4 := Option.some.inj h3
    rw [h4] at h2
    rw [iha (List.append_cancel_right h2), ihb h4.symm]
  | pair a b iha ihb =>
    cases u <;> simp [Ty.enc] at h2
    rename_i c d
    have h3 := eat_enc_one a b.enc
    rw [h2, eat_enc_one] at h3
    have h4 := Option.some.inj h3
    rw [h4] at h2
    rw [iha (List.append_cancel_right h2), ihb h4.symm]
  | list a iha | box a iha =>
    cases u <;> simp [Ty.enc] at h2
    rw [iha h2]

theorem enc_inj {t u : Ty} (h : t.enc = u.enc) : t = u := (enc_append_inj (r := []) (q := []) (by simpa using h)).1

/-- A text is a type. -/
def isTy (l : List UInt8) : Bool := decide (l.length ≤ 64) && (eat l 1 == some [])

theorem isTy_iff (l : List UInt8) : isTy l = true ↔ ∃ t : Ty, l = t.enc ∧ t.enc.length ≤ 64 := by
  unfold isTy
  simp only [Bool.and_eq_true, decide_eq_true_eq, beq_iff_eq]
  constructor
  · rintro ⟨h1, h2⟩
    obtain ⟨t, ht⟩ := eat_one h2
    simp at ht
    exact ⟨t, ht, by rw [← ht]; exact h1⟩
  · rintro ⟨t, rfl, h⟩
    exact ⟨h, by simpa using eat_enc_one t []⟩

theorem isTy_enc (t : Ty) (h : t.enc.length ≤ 64) : isTy t.enc = true := (isTy_iff _).2 ⟨t, rfl, h⟩

/-- The first letter. -/
def Ty.hd : Ty → UInt8
  | .int => 105 | .bool => 98 | .text => 116 | .dyn => 63 | .fn _ _ => 62 | .pair _ _ => 44 | .list _ => 108 | .box _ => 120
/-- The parts. -/
def Ty.kids : Ty → List Ty
  | .int => [] | .bool => [] | .text => [] | .dyn => [] | .fn a b => [a, b] | .pair a b => [a, b] | .list a => [a] | .box a => [a]
theorem enc_kids (t : Ty) : t.enc = t.hd :: Ty.encs t.kids := by cases t <;> simp [Ty.enc, Ty.hd, Ty.kids, Ty.encs]
theorem encs_cons (k : Ty) (l : List Ty) : Ty.encs (k :: l) = k.enc ++ Ty.encs l := by simp [Ty.encs]
theorem encs_append (k l : List Ty) : Ty.encs (k ++ l) = Ty.encs k ++ Ty.encs l := by simp [Ty.encs]
/-- A type's text. -/
def Ty.str (t : Ty) : ByteArray := ⟨t.enc.toArray⟩
theorem str_list (t : Ty) : t.str.data.toList = t.enc := by simp [Ty.str]
theorem str_size (t : Ty) : t.str.size = t.enc.length := by simp [Ty.str, ByteArray.size]
/-- A type that is not too long. -/
def Ty.fits (t : Ty) : Prop := t.enc.length ≤ 64
theorem ty_of (s : ByteArray) (h : isTy s.data.toList = true) : ∃ t : Ty, s = t.str ∧ t.fits := by
  obtain ⟨t, h1, h2⟩ := (isTy_iff _).1 h
  refine ⟨t, ?_, h2⟩
  unfold Ty.str
  rw [← h1]


def Ty.sz : Ty → Nat
  | .int => 1 | .bool => 1 | .text => 1 | .dyn => 1 | .fn a b => 1 + a.sz + b.sz | .pair a b => 1 + a.sz + b.sz | .list a => 1 + a.sz | .box a => 1 + a.sz
theorem Ty.sz_pos (t : Ty) : 0 < t.sz := by cases t <;> simp [Ty.sz] <;> omega
theorem kids_sz {t k : Ty} (h : k ∈ t.kids) : k.sz < t.sz := by
  cases t <;> simp [Ty.kids] at h
  all_goals first | (rcases h with rfl | rfl <;> simp only [Ty.sz] <;> omega) | (subst h; simp only [Ty.sz]; omega)

end Culp

/- Memory: small laws for what a call makes. No program in sight. -/
namespace Culp
set_option linter.unusedSimpArgs false
set_option linter.unusedVariables false
open Go Go.RowKit

/-- One more element onto a row of the call's own; the element lies in a block that was just made for it. -/
theorem append_one {P : Program} {w : World} {ops : Array Oper} {rest : List Oper} {o : Oper} {a : Act} {Q : Exit → Act → World → Prop} (hgd : o.guard = none) (s x : Operand) (t e : TypeId)
    (ho : o.op = .call { callee := .builtin .append, args := #[s, x], argTypes := #[t, t] })
    (base : Nat) (z : Value) (bytes : Nat) (ht : P.underlying t = some (.slice e)) (hi : (P.info? e).map (fun i => (i.zero, i.size, i.bytes)) = some (some z, 1, bytes))
    (hzs : z.cells.size = 1)
    (v : Value) (n : Nat) (xs : List Value) (hs : a.eval s = v) (hown : w.ownsRow base e 1 v n xs) (u : Value)
    (hx : a.eval x = .slice (some ⟨w.heap.size, 0, none⟩) 1 1) (h1 : u.oneCell' = true)
    (h63 : n + 1 ≤ 1000000000000000) (hbytes : (n + 1) * bytes ≤ 140737488355328) (hbase : base ≤ w.heap.size)
    (h : ∀ v' w', w'.ownsRow base e 1 v' (n + 1) (xs ++ [u]) → w.grownBy w' v.ownBlock → Below base w w' → wpList P ops Q rest (a.put o.dst v') w') :
    wpList P ops Q (o :: rest) a (w.alloc (.cells #[u] e)) := by
  obtain ⟨i, hi, hz, hz1, hz2⟩ := info_parts hi
  refine wpList_append_own _ hgd s x t ho base e i z 1 bytes ht hi hz hz1 hz2 hzs (by decide) v n xs hs (hown.alloc _) ⟨w.heap.size, 0, none⟩ 1 1 [u] hx rfl ?_ ?_ (by unfold maxLen; omega) hbytes (by simp; omega) ?_
  · intro j u' hj
    match j, hj with
    | 0, hj => simp at hj; subst hj; simp [Addr.add]
  · intro u' hu; simp at hu; subst hu; exact h1
  · intro v' w' hown' hg _
    have hg' : w.grownBy w' v.ownBlock :=
      { os := hg.os, tape := hg.tape, output := hg.output,
        size := by have := hg.size; simp at this; omega,
        block := fun k hk hne => by
          rw [hg.block k (by simp; omega) hne]
          exact Below.heap_alloc _ _ _ hk }
    refine h v' w' hown' hg' ((Below.refl base w).grown hg' hbase fun k hk => ?_)
    have := hown.lt k hk
    omega

/-- A slice of one-cell elements that reads as a list: its address (if it has elements), and its cells. -/
theorem own_read {w : World} {base : Nat} {e : TypeId} {v : Value} {n : Nat} {xs : List Value} (h : w.ownsRow base e 1 v n xs) (hn : 0 < n) :
    ∃ g cap, v = .slice (some ⟨g, 0, none⟩) n cap ∧ base ≤ g ∧ g < w.heap.size ∧ n ≤ cap ∧ xs.length = n ∧ ∀ j u, xs[j]? = some u → w.cell? ⟨g, j, none⟩ = some u := by
  have hl : xs.length = n := by have := h.1; omega
  rcases h.2 with ⟨_, rfl⟩ | ⟨g, cap, cur, rfl, hb, hh, hc, _, hsz, htk⟩
  · omega
  · refine ⟨g, cap, rfl, hb, ?_, hc, hl, fun j u hj => ?_⟩
    · exact (h.lt g rfl).2
    · have hjl : j < n := by
        have := (List.getElem?_eq_some_iff.1 hj).1
        omega
      rw [h.cellAt j (by omega)]; exact hj
/-- The slice itself, and its cells where it has any. -/
theorem own_form {w : World} {base : Nat} {e : TypeId} {v : Value} {n : Nat} {xs : List Value} (h : w.ownsRow base e 1 v n xs) :
    ∃ A c, v = .slice A n c ∧ xs.length = n ∧ (0 < n → ∃ g, A = some ⟨g, 0, none⟩ ∧ base ≤ g ∧ ∀ j u, xs[j]? = some u → w.cell? ⟨g, j, none⟩ = some u) := by
  rcases Nat.eq_zero_or_pos n with h0 | h0
  · subst h0
    have hl : xs.length = 0 := by have := h.1; omega
    rcases h.2 with ⟨rfl, _⟩ | ⟨g, cap, cur, rfl, _⟩
    · exact ⟨none, 0, rfl, hl, fun h => by omega⟩
    · exact ⟨_, cap, rfl, hl, fun h => by omega⟩
  · obtain ⟨g, cap, rfl, hb, _, _, hl, hc⟩ := own_read h h0
    exact ⟨_, cap, rfl, hl, fun _ => ⟨g, rfl, hb, hc⟩⟩
/-- Many more elements, the source nil or not. -/
theorem run_append_none {P : Program} (w : World) (base : Nat) (t ty e : TypeId) (i : TypeInfo) (size : Nat) (ht : P.underlying t = some (.slice e)) (hi : P.info? e = some i)
    (v : Value) (n : Nat) (xs : List Value) (hown : w.ownsRow base e size v n xs) (c : Nat) : (Builtin.append_ #[t, t] ty #[v, .slice none 0 c]).run P w = .ok v w := by
  rcases hown.2 with ⟨rfl, rfl⟩ | ⟨g, cap, cur, rfl, _, _, hnc, _⟩
  · simp [Builtin.append_, run_underlying ht, Go.sizeOf, typeInfo, hi, Builtin.lenOf, Builtin.firstCells]
  · simp [Builtin.append_, run_underlying ht, Go.sizeOf, typeInfo, hi, Builtin.lenOf, Builtin.firstCells, hnc, storeCells]
theorem append_many {P : Program} {w : World} {ops : Array Oper} {rest : List Oper} {o : Oper} {a : Act} {Q : Exit → Act → World → Prop} (hgd : o.guard = none) (s x : Operand) (t e : TypeId)
    (ho : o.op = .call { callee := .builtin .append, args := #[s, x], argTypes := #[t, t] })
    (base : Nat) (z : Value) (bytes : Nat) (ht : P.underlying t = some (.slice e)) (hi : (P.info? e).map (fun i => (i.zero, i.size, i.bytes)) = some (some z, 1, bytes))
    (hzs : z.cells.size = 1)
    (v : Value) (n : Nat) (xs : List Value) (hs : a.eval s = v) (hown : w.ownsRow base e 1 v n xs)
    (A : Option Addr) (m c : Nat) (news : List Value) (hx : a.eval x = .slice A m c) (hl : news.length = m)
    (hA : 0 < m → ∃ g, A = some ⟨g, 0, none⟩ ∧ ∀ i u, news[i]? = some u → w.cell? ⟨g, i, none⟩ = some u) (h1 : ∀ u ∈ news, u.oneCell' = true)
    (h63 : n + m ≤ 1000000000000000) (hbytes : (n + m) * bytes ≤ 140737488355328) (hbase : base ≤ w.heap.size)
    (hnil : m = 0 → A = none ∨ ∃ g, A = some ⟨g, 0, none⟩)
    (h : ∀ v' w', w'.ownsRow base e 1 v' (n + m) (xs ++ news) → w.grownBy w' v.ownBlock → Below base w w' → wpList P ops Q rest (a.put o.dst v') w') :
    wpList P ops Q (o :: rest) a w := by
  obtain ⟨i, hi, hz, hz1, hz2⟩ := info_parts hi
  have key : ∀ g, A = some ⟨g, 0, none⟩ → wpList P ops Q (o :: rest) a w := fun g hg => by
    subst hg
    refine wpList_append_own _ hgd s x t ho base e i z 1 bytes ht hi hz hz1 hz2 hzs (by decide) v n xs hs hown ⟨g, 0, none⟩ m c news hx (by omega) ?_ h1 (by unfold maxLen; omega) hbytes hbase ?_
    · intro j u hj
      have hjl := (List.getElem?_eq_some_iff.1 hj).1
      obtain ⟨g', e', hc⟩ := hA (by omega)
      have hgg : g' = g := by injection e' with e'; injection e' with e'; exact e'.symm
      subst hgg
      have := hc j u hj
      have e1 : (⟨g', 0, none⟩ : Addr).add j = ⟨g', j, none⟩ := by
        unfold Addr.add
        split
        · rename_i h0; subst h0; rfl
        · simp
      rw [e1]; exact this
    · intro v' w' hown' hg _
      refine h v' w' hown' hg ((Below.refl base w).grown hg hbase fun k hk => ?_)
      exact (hown.lt k hk).1
  rcases Nat.eq_zero_or_pos m with h0 | h0
  · rcases hnil h0 with hn | ⟨g, hg⟩
    · subst hn
      subst h0
      have hn0 : news = [] := List.eq_nil_of_length_eq_zero hl
      subst hn0
      refine wpList_plain hgd fun K hK => ?_
      unfold Oper.wp execOp
      simp only [ho, resolve, invoke, builtin, Sem.run_bind, Sem.run_pure, Result.andThen_ok, List.map_toArray, List.map_cons, List.map_nil, hs, hx, run_append_none w base t _ e i 1 ht hi v n xs hown c]
      exact hK _ _ (h v w (by simpa using hown) (World.grownBy.refl w _) (Below.refl _ _))
    · exact key g hg
  · obtain ⟨g, hg, _⟩ := hA h0
    exact key g hg
end Culp

/- Memory: what a call may change beside what it makes. No program in sight. -/
namespace Culp
set_option linter.unusedSimpArgs false
set_option linter.unusedVariables false
open Go Go.RowKit

/-- All that was there stays, but for one block. -/
structure Keep (g : Nat) (w w' : World) : Prop where
  os : w'.os = w.os
  tape : w'.tape = w.tape
  output : w'.output = w.output
  size : w.heap.size ≤ w'.heap.size
  block : ∀ k, k < w.heap.size → k ≠ g → w'.heap[k]? = w.heap[k]?
theorem Keep.refl (g : Nat) (w : World) : Keep g w w := ⟨rfl, rfl, rfl, Nat.le_refl _, fun _ _ _ => rfl⟩
theorem Keep.trans {g : Nat} {a b c : World} (h : Keep g a b) (k : Keep g b c) : Keep g a c :=
  ⟨k.os.trans h.os, k.tape.trans h.tape, k.output.trans h.output, Nat.le_trans h.size k.size, fun i hi hg => (k.block i (Nat.lt_of_lt_of_le hi h.size) hg).trans (h.block i hi hg)⟩
theorem Keep.of {g : Nat} {w w' : World} (h : Below w.heap.size w w') : Keep g w w' := ⟨h.os, h.tape, h.output, h.size, fun k hk _ => h.block k hk⟩
theorem Keep.cell {g : Nat} {w w' : World} (h : Keep g w w') {a : Addr} {v : Value} (hv : w.cell? a = some v) (hg : a.block ≠ g) : w'.cell? a = some v := by
  have hlt := World.block_lt_of_cell? w a hv
  rw [World.cell?_of_block (w := w) (h.block a.block hlt hg)]
  exact hv
theorem Keep.drew {g : Nat} {a w : World} (h : Keep g a w) : Keep g a w.drew := ⟨h.os, h.tape, h.output, h.size, h.block⟩
theorem Keep.setCell {g : Nat} {a w : World} (h : Keep g a w) (i : Nat) (u : Value) : Keep g a (w.setCell ⟨g, i, none⟩ u) :=
  ⟨h.os, h.tape, h.output, by have := h.size; simpa [World.setCell] using this, fun k hk hg => by rw [Below.heap_setCell _ _ _ _ hg]; exact h.block k hk hg⟩
theorem Keep.alloc {g : Nat} {a w : World} (h : Keep g a w) (o : Obj) : Keep g a (w.alloc o) :=
  ⟨h.os, h.tape, h.output, by have := h.size; simp; omega, fun k hk hg => by rw [Below.heap_alloc _ _ _ (Nat.lt_of_lt_of_le hk h.size)]; exact h.block k hk hg⟩
/-- What was made since may be what has changed. -/
theorem Keep.below {g : Nat} {w w' : World} (h : Keep g w w') (hg : w.heap.size ≤ g) : Below w.heap.size w w' := ⟨h.os, h.tape, h.output, h.size, fun k hk => h.block k hk (by omega)⟩

end Culp

/- A statement that leaves its order open, walked in one order: what only looks is done as soon as it may come up, what acts comes up alone. No program in sight. -/
namespace Culp
set_option linter.unusedSimpArgs false
set_option linter.unusedVariables false
open Go

/-- Is this a fair order? 'true': it only looks; 'false': it acts, and nothing else may come up then. -/
def planOk (ops : Array Oper) : Array Bool → List (Nat × Bool) → Bool
  | listed, [] => (Region.ready .any ops listed).isEmpty
  | listed, (i, true) :: l => Region.free .any ops listed i && (Region.ready .any ops listed).contains i && planOk ops (listed.setIfInBounds i true) l
  | listed, (i, false) :: l => (Region.ready .any ops listed == [i]) && planOk ops (listed.setIfInBounds i true) l

section
variable {P : Program} {ops : Array Oper} {Q : Exit → Act → World → Prop} {S : World → Prop}

/-- The walk in that order: what looks yields its value in every world that meets S; behind what acts S holds again. -/
def wpPlan (P : Program) (ops : Array Oper) (Q : Exit → Act → World → Prop) (S : World → Prop) : List (Nat × Bool) → Act → World → Prop
  | [], a, w => Q .normal a w
  | (i, true) :: l, a, w => ∃ o v, ops[i]? = some o ∧ YieldsIf P ops S o v a ∧ wpPlan P ops Q S l (a.put o.dst v) w
  | (i, false) :: l, a, w => wpOp P ops Q i (fun a' w' => ∃ S' : World → Prop, (∀ v, S' v → S v) ∧ S' w' ∧ wpPlan P ops Q S' l a' w') a w

theorem wpAnyH_weak {md : Region.Mode} {S' : World → Prop} (h : ∀ v, S' v → S v) : ∀ (fuel : Nat) (listed : Array Bool) (a : Act) (w : World), wpAnyH P md ops Q S' fuel listed a w → wpAnyH P md ops Q S fuel listed a w
  | 0, _, _, _, hh => hh
  | fuel + 1, _, _, _, hh => ⟨hh.1, fun i hi => wpOp_mono (fun a' w' h' => ⟨h w' h'.1, wpAnyH_weak h fuel _ a' w' h'.2⟩) (hh.2 i hi)⟩

theorem wpPlan_any (hs : Region.noSelect ops = true) (hQ : ∀ c a d v w, Q (.panic c) (a.put (some d) v) w → Q (.panic c) a w) :
    ∀ (l : List (Nat × Bool)) (S : World → Prop) (listed : Array Bool) (a : Act) (w : World), planOk ops listed l = true → S w → wpPlan P ops Q S l a w → wpAnyH P .any ops Q S l.length listed a w := by
  intro l
  induction l with
  | nil =>
    intro S listed a w hp _ h
    exact wpAnyH_done (by simpa [planOk] using hp) h 0
  | cons x l ih =>
    intro S listed a w hp hS h
    obtain ⟨i, b⟩ := x
    cases b with
    | true =>
      simp only [planOk, Bool.and_eq_true] at hp
      obtain ⟨o, v, ho, hy, h⟩ := h
      exact wpAnyH_take ho hs hp.1.1 hp.1.2 (fun c a w hq => by
        cases hd : o.dst with
        | none => rw [hd] at hq; exact hq
        | some d => rw [hd] at hq; exact hQ c a d v w hq) hy hS (ih _ _ _ _ hp.2 hS h)
    | false =>
      simp only [planOk, Bool.and_eq_true] at hp
      have hr : Region.ready .any ops listed = [i] := by simpa using hp.1
      refine wpAnyH_all hr (by simp) (fun j hj => ?_)
      have : j = i := by simpa using hj
      subst this
      exact wpOp_mono (fun a' w' ⟨S', h1, h2, h3⟩ => ⟨h1 _ h2, wpAnyH_weak h1 _ _ _ _ (ih S' _ _ _ hp.2 h2 h3)⟩) h

/-- **The rule.** -/
theorem wp_region_plan {id : Nat} {a : Act} {w : World} (l : List (Nat × Bool)) (hm : P.follows .mixedOrders = true) (hs : Region.noSelect ops = true)
    (hp : (planOk ops (Array.replicate ops.size false) l && l.length == ops.size) = true) (hQ : ∀ c a d v w, Q (.panic c) (a.put (some d) v) w → Q (.panic c) a w)
    (hS : S w.drew) (h : S w.drew → wpPlan P ops Q S l a w.drew) : (Code.region id ops true).wp P Q a w := by
  simp only [Bool.and_eq_true, beq_iff_eq] at hp
  refine wp_region_held_drew hm hS (fun _ => ?_)
  have := wpPlan_any hs hQ l S _ a _ hp.1 hS (h hS)
  rw [hp.2] at this
  exact this

/-- The steps; the operations stand as a list, so that the one at hand comes out written. -/
theorem at_list {L : List Oper} {i : Nat} {o : Oper} (h : L[i]? = some o) : L.toArray[i]? = some o := by simpa using h
theorem wpPlan_look {L : List Oper} {i : Nat} {o : Oper} {v : Value} {l : List (Nat × Bool)} {a : Act} {w : World} (ho : L[i]? = some o) (hw : Region.wanted o (yielded L.toArray a.tmps) = true)
    (hv : ∀ w, S w → (execOp a.eval o).run P w = .ok (.value v) w) (h : wpPlan P L.toArray Q S l (a.put o.dst v) w) : wpPlan P L.toArray Q S ((i, true) :: l) a w :=
  ⟨o, v, at_list ho, .inl ⟨hw, hv⟩, h⟩
theorem wpPlan_skip {L : List Oper} {i : Nat} {o : Oper} {l : List (Nat × Bool)} {a : Act} {w : World} (ho : L[i]? = some o) (hw : Region.wanted o (yielded L.toArray a.tmps) = false)
    (h : wpPlan P L.toArray Q S l (a.put o.dst undef) w) : wpPlan P L.toArray Q S ((i, true) :: l) a w :=
  ⟨o, undef, at_list ho, .inr ⟨hw, rfl⟩, h⟩
theorem wpPlan_act {L : List Oper} {i : Nat} {o : Oper} {l : List (Nat × Bool)} {a : Act} {w : World} (ho : L[i]? = some o) (hw : Region.wanted o (yielded L.toArray a.tmps) = true)
    (h : ∀ K : Act → World → Prop, (∀ a w, S w ∧ wpPlan P L.toArray Q S l a w → K a w) → o.wp P a w K Q) : wpPlan P L.toArray Q S ((i, false) :: l) a w := by
  simp only [wpPlan, wpOp, at_list ho, hw, if_true]
  exact .inl (h _ (fun _ _ h => ⟨S, fun _ h => h, h.1, h.2⟩))
/-- An act behind which more is known. -/
theorem wpPlan_actS {L : List Oper} {i : Nat} {o : Oper} {l : List (Nat × Bool)} {a : Act} {w : World} (ho : L[i]? = some o) (hw : Region.wanted o (yielded L.toArray a.tmps) = true)
    (h : ∀ K : Act → World → Prop, (∀ a w, (∃ S' : World → Prop, (∀ v, S' v → S v) ∧ S' w ∧ wpPlan P L.toArray Q S' l a w) → K a w) → o.wp P a w K Q) : wpPlan P L.toArray Q S ((i, false) :: l) a w := by
  simp only [wpPlan, wpOp, at_list ho, hw, if_true]
  exact .inl (h _ (fun _ _ h => h))
theorem wpPlan_pass {L : List Oper} {i : Nat} {o : Oper} {l : List (Nat × Bool)} {a : Act} {w : World} (ho : L[i]? = some o) (hw : Region.wanted o (yielded L.toArray a.tmps) = false)
    (hS : S w) (h : wpPlan P L.toArray Q S l (a.put o.dst undef) w) : wpPlan P L.toArray Q S ((i, false) :: l) a w := by
  simp only [wpPlan, wpOp, at_list ho, hw]
  exact ⟨S, fun _ h => h, hS, h⟩
theorem as_S {A B : Prop} (ha : A) (h : A → B) : A ∧ B := ⟨ha, h ha⟩
theorem wpPlan_done {a : Act} {w : World} (h : Q .normal a w) : wpPlan P ops Q S [] a w := h

/-- What is called is a function of the text. -/
def bodied (P : Program) (f : FuncId) : Bool := ((P.funcs[f]?).map fun fn => fn.name != "runtime.NumGoroutine" && fn.body.isSome).getD false
theorem run_enter {f : FuncId} {args : Array Value} {w : World} (h : bodied P f = true) : (callFunc f args).run P w = .ok (.enter f args) w := by
  unfold bodied at h
  cases hf : P.funcs[f]? with
  | none => rw [hf] at h; simp at h
  | some fn =>
    rw [hf] at h
    simp only [Option.map_some, Option.getD_some, Bool.and_eq_true, bne_iff_ne] at h
    obtain ⟨h1, h2⟩ := h
    have h2' : ¬ fn.body = none := by intro hb; rw [hb] at h2; cases h2
    simp [callFunc, Sem.run, hf, Go.program, h1, h2']
theorem exec_call {a : Act} {o : Oper} {x : Operand} {xs : Array Operand} {ats : Array TypeId} {f : FuncId} {fs caps : Array Value} (ho : o.op = .call { callee := .value x, args := xs, argTypes := ats })
    (hx : a.eval x = .func (.func f) fs caps) : execOp a.eval o = callFunc f (fs ++ xs.map a.eval ++ caps) := by
  unfold execOp
  rw [ho]
  simp only [resolve, hx]
  rfl
theorem wp_call {o : Oper} {x : Operand} {xs : List Operand} {ats : Array TypeId} {f : FuncId} {fs caps args : List Value} {a : Act} {w : World} {K : Act → World → Prop} {R : Ending → World → Prop}
    (hop : o.op = .call { callee := .value x, args := xs.toArray, argTypes := ats }) (hx : a.eval x = .func (.func f) fs.toArray caps.toArray) (hb : bodied P f = true) (hargs : fs ++ xs.map a.eval ++ caps = args)
    (hc : Calls P f args.toArray w R) (h : ∀ e w', R e w' → match e with | .returned v => K (a.put o.dst v) w' | .panicked c => Q (.panic c) a w' | .outgrown => LetsOut Q) : o.wp P a w K Q := by
  unfold Oper.wp
  rw [exec_call hop hx, run_enter hb, Oper.upon_enter]
  rw [List.map_toArray, List.append_toArray, List.append_toArray, hargs]
  exact hc.mono fun e w' r => by
    have := h e w' r
    cases e <;> exact this
/-- A call in such a statement. -/
theorem wpPlan_call {L : List Oper} {i : Nat} {o : Oper} {x : Operand} {xs : List Operand} {ats : Array TypeId} {f : FuncId} {fs caps args : List Value} {l : List (Nat × Bool)} {a : Act} {w : World} {R : Ending → World → Prop}
    (ho : L[i]? = some o) (hop : o.op = .call { callee := .value x, args := xs.toArray, argTypes := ats }) (hw : Region.wanted o (yielded L.toArray a.tmps) = true) (hx : a.eval x = .func (.func f) fs.toArray caps.toArray)
    (hb : bodied P f = true) (hc : Calls P f args.toArray w R) (hargs : fs ++ xs.map a.eval ++ caps = args)
    (h : ∀ e w', R e w' → ∃ v, e = .returned v ∧ (S w' ∧ wpPlan P L.toArray Q S l (a.put o.dst v) w')) : wpPlan P L.toArray Q S ((i, false) :: l) a w :=
  wpPlan_act ho hw fun _ hK => wp_call hop hx hb hargs hc fun e w' r => by
    obtain ⟨v, rfl, hh⟩ := h e w' r
    exact hK _ _ hh
end

/-- An act that gives a value, or none. -/
theorem wpPlan_run {P : Program} {Q : Exit → Act → World → Prop} {S : World → Prop} {L : List Oper} {i : Nat} {o : Oper} {l : List (Nat × Bool)} {a : Act} {w w' : World} {v : Value} (ho : L[i]? = some o) (hw : Region.wanted o (yielded L.toArray a.tmps) = true)
    (hr : (execOp a.eval o).run P w = .ok (.value v) w') (S' : World → Prop) (hS : ∀ v, S' v → S v) (hS' : S' w') (h : wpPlan P L.toArray Q S' l (a.put o.dst v) w') : wpPlan P L.toArray Q S ((i, false) :: l) a w :=
  wpPlan_actS ho hw fun _ hK => by
    unfold Oper.wp
    rw [hr, Oper.upon_value]
    exact hK _ _ ⟨S', hS, hS', h⟩
theorem wpPlan_run0 {P : Program} {Q : Exit → Act → World → Prop} {S : World → Prop} {L : List Oper} {i : Nat} {o : Oper} {l : List (Nat × Bool)} {a : Act} {w w' : World} (ho : L[i]? = some o) (hw : Region.wanted o (yielded L.toArray a.tmps) = true)
    (hr : (execOp a.eval o).run P w = .ok .skip w') (S' : World → Prop) (hS : ∀ v, S' v → S v) (hS' : S' w') (h : wpPlan P L.toArray Q S' l (a.put o.dst undef) w') : wpPlan P L.toArray Q S ((i, false) :: l) a w :=
  wpPlan_actS ho hw fun _ hK => by
    unfold Oper.wp
    rw [hr, Oper.upon_skip]
    exact hK _ _ ⟨S', hS, hS', h⟩
theorem below_later {W x y : World} (hb : Go.RowKit.Below x.heap.size x y) (h : Go.RowKit.Below W.heap.size W x) : Go.RowKit.Below W.heap.size W y := h.trans (hb.mono h.size)
end Culp

/- A statement that leaves its order open and whose last operation may spoil what it read. No program in sight. -/
namespace Culp
set_option linter.unusedSimpArgs false
set_option linter.unusedVariables false
open Go
section
variable {P : Program} {ops : Array Oper} {Q : Exit → Act → World → Prop} {md : Region.Mode} {S : World → Prop} {L : Nat}
/-- Whatever order is picked; S holds behind every operation but L. -/
def wpAnyE (P : Program) (md : Region.Mode) (ops : Array Oper) (Q : Exit → Act → World → Prop) (S : World → Prop) (L : Nat) : Nat → Array Bool → Act → World → Prop
  | 0, listed, a, w => Region.ready md ops listed = [] ∧ Q .normal a w
  | fuel + 1, listed, a, w =>
    (Region.ready md ops listed = [] → Q .normal a w) ∧
    ∀ i ∈ Region.ready md ops listed, wpOp P ops Q i (fun a' w' => (i ≠ L → S w') ∧ wpAnyE P md ops Q S L fuel (listed.setIfInBounds i true) a' w') a w
theorem wpAny_of_E : ∀ (fuel : Nat) (listed : Array Bool) (a : Act) (w : World), wpAnyE P md ops Q S L fuel listed a w → wpAny P md ops Q fuel listed a w
  | 0, _, _, _, h => h
  | fuel + 1, _, _, _, h => ⟨h.1, fun i hi => wpOp_mono (fun a' w' h' => wpAny_of_E fuel _ a' w' h'.2) (h.2 i hi)⟩
theorem wpAnyE_weak {S' : World → Prop} (h : ∀ v, S' v → S v) : ∀ (fuel : Nat) (listed : Array Bool) (a : Act) (w : World), wpAnyE P md ops Q S' L fuel listed a w → wpAnyE P md ops Q S L fuel listed a w
  | 0, _, _, _, hh => hh
  | fuel + 1, _, _, _, hh => ⟨hh.1, fun i hi => wpOp_mono (fun a' w' h' => ⟨fun hne => h w' (h'.1 hne), wpAnyE_weak h fuel _ a' w' h'.2⟩) (hh.2 i hi)⟩
theorem wpAnyE_first {i : Nat} {oi : Oper} {v : Value} (hi : ops[i]? = some oi) (hsel : ∀ (j : Nat) (o : Oper) cs b, ops[j]? = some o → o.op ≠ .select cs b)
    (hQ : ∀ c a w, Q (.panic c) (a.put oi.dst v) w → Q (.panic c) a w) (hs : Region.sinkB md ops L = true) (hc : Region.chainB md ops L = true) (hn : ops.size = L + 1) (hiL : i < L) :
    ∀ (fuel : Nat) (listed : Array Bool) (a : Act) (w : World), HeadInv md ops L listed →
      (∀ j oj, ops[j]? = some oj → j ≠ i → listed.getD j true = false → (∀ e ∈ oj.after, Region.binds md e = true → e.on ≠ i) → oi.apart ops oj = true) →
      i ∈ Region.ready md ops listed → YieldsIf P ops S oi v a → S w →
      wpAnyE P md ops Q S L fuel (listed.setIfInBounds i true) (a.put oi.dst v) w → wpAnyE P md ops Q S L (fuel + 1) listed a w := by
  intro fuel
  induction fuel with
  | zero =>
    intro listed a w _ _ hr hy hS H
    refine ⟨fun h => (by rw [h] at hr; cases hr), fun j hj => ?_⟩
    by_cases hji : j = i
    · subst hji; exact hy.wpOp hi hS ⟨fun _ => hS, H⟩
    · have := ready_mono hj hji
      rw [H.1] at this
      cases this
  | succ fuel ih =>
    intro listed a w inv hfree hr hy hS H
    refine ⟨fun h => (by rw [h] at hr; cases hr), fun j hj => ?_⟩
    by_cases hji : j = i
    · subst hji; exact hy.wpOp hi hS ⟨fun _ => hS, H⟩
    · have hjL : j ≠ L := by
        rintro rfl
        exact tail_waits hs hc (by omega) inv _ i rfl hiL (mem_ready.1 hr).1 _ (Nat.le_refl _) hj
      have h1 := H.2 j (ready_mono hj hji)
      obtain ⟨hjun, oj, hoj, hall⟩ := mem_ready.1 hj
      have hjlt : j < L := by
        have := (Array.getElem?_eq_some_iff.1 hoj).1
        omega
      have hnot : ∀ e ∈ oj.after, Region.binds md e = true → e.on ≠ i := fun e he hb heq => by
        have h1 := hall e he hb
        have h0 := (mem_ready.1 hr).1
        rw [heq] at h1
        rcases Nat.lt_or_ge i listed.size with h' | h'
        · simp [h'] at h0 h1; rw [h0] at h1; cases h1
        · simp [Array.getElem?_eq_none h'] at h1
      have h2 := wpOp_putIf hoj (hfree j oj hoj hji hjun hnot) (fun cs b => hsel i oi cs b hi) (fun cs b => hsel j oj cs b hoj) hQ hy h1
      have hfree' : ∀ k ok, ops[k]? = some ok → k ≠ i → (listed.setIfInBounds j true).getD k true = false →
          (∀ e ∈ ok.after, Region.binds md e = true → e.on ≠ i) → oi.apart ops ok = true := fun k ok hk hki hun hno => by
        refine hfree k ok hk hki ?_ hno
        by_cases hjk : j = k
        · subst hjk; exact hjun
        · rw [getD_set_ne true hjk] at hun; exact hun
      refine wpOp_mono (fun a' w' h3 => ⟨fun _ => h3.2.1 hjL, ih (listed.setIfInBounds j true) a' w' (inv.set hj hjlt) hfree' (ready_mono hr (Ne.symm hji)) h3.1 (h3.2.1 hjL) ?_⟩) h2
      rw [Array.setIfInBounds_comm _ _ hji]
      exact h3.2.2
/-- What is asked once only the last operation is left. -/
def endQ (P : Program) (ops : Array Oper) (Q : Exit → Act → World → Prop) (L : Nat) : Exit → Act → World → Prop
  | .normal, a, w => wpOp P ops Q L (fun a' w' => Q .normal a' w') a w
  | e, a, w => Q e a w
theorem wpOp_unend {i : Nat} {K : Act → World → Prop} {a : Act} {w : World} (h : wpOp P ops (endQ P ops Q L) i K a w) : wpOp P ops Q i K a w := by
  unfold wpOp at *
  cases hi : ops[i]? with
  | none => rw [hi] at h; exact h
  | some o =>
    rw [hi] at h
    simp only at h ⊢
    split
    · rename_i hw
      rw [if_pos hw] at h
      rcases h with h | ⟨h1, h2⟩
      · left
        unfold Oper.wp at *
        generalize (execOp a.eval o).run P w = r at *
        cases r with
        | ok n w' =>
          cases n <;> simp only [Oper.upon] at h ⊢
          case value u => exact h
          case skip => exact h
          case defer d => exact h
          case enter f args => exact Calls.mono h fun e w'' he => by cases e <;> exact he
          case row row args => exact h
        | halt x w' => cases x <;> exact h
      · exact .inr ⟨h1, h2⟩
    · rename_i hw
      rw [if_neg hw] at h
      exact h
theorem wpPlan_end (hs : Region.noSelect ops = true) (hQ : ∀ c a d v w, Q (.panic c) (a.put (some d) v) w → Q (.panic c) a w) (hk : Region.sinkB .any ops L = true) (hc : Region.chainB .any ops L = true) (hn : ops.size = L + 1) :
    ∀ (l : List (Nat × Bool)) (S : World → Prop) (listed : Array Bool) (a : Act) (w : World), planOk ops listed (l ++ [(L, false)]) = true → (l.all fun x => decide (x.1 < L)) = true → HeadInv .any ops L listed → S w → wpPlan P ops (endQ P ops Q L) S l a w → wpAnyE P .any ops Q S L (l.length + 1) listed a w := by
  intro l
  induction l with
  | nil =>
    intro S listed a w hp _ _ hS h
    simp only [List.nil_append, planOk, Bool.and_eq_true, beq_iff_eq, List.isEmpty_iff] at hp
    refine ⟨fun h0 => (by rw [hp.1] at h0; cases h0), fun j hj => ?_⟩
    obtain rfl : j = L := by rw [hp.1] at hj; simpa using hj
    exact wpOp_mono (fun a' w' h' => ⟨fun hne => absurd rfl hne, hp.2, h'⟩) h
  | cons x l ih =>
    intro S listed a w hp hl inv hS h
    obtain ⟨i, b⟩ := x
    simp only [List.all_cons, Bool.and_eq_true, decide_eq_true_eq] at hl
    cases b with
    | true =>
      simp only [List.cons_append, planOk, Bool.and_eq_true] at hp
      obtain ⟨o, v, ho, hy, h⟩ := h
      have hr : i ∈ Region.ready .any ops listed := by simpa using hp.1.2
      exact wpAnyE_first ho (Region.noSelect_spec hs) (fun c a w hq => by
        cases hd : o.dst with
        | none => rw [hd] at hq; exact hq
        | some d => rw [hd] at hq; exact hQ c a d v w hq) hk hc hn hl.1 _ listed a w inv (Region.free_spec ho hp.1.1) hr hy hS (ih _ _ _ _ hp.2 hl.2 (inv.set hr hl.1) hS h)
    | false =>
      simp only [List.cons_append, planOk, Bool.and_eq_true] at hp
      have hr : Region.ready .any ops listed = [i] := by simpa using hp.1
      refine ⟨fun h0 => (by rw [hr] at h0; cases h0), fun j hj => ?_⟩
      have hj2 := hj
      rw [hr] at hj
      have : j = i := by simpa using hj
      subst this
      exact wpOp_mono (fun a' w' ⟨S', h1, h2, h3⟩ => ⟨fun _ => h1 _ h2, wpAnyE_weak h1 _ _ _ _ (ih S' _ _ _ hp.2 hl.2 (inv.set hj2 hl.1) h2 h3)⟩) (wpOp_unend h)
/-- **The rule**: as 'wp_region_plan'; what the last operation, L, leaves need not meet S. -/
theorem wp_region_last {id : Nat} {a : Act} {w : World} (L : Nat) (l : List (Nat × Bool)) (hm : P.follows .mixedOrders = true) (hs : Region.noSelect ops = true)
    (hp : (planOk ops (Array.replicate ops.size false) (l ++ [(L, false)]) && (l.all fun x => decide (x.1 < L)) && Region.sinkB .any ops L && Region.chainB .any ops L && l.length == L && ops.size == L + 1) = true) (hQ : ∀ c a d v w, Q (.panic c) (a.put (some d) v) w → Q (.panic c) a w)
    (hS : S w.drew) (h : S w.drew → wpPlan P ops (endQ P ops Q L) S l a w.drew) : (Code.region id ops true).wp P Q a w := by
  simp only [Bool.and_eq_true, beq_iff_eq] at hp
  obtain ⟨⟨⟨⟨⟨h1, h2⟩, h3⟩, h4⟩, h5⟩, h6⟩ := hp
  have inv : HeadInv .any ops L (Array.replicate ops.size false) := ⟨by simp, fun j oj _ hj => (by rw [getD_replicate_false] at hj; cases hj), fun t _ ht => by simp [ht]⟩
  have := wpAny_of_E _ _ _ _ (wpPlan_end hs hQ h3 h4 h6 l S _ a _ h1 h2 inv hS (h hS))
  rw [h5, ← h6] at this
  exact wp_region_any hm this
end
/-- The last operation. -/
theorem wpPlan_last_run0 {P : Program} {Q : Exit → Act → World → Prop} {S : World → Prop} {ol : List Oper} {L : Nat} {o : Oper} {a : Act} {w w' : World} (ho : ol[L]? = some o) (hw : Region.wanted o (yielded ol.toArray a.tmps) = true)
    (hr : (execOp a.eval o).run P w = .ok .skip w') (h : Q .normal (a.put o.dst undef) w') : wpPlan P ol.toArray (endQ P ol.toArray Q L) S [] a w := by
  show wpOp P ol.toArray Q L _ a w
  simp only [wpOp, at_list ho, hw, if_true]
  left
  unfold Oper.wp
  rw [hr, Oper.upon_skip]
  exact h
end Culp

/- What a call answers: small words that all walks of this seat use. -/
namespace Go.Proofs.YtidholghbjljaaaGreatDoor
set_option linter.unusedSimpArgs false
set_option linter.unusedVariables false
open Go.RowKit Culp

/-- A call that only computes. -/
def Gives (v : Value) (w : World) (e : Ending) (w' : World) : Prop := e = .returned v ∧ w = w'
theorem Gives.mk {v u : Value} {w : World} (h : u = v) : Gives v w (.returned u) w := ⟨by rw [h], rfl⟩

/-- A call that answers a value and leaves what was there as it was. -/
def Makes (v : Value) (w : World) (e : Ending) (w' : World) : Prop := e = .returned v ∧ Below w.heap.size w w'
theorem Makes.mk {v u : Value} {w w' : World} (h : u = v) (hb : Below w.heap.size w w') : Makes v w (.returned u) w' := ⟨by rw [h], hb⟩
theorem Gives.makes {v : Value} {w w' : World} {e : Ending} (h : Gives v w e w') : Makes v w e w' := ⟨h.1, by rw [← h.2]; exact Below.refl _ _⟩

/-- Some truth, and nothing done. -/
def SomeBool (w : World) (e : Ending) (w' : World) : Prop := ∃ b : Bool, e = .returned (.bool b) ∧ w = w'
theorem int_congr {k : IntKind} {a b : Int} (h : a = b) : Value.int k a = Value.int k b := by rw [h]
theorem bool_congr {a b : Bool} (h : a = b) : Value.bool a = Value.bool b := by rw [h]
theorem ne_lit {n : Nat} {z : Int} (h : (n : Int) ≠ z) : (((n : Nat) : Int) == z) = false := beq_eq_false_iff_ne.2 h
theorem eq_lit {n : Nat} {z : Int} (h : (n : Int) = z) : (((n : Nat) : Int) == z) = true := by rw [h]; exact beq_self_eq_true z
theorem neq_lit {n : Nat} {z : Int} (h : (n : Int) ≠ z) : (((n : Nat) : Int) != z) = true := by rw [bne, ne_lit h]; rfl
theorem neq_lit0 {n : Nat} {z : Int} (h : (n : Int) = z) : (((n : Nat) : Int) != z) = false := by rw [bne, eq_lit h]; rfl
theorem toL' (s : ByteArray) : s.toList = s.data.toList := ByteArray.toList_eq s
theorem str_inj' {s t : ByteArray} (h : s.data.toList = t.data.toList) : s = t := ByteArray.ext (Array.toList_inj.1 h)

/-- A slice of bytes as it lies in memory. -/
def BytesV (w : World) (v : Value) (s : ByteArray) : Prop := ∃ A c, v = .slice A s.size c ∧ s.size ≤ c ∧ (0 < s.size → ∃ b o, A = some ⟨b, o, none⟩ ∧ Lib.Bytes w b o s)
theorem bytes_later {w w' : World} {b o : Nat} {s : ByteArray} (h : Lib.Bytes w b o s) (hb : Below w.heap.size w w') : Lib.Bytes w' b o s := fun i hi => cell_later hb (h i hi)
theorem BytesV.later {w w' : World} {v : Value} {s : ByteArray} (h : BytesV w v s) (hb : Below w.heap.size w w') : BytesV w' v s := by
  obtain ⟨A, c, rfl, hc, hA⟩ := h
  refine ⟨A, c, rfl, hc, fun h0 => ?_⟩
  obtain ⟨b, o, rfl, hB⟩ := hA h0
  exact ⟨b, o, rfl, bytes_later hB hb⟩
end Go.Proofs.YtidholghbjljaaaGreatDoor

/- Walks of package types: what each function answers. -/
namespace Go.Proofs.YtidholghbjljaaaGreatDoor
set_option linter.unusedSimpArgs false
set_option linter.unusedVariables false
open Go.RowKit Culp

set_option maxHeartbeats 400000 in
theorem arity_any (c : Int) (w : World) :
    Calls Tryz.prog 124 #[.int .u8 c] w (Gives (.int .i64 (arI c)) w) := by
  go_enter Tryz.func124, Tryz.ntmps124
  go_wp2
  all_goals
    go_ret
    refine Gives.mk (int_congr ?_)
    simp_all [arI]

/-- The rest behind so many types, from a place on. -/
def eatAt (s : ByteArray) (at_ n : Nat) : Option (List UInt8) := eat (s.data.toList.drop at_) n

/-- What skip answers. -/
def SkipRes (s : ByteArray) (k : Nat) (w : World) (e : Ending) (w' : World) : Prop :=
  w = w' ∧ match eatAt s k 1 with
    | some r => e = .returned (.tuple #[.int .i64 ((s.size - r.length : Nat) : Int), .bool true])
    | none => ∃ p : Nat, p ≤ s.size ∧ e = .returned (.tuple #[.int .i64 (p : Int), .bool false])

theorem SkipRes.yes {s : ByteArray} {k j : Nat} {w : World} (hj : j ≤ s.size) (h : eatAt s k 1 = some (s.data.toList.drop j)) {u : Value} (hu : u = .tuple #[.int .i64 (j : Int), .bool true]) :
    SkipRes s k w (.returned u) w := by
  refine ⟨rfl, ?_⟩
  rw [h]
  have : s.data.toList.length = s.size := by simp
  show Ending.returned u = _
  rw [hu, List.length_drop, this, show s.size - (s.size - j) = j by omega]
theorem SkipRes.no {s : ByteArray} {k j : Nat} {w : World} (hj : j ≤ s.size) (h : eatAt s k 1 = none) {u : Value} (hu : u = .tuple #[.int .i64 (j : Int), .bool false]) :
    SkipRes s k w (.returned u) w := by
  refine ⟨rfl, ?_⟩
  rw [h]
  exact ⟨j, hj, by rw [hu]⟩

theorem eatAt_end (s : ByteArray) {k : Nat} (n : Nat) (h : s.size ≤ k) : eatAt s k (n + 1) = none := by
  unfold eatAt
  rw [List.drop_eq_nil_of_le (by simpa using h)]; rfl
theorem eatAt_bad (s : ByteArray) {k : Nat} (n : Nat) (h : k < s.size) (ha : ari s[k] = none) : eatAt s k (n + 1) = none := by
  unfold eatAt
  rw [drop_cons (by simpa using h)]
  exact eat_none _ _ ha
theorem eatAt_step (s : ByteArray) {k m : Nat} (n : Nat) (h : k < s.size) (ha : ari s[k] = some m) : eatAt s k (n + 1) = eatAt s (k + 1) (n + m) := by
  unfold eatAt
  rw [drop_cons (by simpa using h)]
  exact eat_some _ _ ha

set_option maxHeartbeats 400000 in
theorem skip_any (s : ByteArray) (k : Nat) (w : World) (hs : s.size ≤ 1000000000000000) (hk : k ≤ s.size) :
    Calls Tryz.prog 100 #[.string s, .int .i64 k] w (SkipRes s k w) := by
  go_enter Tryz.func100, Tryz.ntmps100
  go_wp2
  go_loop [1, 6] (fun a l => ∃ j n : Nat, j ≤ s.size ∧ n ≤ j + 1 ∧ a = .int .i64 j ∧ l = .int .i64 n ∧ Hid (eatAt s k 1 = eatAt s j n)) (fun a _ => s.size - (intOf a).toNat)
  case atStart => exact ⟨k, 1, hk, by omega, rfl, rfl, rfl⟩
  case round =>
    obtain ⟨j, n, hj, hn, rfl, rfl, H⟩ := hrel
    rcases n with _ | n
    · go_wp2
      go_ret2
      exact SkipRes.yes hj (by rw [H.out]; simp [eatAt]) rfl
    · by_cases hlt : j < s.size
      · cases ha : ari s[j] with
        | none =>
          have h1 : arI s[j].toNat = -1 := arI_none ha
          have X : Hid (eatAt s k 1 = none) := H.out.trans (eatAt_bad s n hlt ha)
          clear ha H
          go_wp2_with (go_at_call 124; refine (arity_any _ _).mono ?_; rintro e w' ⟨rfl, rfl⟩)
          go_ret2
          exact SkipRes.no hj X.out rfl
        | some m =>
          have h1 : arI s[j].toNat = m := arI_some ha
          have hm : m ≤ 2 := by rcases ari_cases ha with ⟨h, _⟩ | ⟨h, _⟩ | ⟨h, _⟩ <;> omega
          have X : Hid (eatAt s k 1 = eatAt s (j + 1) (n + m)) := H.out.trans (eatAt_step s n hlt ha)
          clear ha H
          go_wp2_with (go_at_call 124; refine (arity_any _ _).mono ?_; rintro e w' ⟨rfl, rfl⟩)
          go_round
          case rel => exact ⟨j + 1, n + m, by omega, by omega, by go_num, by go_num, X⟩
          case measure => simp [intOf]; omega
      · have X : Hid (eatAt s k 1 = none) := H.out.trans (eatAt_end s n (by omega))
        clear H
        go_wp2_with (go_at_call 124; refine (arity_any _ _).mono ?_; rintro e w' ⟨rfl, rfl⟩)
        go_ret2
        exact SkipRes.no hj X.out rfl

/-- Two answers of skip, each by itself. -/
theorem skip_yes (s : ByteArray) (k j : Nat) (w : World) (hs : s.size ≤ 1000000000000000) (hk : k ≤ s.size) (hj : j ≤ s.size) (h : eatAt s k 1 = some (s.data.toList.drop j)) :
    Calls Tryz.prog 100 #[.string s, .int .i64 k] w (Gives (.tuple #[.int .i64 (j : Int), .bool true]) w) :=
  (skip_any s k w hs hk).mono fun e w' ⟨hw, hr⟩ => by
    rw [h] at hr
    have : s.data.toList.length = s.size := by simp
    refine ⟨?_, hw⟩
    rw [hr, List.length_drop, this, show s.size - (s.size - j) = j by omega]
/-- An answer with a place that nobody asks for. -/
def GivesFail (w : World) (n : Nat) (e : Ending) (w' : World) : Prop := ∃ p : Nat, p ≤ n ∧ e = .returned (.tuple #[.int .i64 (p : Int), .bool false]) ∧ w = w'
theorem skip_no (s : ByteArray) (k : Nat) (w : World) (hs : s.size ≤ 1000000000000000) (hk : k ≤ s.size) (h : eatAt s k 1 = none) :
    Calls Tryz.prog 100 #[.string s, .int .i64 k] w (GivesFail w s.size) :=
  (skip_any s k w hs hk).mono fun e w' ⟨hw, hr⟩ => by
    rw [h] at hr
    obtain ⟨p, hp, he⟩ := hr
    exact ⟨p, hp, he, hw⟩

/-- What Check answers. -/
def CheckRes (s : ByteArray) (w : World) (e : Ending) (w' : World) : Prop :=
  w = w' ∧ ((isTy s.data.toList = true ∧ e = .returned (.tuple #[.int .i64 0, .int .i64 0])) ∨
    (isTy s.data.toList = false ∧ ∃ p : Nat, p ≤ s.size + 64 ∧ e = .returned (.tuple #[.int .i64 (if 64 < s.size then 21 else 20), .int .i64 p])))

theorem isTy_long {s : ByteArray} (h : 64 < s.size) : isTy s.data.toList = false := by
  have : s.data.toList.length = s.size := by simp
  unfold isTy
  rw [this, decide_eq_false (by omega)]; rfl
theorem isTy_short {s : ByteArray} (h : s.size ≤ 64) : isTy s.data.toList = (eatAt s 0 1 == some []) := by
  have : s.data.toList.length = s.size := by simp
  unfold isTy eatAt
  rw [this, decide_eq_true h]; simp

set_option maxHeartbeats 400000 in
theorem Check_any (s : ByteArray) (w : World) :
    Calls Tryz.prog 68 #[.string s] w (CheckRes s w) := by
  by_cases hl : 64 < s.size
  · have X := Lib.hid (isTy_long hl)
    go_enter Tryz.func68, Tryz.ntmps68
    go_wp2_with fail
    go_ret2
    exact ⟨rfl, .inr ⟨X.out, 64, by omega, by rw [if_pos hl]; rfl⟩⟩
  · have hl' : s.size ≤ 64 := by omega
    have X := Lib.hid (isTy_short hl')
    cases he : eatAt s 0 1 with
    | none =>
      have Y : Hid (isTy s.data.toList = false) := by rw [Hid, X.out, he]; rfl
      have H := Lib.hid he; clear he X
      go_enter Tryz.func68, Tryz.ntmps68
      go_wp2_with (go_at_call 100; refine (skip_no s 0 _ (by omega) (by omega) H.out).mono ?_; rintro e w' ⟨p, hp, rfl, rfl⟩)
      go_ret2
      exact ⟨rfl, .inr ⟨Y.out, p, by omega, by rw [if_neg hl]; rfl⟩⟩
    | some r =>
      have hr : r = s.data.toList.drop (s.size - r.length) := by
        have := eat_suffix he
        simpa using this
      have hrl : r.length ≤ s.size := by
        have := eat_length he
        simpa using this
      generalize hj : s.size - r.length = j at hr
      have hjs : j ≤ s.size := by omega
      subst hr
      have H := Lib.hid he
      by_cases hz : j = s.size
      · subst hz
        have Y : Hid (isTy s.data.toList = true) := by rw [Hid, X.out, he]; simp
        clear he X hj
        go_enter Tryz.func68, Tryz.ntmps68
        go_wp2_with (go_at_call 100; refine (skip_yes s 0 s.size _ (by omega) (by omega) (by omega) H.out).mono ?_; rintro e w' ⟨rfl, rfl⟩)
        go_ret2
        exact ⟨rfl, .inl ⟨Y.out, rfl⟩⟩
      · have hlt : j < s.size := by omega
        have Y : Hid (isTy s.data.toList = false) := by
          rw [Hid, X.out, he, beq_eq_false_iff_ne]
          intro h
          have h1 := Option.some.inj h
          have h2 := congrArg List.length h1
          simp at h2
          omega
        clear he X hj
        go_enter Tryz.func68, Tryz.ntmps68
        go_wp2_with (go_at_call 100; refine (skip_yes s 0 j _ (by omega) (by omega) (by omega) H.out).mono ?_; rintro e w' ⟨rfl, rfl⟩)
        go_ret2
        exact ⟨rfl, .inr ⟨Y.out, j, by omega, by rw [if_neg hl]; rfl⟩⟩

theorem Check_yes (t : Ty) (ht : t.fits) (w : World) : Calls Tryz.prog 68 #[.string t.str] w (Gives (.tuple #[.int .i64 0, .int .i64 0]) w) :=
  (Check_any _ w).mono fun e w' ⟨hw, hr⟩ => by
    rcases hr with ⟨_, he⟩ | ⟨h, _⟩
    · exact ⟨he, hw⟩
    · rw [str_list, isTy_enc t ht] at h; cases h
/-- A refusal: which error, and some place. -/
def Refuses (n : Nat) (w : World) (e : Ending) (w' : World) : Prop := ∃ c p : Int, 20 ≤ c ∧ c ≤ 21 ∧ c = (if 64 < n then 21 else 20) ∧ e = .returned (.tuple #[.int .i64 c, .int .i64 p]) ∧ w = w'
theorem Check_no (s : ByteArray) (h : isTy s.data.toList = false) (w : World) : Calls Tryz.prog 68 #[.string s] w (Refuses s.size w) :=
  (Check_any _ w).mono fun e w' ⟨hw, hr⟩ => by
    rcases hr with ⟨h', _⟩ | ⟨_, p, _, he⟩
    · rw [h] at h'; cases h'
    · refine ⟨if 64 < s.size then 21 else 20, p, ?_, ?_, rfl, he, hw⟩ <;> split <;> omega

/- 'e, _ := Check(t); return e == OK', under whatever name. -/
set_option maxHeartbeats 400000 in
theorem tis_any (s : ByteArray) (w : World) : Calls Tryz.prog 138 #[.string s] w (Gives (.bool (isTy s.data.toList)) w) := by
  cases h : isTy s.data.toList with
  | false =>
    have H := Lib.hid h; clear h
    go_enter Tryz.func138, Tryz.ntmps138
    go_wp2_with (go_at_call 68; refine (Check_no s H.out _).mono ?_; rintro e w' ⟨c, p, hc1, hc2, -, rfl, rfl⟩; have hc0 : (c == 0) = false := beq_eq_false_iff_ne.2 (by omega))
    go_ret
    exact Gives.mk rfl
  | true =>
    obtain ⟨t, rfl, ht⟩ := ty_of s h; clear h
    go_enter Tryz.func138, Tryz.ntmps138
    go_wp2_with (go_at_call 68; refine (Check_yes t ht _).mono ?_; rintro e w' ⟨rfl, rfl⟩)
    go_ret
    exact Gives.mk rfl
set_option maxHeartbeats 400000 in
theorem ris_any (s : ByteArray) (w : World) : Calls Tryz.prog 128 #[.string s] w (Gives (.bool (isTy s.data.toList)) w) := by
  cases h : isTy s.data.toList with
  | false =>
    have H := Lib.hid h; clear h
    go_enter Tryz.func128, Tryz.ntmps128
    go_wp2_with (go_at_call 68; refine (Check_no s H.out _).mono ?_; rintro e w' ⟨c, p, hc1, hc2, -, rfl, rfl⟩; have hc0 : (c == 0) = false := beq_eq_false_iff_ne.2 (by omega))
    go_ret
    exact Gives.mk rfl
  | true =>
    obtain ⟨t, rfl, ht⟩ := ty_of s h; clear h
    go_enter Tryz.func128, Tryz.ntmps128
    go_wp2_with (go_at_call 68; refine (Check_yes t ht _).mono ?_; rintro e w' ⟨rfl, rfl⟩)
    go_ret
    exact Gives.mk rfl

theorem str_get (t : Ty) (h : 0 < t.str.size) : t.str[0] = t.hd := by
  have e : t.enc = t.hd :: t.enc.tail := by cases t <;> rfl
  have : t.str[0] = t.enc[0]'(by simpa [str_size] using h) := by simp [Ty.str, ByteArray.getElem_eq_getElem_data]
  rw [this]
  cases t <;> rfl

def strs (l : List Ty) : List Value := l.map fun t => .string t.str

/-- The text of a part. -/
theorem part_at {t k : Ty} {d r : List Ty} (h : t.kids = d ++ k :: r) :
    eatAt t.str (1 + (Ty.encs d).length) 1 = some (t.str.data.toList.drop (1 + (Ty.encs (d ++ [k])).length)) ∧ t.str.extract (1 + (Ty.encs d).length) (1 + (Ty.encs (d ++ [k])).length) = k.str ∧
    1 + (Ty.encs (d ++ [k])).length ≤ t.str.size ∧ (Ty.encs d).length < (Ty.encs (d ++ [k])).length := by
  have he : t.enc = (t.hd :: Ty.encs d) ++ (k.enc ++ Ty.encs r) := by rw [enc_kids, h, encs_append, encs_cons]; simp
  have hdk : (Ty.encs (d ++ [k])).length = (Ty.encs d).length + k.enc.length := by rw [encs_append]; simp [Ty.encs]
  have hk := k.enc_pos
  refine ⟨?_, ?_, ?_, by omega⟩
  · unfold eatAt
    rw [str_list, he, hdk, List.drop_append_of_le_length (by simp; omega), List.drop_of_length_le (by simp; omega), List.nil_append, eat_enc_one]
    rw [List.drop_append, List.drop_of_length_le (by simp; omega), List.nil_append, show 1 + ((Ty.encs d).length + k.enc.length) - (t.hd :: Ty.encs d).length = k.enc.length by simp; omega]
    simp
  · apply ByteArray.ext
    apply Array.ext'
    rw [str_list]
    simp only [ByteArray.data_extract, Array.toList_extract, str_list, List.extract_eq_take_drop]
    rw [he, hdk, List.drop_append_of_le_length (by simp; omega), List.drop_of_length_le (by simp; omega), List.nil_append]
    rw [show 1 + ((Ty.encs d).length + k.enc.length) - (1 + (Ty.encs d).length) = k.enc.length by omega]
    simp
  · rw [str_size, he, hdk]; simp; omega

theorem string_info : (Tryz.prog.info? 9).map (fun i => (i.zero, i.size, i.bytes)) = some (some (.string ByteArray.empty), 1, 16) := by kernel_rfl

/-- What parts hands back: a new slice of the parts' texts. -/
def PartsRes (ks : List Ty) (w : World) (e : Ending) (w' : World) : Prop :=
  ∃ v, e = .returned v ∧ w'.ownsRow w.heap.size 9 1 v ks.length (strs ks) ∧ Below w.heap.size w w'

set_option maxHeartbeats 400000 in
theorem parts_any (t : Ty) (ht : t.fits) (w : World) :
    Calls Tryz.prog 139 #[.string t.str] w (PartsRes t.kids w) := by
  have hsz : t.str.size ≤ 64 := by rw [str_size]; exact ht
  have hse : Hid (t.str.size = 1 + (Ty.encs t.kids).length) := by rw [Hid, str_size, enc_kids]; simp; omega
  go_enter Tryz.func139, Tryz.ntmps139
  go_wp2
  go_loopw [3, 4] (fun v a wr => ∃ (d r : List Ty) (k : Nat), Hid (t.kids = d ++ r) ∧ k ≤ t.str.size ∧ Hid (k = 1 + (Ty.encs d).length) ∧ a = .int .i64 k ∧ wr.ownsRow w.heap.size 9 1 v d.length (strs d) ∧ Below w.heap.size w wr) (fun _ a _ => t.str.size - (intOf a).toNat)
  case atStart => exact ⟨[], t.kids, 1, rfl, by have := hse.out; omega, rfl, rfl, World.ownsRow_nil _ _ _ _, Below.refl _ _⟩
  case round =>
    obtain ⟨d, r, k, hk, hks, hke, rfl, hown, hbel⟩ := hrel
    rcases r with _ | ⟨c, r⟩
    · have hlt : ¬ k < t.str.size := by have h1 := hse.out; have h2 := hke.out; have h3 := hk.out; simp at h3; rw [h3] at h1; omega
      have X : Hid (t.kids = d) := Lib.hid (by have := hk.out; simpa using this)
      clear hse hk hke
      go_wp2
      go_ret
      exact ⟨_, rfl, by rw [X.out]; exact hown, hbel⟩
    · obtain ⟨h1, h2, h3, h4⟩ := part_at hk.out
      generalize hj : 1 + (Ty.encs (d ++ [c])).length = j at h1 h2 h3 h4
      have hjk : k < j := by have := hke.out; omega
      have hlt : k < t.str.size := by omega
      rw [← hke.out] at h1 h2
      have H1 := Lib.hid h1
      have H2 := Lib.hid h2
      have HJ := Lib.hid hj
      have hdl : d.length ≤ 64 := by
        have h5 : ∀ l : List Ty, l.length ≤ (Ty.encs l).length := fun l => by
          induction l with
          | nil => simp
          | cons x l ih => rw [encs_cons]; have := x.enc_pos; simp; omega
        have := h5 d; have := hke.out; omega
      clear h1 h2 hj h4
      go_wp2_with (first
        | (go_at_call 100; refine (skip_yes t.str k j _ (by omega) (by omega) (by omega) H1.out).mono ?_; rintro e w' ⟨rfl, rfl⟩)
        | (at_builtin; refine append_one rfl (.tmp 17) (.tmp 22) 110 9 rfl w.heap.size _ 16 Tryz.underlying110 string_info rfl _ _ _ rfl hown _ rfl rfl ?_ ?_ ?_ ?_))
      · omega
      · omega
      · exact hbel.size
      · intro v' w' hown' hg hb'
        rw [H2.out] at hown'
        have hb2 := hbel.trans hb'
        clear hown hbel hg hb'
        have hown2 : w'.ownsRow w.heap.size 9 1 v' (d ++ [c]).length (strs (d ++ [c])) := by simpa [strs] using hown'
        clear hown'
        go_wp2
        go_roundw
        case rel => exact ⟨d ++ [c], r, j, by have := hk.out; rw [Hid, this]; simp, by omega, HJ.out.symm, rfl, hown2, hb2⟩
        case measure => simp [intOf]; omega

set_option maxHeartbeats 400000 in
theorem Parts_any (t : Ty) (ht : t.fits) (w : World) :
    Calls Tryz.prog 127 #[.string t.str] w (PartsRes t.kids w) := by
  have T : Hid (isTy t.str.data.toList = true) := by rw [Hid, str_list]; exact isTy_enc t ht
  go_enter Tryz.func127, Tryz.ntmps127
  go_wp2_with (first
    | (go_at_call 138; refine (tis_any _ _).mono ?_; rw [T.out]; rintro e w' ⟨rfl, rfl⟩)
    | (go_at_call 139; refine (parts_any t ht _).mono ?_; rintro e w' ⟨v, rfl, hown, hbel⟩))
  go_ret
  exact ⟨_, rfl, hown, hbel⟩
theorem str_inj {s t : Ty} (h : s.str = t.str) : s = t := enc_inj (by rw [← str_list s, h, str_list])
theorem toL (s : ByteArray) : s.toList = s.data.toList := ByteArray.toList_eq s
theorem str_dyn {s : Ty} (h : s ≠ .dyn) : (s.str.toList == [63]) = false := by
  rw [toL, str_list, beq_eq_false_iff_ne]
  intro e
  exact h (enc_inj e)
theorem str_isdyn : (Ty.dyn.str.toList == [63]) = true := by rw [toL]; rfl
theorem hd_eq (s t : Ty) : (((s.hd.toNat : Nat) : Int) == ((t.hd.toNat : Nat) : Int)) = decide (s.hd = t.hd) := by
  rw [Bool.eq_iff_iff]
  simp only [beq_iff_eq, decide_eq_true_eq]
  exact u8_eq_iff _ _

theorem hd_ne (s t : Ty) : (((s.hd.toNat : Nat) : Int) != ((t.hd.toNat : Nat) : Int)) = !decide (s.hd = t.hd) := by rw [← hd_eq]; rfl
theorem fits_sub {a t : Ty} (ht : t.fits) (h : a ∈ t.kids) : a.fits := by
  unfold Ty.fits at *
  cases t <;> simp [Ty.kids] at h <;> simp [Ty.enc] at ht
  all_goals first | (rcases h with rfl | rfl <;> omega) | (subst h; omega)

end Go.Proofs.YtidholghbjljaaaGreatDoor

/- Plain: consistent types, and more precise ones. -/
namespace Culp
set_option linter.unusedSimpArgs false
set_option linter.unusedVariables false
def cons : Ty → Ty → Bool
  | .dyn, _ => true
  | _, .dyn => true
  | .fn a b, .fn c d => cons a c && cons b d
  | .pair a b, .pair c d => cons a c && cons b d
  | .list a, .list c => cons a c
  | .box a, .box c => cons a c
  | .int, .int => true | .bool, .bool => true | .text, .text => true
  | _, _ => false
def prec : Ty → Ty → Bool
  | _, .dyn => true
  | .fn a b, .fn c d => prec a c && prec b d
  | .pair a b, .pair c d => prec a c && prec b d
  | .list a, .list c => prec a c
  | .box a, .box c => prec a c
  | .int, .int => true | .bool, .bool => true | .text, .text => true
  | _, _ => false
/-- Part by part. -/
def allK (f : Ty → Ty → Bool) : List Ty → List Ty → Bool
  | a :: l, b :: bs => f a b && allK f l bs
  | _, _ => true
@[simp] theorem cons_dyn (s : Ty) : cons s .dyn = true := by cases s <;> rfl
@[simp] theorem dyn_cons (s : Ty) : cons .dyn s = true := by cases s <;> rfl
@[simp] theorem prec_dyn (s : Ty) : prec s .dyn = true := by cases s <;> rfl
theorem prec_head {s t : Ty} (ht : t ≠ .dyn) (h : s.hd ≠ t.hd) : prec s t = false := by
  cases s <;> cases t <;> first | rfl | (exact absurd rfl h) | (exact absurd rfl ht)
theorem prec_same {s t : Ty} (h : s.hd = t.hd) : prec s t = allK prec s.kids t.kids := by
  cases s <;> cases t <;> simp [Ty.hd] at h <;> simp [prec, allK, Ty.kids]
theorem kids_same {s t : Ty} (h : s.hd = t.hd) : s.kids.length = t.kids.length := by
  cases s <;> cases t <;> simp [Ty.hd] at h <;> rfl
theorem allK_step (f : Ty → Ty → Bool) (ks ls : List Ty) (k : Nat) (h : k < ks.length) (h' : k < ls.length) :
    allK f (ks.drop k) (ls.drop k) = (f ks[k] ls[k] && allK f (ks.drop (k + 1)) (ls.drop (k + 1))) := by
  rw [List.drop_eq_getElem_cons h, List.drop_eq_getElem_cons h']; rfl
theorem allK_end (f : Ty → Ty → Bool) (ks ls : List Ty) (k : Nat) (h : ks.length ≤ k) : allK f (ks.drop k) (ls.drop k) = true := by
  rw [List.drop_eq_nil_of_le h]; rfl
end Culp

/- Plain: core terms, checked: what package core answers, and the document's answer. -/
namespace Culp
set_option linter.unusedSimpArgs false
set_option linter.unusedVariables false
open Go

/-- A node. -/
structure Nd where
  kind : Int
  kids : Int
  n : Int
  s : ByteArray
  t : ByteArray
  u : ByteArray
  line : Int
  col : Int

end Culp

/- Plain facts on sources and their tokens: no program in sight. -/
namespace Culp.Tx
set_option linter.unusedSimpArgs false
set_option linter.unusedVariables false

def letter (c : UInt8) : Bool := decide (97 ≤ c.toNat ∧ c.toNat ≤ 122 ∨ 65 ≤ c.toNat ∧ c.toNat ≤ 90)
def digit (c : UInt8) : Bool := decide (48 ≤ c.toNat ∧ c.toNat ≤ 57)
def inner (c : UInt8) : Bool := letter c || digit c || decide (c.toNat = 95)
def blank (c : UInt8) : Bool := decide (c.toNat = 32 ∨ c.toNat = 9 ∨ c.toNat = 13 ∨ c.toNat = 10)

/-- How many bytes of blanks and remarks stand first; the first argument: are we in a remark? -/
def behind : Bool → List UInt8 → Nat
  | _, [] => 0
  | true, c :: l => 1 + behind (decide (c.toNat ≠ 10)) l
  | false, c :: l => if c.toNat = 35 then 1 + behind true l else if blank c = true then 1 + behind false l else 0

/-- A place: line and column. -/
def step (p : Nat × Nat) (c : UInt8) : Nat × Nat := if c.toNat = 10 then (p.1 + 1, 1) else (p.1, p.2 + 1)
def further (p : Nat × Nat) (l : List UInt8) : Nat × Nat := l.foldl step p

/-- A token: its kind, its number, its text. -/
structure Tk where
  kind : Nat
  n : Nat
  s : List UInt8
deriving DecidableEq

def words : List (List UInt8) := [[109,111,100,117,108,101], [105,109,112,111,114,116], [101,120,112,111,114,116], [108,101,116], [114,101,99], [105,110], [105,102], [116,104,101,110], [101,108,115,101], [102,110],
  [116,114,117,101], [102,97,108,115,101], [105,110,116], [98,111,111,108], [116,101,120,116], [98,111,120], [102,105,114,115,116], [115,101,99,111,110,100], [104,101,97,100], [116,97,105,108], [101,109,112,116,121], [99,111,110,115], [115,105,122,101]]
def isWord (s : List UInt8) : Bool := decide (s ∈ words)
def isName (s : List UInt8) : Bool := decide (s ≠ []) && decide (s.length ≤ 32) && (s.head?.map letter).getD false && !isWord s && s.all inner

def run (l : List UInt8) : List UInt8 := l.takeWhile inner
def value (l : List UInt8) : Nat := l.foldl (fun n c => 10 * n + (c.toNat - 48)) 0
def worth (l : List UInt8) : Option Nat := if l.head? = some 48 ∧ 1 < l.length then none else if l.all digit = true then (if value l ≤ 9223372036854775807 then some (value l) else none) else none

/-- A text's token, behind its first quote: what it stands for, how many bytes it takes. -/
def unq : List UInt8 → Option (List UInt8 × Nat)
  | [] => none
  | [c] => if c.toNat = 34 then some ([], 1) else none
  | c :: d :: l => if c.toNat = 34 then some ([], 1)
      else if c.toNat = 92 then (if d.toNat = 34 ∨ d.toNat = 92 then (unq l).map (fun p => (d :: p.1, p.2 + 2)) else if d.toNat = 110 then (unq l).map (fun p => (10 :: p.1, p.2 + 2)) else none)
      else if c.toNat < 32 ∨ 126 < c.toNat then none else (unq (d :: l)).map (fun p => (c :: p.1, p.2 + 1))

def marks2 : List (List UInt8) := [[45, 62], [61, 62], [58, 61], [61, 61], [43, 43]]
def marks1 : List UInt8 := [40, 41, 91, 93, 123, 125, 44, 58, 59, 46, 61, 60, 43, 45, 42, 63, 33]
def mark : List UInt8 → List UInt8
  | [] => []
  | [c] => if c ∈ marks1 then [c] else []
  | c :: d :: _ => if [c, d] ∈ marks2 then [c, d] else if c ∈ marks1 then [c] else []

/-- The token that stands first, and how many bytes it takes; or what is wrong. -/
def one : List UInt8 → Except Nat (Tk × Nat)
  | [] => .error 11
  | c :: l =>
    if letter c = true then
      if (run (c :: l)).length ≤ 32 then .ok (⟨if isWord (run (c :: l)) = true then 1 else 2, 0, run (c :: l)⟩, (run (c :: l)).length) else .error 12
    else if digit c = true then
      match worth (run (c :: l)) with | some n => .ok (⟨3, n, []⟩, (run (c :: l)).length) | none => .error 13
    else if c.toNat = 34 then
      match unq l with | some (s, k) => if s.length ≤ 64 then .ok (⟨4, 0, s⟩, k + 1) else .error 14 | none => .error 14
    else if mark (c :: l) = [] then .error 11 else .ok (⟨5, 0, mark (c :: l)⟩, (mark (c :: l)).length)

theorem unq_bounds : ∀ (l : List UInt8) (s : List UInt8) (k : Nat), unq l = some (s, k) → 1 ≤ k ∧ k ≤ l.length ∧ s.length + 1 ≤ k
  | [], s, k, h => by simp [unq] at h
  | [c], s, k, h => by
    unfold unq at h
    split at h
    · simp at h; obtain ⟨rfl, rfl⟩ := h; simp
    · cases h
  | c :: d :: l, s, k, h => by
    unfold unq at h
    split at h
    · simp at h; obtain ⟨rfl, rfl⟩ := h; simp
    split at h
    · split at h
      · simp only [Option.map_eq_some_iff, Prod.exists, Prod.mk.injEq] at h
        obtain ⟨a, b, h1, rfl, rfl⟩ := h
        have := unq_bounds l a b h1
        simp; omega
      · split at h
        · simp only [Option.map_eq_some_iff, Prod.exists, Prod.mk.injEq] at h
          obtain ⟨a, b, h1, rfl, rfl⟩ := h
          have := unq_bounds l a b h1
          simp; omega
        · cases h
    · split at h
      · cases h
      · simp only [Option.map_eq_some_iff, Prod.exists, Prod.mk.injEq] at h
        obtain ⟨a, b, h1, rfl, rfl⟩ := h
        have := unq_bounds (d :: l) a b h1
        simp at this ⊢; omega

theorem mark_len : ∀ l : List UInt8, (mark l).length ≤ l.length ∧ (mark l).length ≤ 2
  | [] => by simp [mark]
  | [c] => by rw [mark]; split <;> simp
  | c :: d :: l => by
    rw [mark]
    split
    · simp
    · split <;> simp

theorem run_len (l : List UInt8) : (run l).length ≤ l.length := (List.takeWhile_sublist _).length_le

theorem one_bounds {l : List UInt8} {t : Tk} {k : Nat} (h : one l = .ok (t, k)) : 1 ≤ k ∧ k ≤ l.length := by
  cases l with
  | nil => simp [one] at h
  | cons c l =>
    rw [one] at h
    have hr := run_len (c :: l)
    have hm := mark_len (c :: l)
    have ht : ∀ c : UInt8, ∀ l, inner c = true → 1 ≤ (run (c :: l)).length := fun c l hc => by unfold run; rw [List.takeWhile_cons, if_pos hc]; simp
    split at h
    · rename_i hl
      split at h
      · injection h with h; injection h with h1 h2; subst h2
        exact ⟨ht _ _ (by unfold inner; rw [hl]; rfl), hr⟩
      · cases h
    split at h
    · rename_i hl hd
      split at h
      · injection h with h; injection h with h1 h2; subst h2
        exact ⟨ht _ _ (by unfold inner; rw [hd]; simp), hr⟩
      · cases h
    split at h
    · split at h
      · rename_i s k' hu
        split at h
        · injection h with h; injection h with h1 h2; subst h2
          have := unq_bounds _ _ _ hu
          simp; omega
        · cases h
      · cases h
    · split at h
      · cases h
      · rename_i hn
        injection h with h; injection h with h1 h2; subst h2
        refine ⟨?_, hm.1⟩
        have := List.length_pos_iff.2 hn
        omega

theorem behind_le : ∀ (b : Bool) (l : List UInt8), behind b l ≤ l.length
  | _, [] => by simp [behind]
  | true, c :: l => by unfold behind; have := behind_le (decide (c.toNat ≠ 10)) l; simp at this ⊢; omega
  | false, c :: l => by
    unfold behind
    have h1 := behind_le true l
    have h2 := behind_le false l
    split
    · simp; omega
    split <;> (simp; try omega)

/-- The tokens behind a place, or the fault and where it stands. -/
def toksF : Nat → Nat × Nat → List UInt8 → Except (Nat × (Nat × Nat)) (List (Tk × (Nat × Nat)))
  | 0, _, _ => .ok []
  | f + 1, p, l =>
    if behind false l = l.length then .ok []
    else match one (l.drop (behind false l)) with
      | .error e => .error (e, further p (l.take (behind false l)))
      | .ok (t, n) => match toksF f (further p (l.take (behind false l + n))) (l.drop (behind false l + n)) with
        | .error e => .error e
        | .ok r => .ok ((t, further p (l.take (behind false l))) :: r)
theorem toksF_more : ∀ (f g : Nat) (p : Nat × Nat) (l : List UInt8), l.length < f → l.length < g → toksF f p l = toksF g p l
  | 0, _, _, _, h, _ => by omega
  | _, 0, _, _, _, h => by omega
  | f + 1, g + 1, p, l, hf, hg => by
    unfold toksF
    split
    · rfl
    · split
      · rfl
      · rename_i t n h1
        have hb := one_bounds h1
        have hl := behind_le false l
        have : (l.drop (behind false l + n)).length < f ∧ (l.drop (behind false l + n)).length < g := by
          simp at hb ⊢; omega
        rw [toksF_more f g _ _ this.1 this.2]
def toksAt (p : Nat × Nat) (l : List UInt8) := toksF (l.length + 1) p l
theorem toksAt_eq (p : Nat × Nat) (l : List UInt8) : toksAt p l =
    if behind false l = l.length then .ok []
    else match one (l.drop (behind false l)) with
      | .error e => .error (e, further p (l.take (behind false l)))
      | .ok (t, n) => match toksAt (further p (l.take (behind false l + n))) (l.drop (behind false l + n)) with
        | .error e => .error e
        | .ok r => .ok ((t, further p (l.take (behind false l))) :: r) := by
  unfold toksAt
  rw [toksF]
  split
  · rfl
  · split
    · rfl
    · rename_i t n h1
      have hb := one_bounds h1
      have hl := behind_le false l
      rw [toksF_more l.length ((l.drop (behind false l + n)).length + 1) _ _ (by simp at hb ⊢; omega) (by omega)]
/-- A text's token written. -/
def esc (c : UInt8) : Option (List UInt8) := if c.toNat = 10 then some [92, 110] else if c.toNat < 32 ∨ 126 < c.toNat then none else if c.toNat = 34 ∨ c.toNat = 92 then some [92, c] else some [c]
def escs : List UInt8 → Option (List UInt8)
  | [] => some []
  | c :: l => match esc c, escs l with | some a, some b => some (a ++ b) | _, _ => none
def quote (s : List UInt8) : Option (List UInt8) := if 64 < s.length then none else (escs s).map (fun m => 34 :: m ++ [34])
end Culp.Tx

/- What follows for sources and their tokens: cut, written anew, quoted; no program in sight. -/
namespace Culp.Tx
set_option linter.unusedSimpArgs false
set_option linter.unusedVariables false

/-- A list of bytes with which a next piece may begin behind a token. -/
def Stop (z : List UInt8) : Prop := z = [] ∨ ∃ c r, z = c :: r ∧ (blank c = true ∨ c.toNat = 35)
theorem run_inner : ∀ l : List UInt8, (run l).all inner = true
  | [] => rfl
  | c :: l => by
    have := run_inner l
    unfold run at this ⊢
    rw [List.takeWhile_cons]
    split
    · rename_i h; rw [List.all_cons, h, this]; rfl
    · rfl
theorem run_take : ∀ l : List UInt8, l.take (run l).length = run l
  | [] => rfl
  | c :: l => by
    have := run_take l
    unfold run at this ⊢
    rw [List.takeWhile_cons]
    split
    · simp [this]
    · rfl
theorem mark_take : ∀ l : List UInt8, l.take (mark l).length = mark l
  | [] => rfl
  | [c] => by rw [mark]; split <;> rfl
  | c :: d :: l => by
    rw [mark]
    split
    · rfl
    · split <;> rfl
/-- The kinds of a token that stands first. -/
theorem one_cases {c : UInt8} {l : List UInt8} {t : Tk} {k : Nat} (h : one (c :: l) = .ok (t, k)) :
    (letter c = true ∧ (run (c :: l)).length ≤ 32 ∧ t = ⟨if isWord (run (c :: l)) = true then 1 else 2, 0, run (c :: l)⟩ ∧ k = (run (c :: l)).length) ∨
    (letter c = false ∧ digit c = true ∧ ∃ n, worth (run (c :: l)) = some n ∧ t = ⟨3, n, []⟩ ∧ k = (run (c :: l)).length) ∨
    (letter c = false ∧ digit c = false ∧ c.toNat = 34 ∧ ∃ s j, unq l = some (s, j) ∧ s.length ≤ 64 ∧ t = ⟨4, 0, s⟩ ∧ k = j + 1) ∨
    (letter c = false ∧ digit c = false ∧ c.toNat ≠ 34 ∧ mark (c :: l) ≠ [] ∧ t = ⟨5, 0, mark (c :: l)⟩ ∧ k = (mark (c :: l)).length) := by
  rw [one] at h
  split at h
  · rename_i hl
    split at h
    · injection h with h; injection h with h1 h2
      exact .inl ⟨hl, by assumption, h1.symm, h2.symm⟩
    · cases h
  rename_i hl
  simp at hl
  split at h
  · rename_i hd
    split at h
    · injection h with h; injection h with h1 h2
      exact .inr (.inl ⟨hl, hd, _, by assumption, h1.symm, h2.symm⟩)
    · cases h
  rename_i hd
  simp at hd
  split at h
  · rename_i hq
    split at h
    · rename_i s j hu
      split at h
      · injection h with h; injection h with h1 h2
        exact .inr (.inr (.inl ⟨hl, hd, hq, s, j, hu, by assumption, h1.symm, h2.symm⟩))
      · cases h
    · cases h
  · rename_i hq
    split at h
    · cases h
    · injection h with h; injection h with h1 h2
      exact .inr (.inr (.inr ⟨hl, hd, hq, by assumption, h1.symm, h2.symm⟩))
end Culp.Tx

/- Sources cut, spread, written anew: the tokens of what comes of it; no program in sight. -/
namespace Culp.Tx
set_option linter.unusedSimpArgs false
set_option linter.unusedVariables false

/-- Blanks and whole remarks. -/
def Clean (z : List UInt8) : Prop := ∀ l, behind false (z ++ l) = z.length + behind false l
theorem Clean.nil : Clean [] := fun l => by simp
theorem Clean.app {a b : List UInt8} (ha : Clean a) (hb : Clean b) : Clean (a ++ b) := fun l => by rw [List.append_assoc, ha, hb]; simp; omega
theorem Clean.blank {c : UInt8} (h : blank c = true) : Clean [c] := fun l => by
  have : ¬ c.toNat = 35 := by unfold Tx.blank at h; simp only [decide_eq_true_eq] at h; omega
  rw [List.singleton_append, behind, if_neg this, if_pos h]; simp
theorem toksAt_none {p : Nat × Nat} {l : List UInt8} (h : behind false l = l.length) : toksAt p l = .ok [] := by rw [toksAt_eq, if_pos h]
/-- Pieces with blanks and remarks ahead of each. -/
def spread : List (List UInt8 × List UInt8) → List UInt8
  | [] => []
  | (z, r) :: l => z ++ (r ++ spread l)
/-- A number in tens. -/
def tens : Nat → Nat → List UInt8
  | 0, _ => []
  | f + 1, n => if n = 0 then [] else tens f (n / 10) ++ [UInt8.ofNat (48 + n % 10)]
def decimal (n : Nat) : List UInt8 := if n = 0 then [48] else tens 20 n
/-- How a token is written. -/
def said (t : Tk) : List UInt8 := if t.kind = 4 then (quote t.s).getD [] else if t.kind = 3 then decimal t.n else t.s
end Culp.Tx

/- Words, names, quotes, limits: their tokens; no program in sight. -/
namespace Culp.Tx
set_option linter.unusedSimpArgs false
set_option linter.unusedVariables false

theorem words_short : ∀ s ∈ words, 2 ≤ s.length ∧ s.length ≤ 6 ∧ s.all inner = true ∧ (s.head?.map letter).getD false = true := by decide
/-- How many first ones are the same. -/
def same {α : Type} [DecidableEq α] : List α → List α → Nat
  | a :: l, b :: m => if a = b then 1 + same l m else 0
  | _, _ => 0
end Culp.Tx

/- Plain: trees: which lists may be, what the program and the document answer of them. -/
namespace Culp.Tr
set_option linter.unusedSimpArgs false
set_option linter.unusedVariables false
open Culp

/-- How many kids a kind has: -1: any number; -2: it is none. -/
def arit (k : Int) : Int :=
  if k = 1 ∨ k = 2 ∨ k = 3 ∨ k = 4 then 0
  else if k = 5 ∨ k = 6 ∨ k = 29 ∨ k = 30 ∨ k = 16 ∨ k = 17 ∨ k = 19 ∨ k = 20 ∨ k = 22 ∨ k = 23 ∨ k = 24 ∨ k = 26 ∨ k = 27 then 1
  else if k = 8 ∨ k = 7 ∨ k = 10 ∨ k = 11 ∨ k = 12 ∨ k = 13 ∨ k = 14 ∨ k = 15 ∨ k = 18 ∨ k = 25 ∨ k = 28 then 2
  else if k = 9 then 3
  else if k = 21 then -1
  else -2
/-- An annotation, or none. -/
def note (t : List UInt8) : Bool := decide (t = []) || isTy t
/-- A text parted at its first blank. -/
def two : List UInt8 → Option (List UInt8 × List UInt8)
  | [] => none
  | c :: l => if c.toNat = 32 then some ([], l) else (two l).map fun x => (c :: x.1, x.2)
def twoOk (s : List UInt8) : Bool := match two s with
  | none => false
  | some (a, b) => Tx.isName a && Tx.isName b
/-- What a node's kind lets it bear. -/
def nOk (x : Nd) : Bool := if x.kind = 1 then decide (0 ≤ x.n) else if x.kind = 3 then decide (x.n = 0) || decide (x.n = 1) else decide (x.n = 0)
def sOk (k : Int) (s : List UInt8) : Bool := if k = 2 then (Tx.quote s).isSome else if k = 4 ∨ k = 5 ∨ k = 8 then Tx.isName s else if k = 6 then twoOk s else decide (s = [])
def tOk (k : Int) (t : List UInt8) : Bool := if k = 5 ∨ k = 6 ∨ k = 8 then note t else if k = 29 then isTy t else decide (t = [])
def uOk (k : Int) (u : List UInt8) : Bool := if k = 5 ∨ k = 6 then note u else decide (u = [])
def kOk (x : Nd) : Bool := decide (x.kind ≠ 30) && decide (0 ≤ x.kids) && (decide (arit x.kind = -1) || decide (arit x.kind = x.kids))
/-- May a node stand in a source's tree? -/
def may (x : Nd) : Bool := kOk x && nOk x && sOk x.kind x.s.data.toList && tOk x.kind x.t.data.toList && uOk x.kind x.u.data.toList
theorem may_kids {x : Nd} (h : may x = true) : 0 ≤ x.kids := by
  unfold may kOk at h
  simp only [Bool.and_eq_true, decide_eq_true_eq] at h
  exact h.1.1.1.1.1.2

/-- The open parts, the innermost first: those that are full are left. -/
def pop (S : List Int) : List Int := S.dropWhile (· == 0)
theorem pop_sum : ∀ S : List Int, (pop S).sum = S.sum
  | [] => rfl
  | c :: S => by
    unfold pop
    rw [List.dropWhile_cons]
    split
    · rename_i h
      have hc : c = 0 := by simpa using h
      have := pop_sum S
      unfold pop at this
      rw [this, hc]; simp
    · rfl
theorem pop_head {S : List Int} {c : Int} {r : List Int} (h : pop S = c :: r) : c ≠ 0 := by
  intro hc
  have := List.head_dropWhile_not (p := (· == (0 : Int))) (l := S) (by unfold pop at h; rw [h]; simp)
  unfold pop at h
  simp [h, hc] at this
theorem pop_mem {S : List Int} {n : Int} (h : n ∈ pop S) : n ∈ S := (List.dropWhile_sublist _).subset h
theorem sum_nonneg : ∀ S : List Int, (∀ n ∈ S, 0 ≤ n) → 0 ≤ S.sum
  | [], _ => by simp
  | c :: S, h => by
    have h1 := h c List.mem_cons_self
    have h2 := sum_nonneg S fun n hn => h n (List.mem_cons_of_mem _ hn)
    rw [List.sum_cons]; omega
theorem any_pos {S : List Int} (h0 : ∀ n ∈ S, 0 ≤ n) : S.any (fun n => decide (0 < n)) = decide (0 < S.sum) := by
  induction S with
  | nil => rfl
  | cons c S ih =>
    have h1 := h0 c List.mem_cons_self
    have h2 := sum_nonneg S fun n hn => h0 n (List.mem_cons_of_mem _ hn)
    rw [List.any_cons, ih fun n hn => h0 n (List.mem_cons_of_mem _ hn), List.sum_cons, Bool.eq_iff_iff]
    simp only [Bool.or_eq_true, decide_eq_true_eq]
    omega
/-- The rest of a list, as the program looks at it. -/
def scan : List Nd → List Int → Nat → Option Nat → Nat × Nat
  | [], S, i, d => if S.any (fun n => decide (0 < n)) = true then (18, i) else match d with | some j => (16, j) | none => (0, 0)
  | x :: l, S, i, d => match pop S with
    | [] => (18, i)
    | c :: r => if may x = true then scan l (x.kids :: (c - 1) :: r) (i + 1) (if d.isNone = true ∧ 64 < r.length + 1 then some i else d) else (18, i)
theorem scan_nil (S : List Int) (i : Nat) (d : Option Nat) : scan [] S i d = if S.any (fun n => decide (0 < n)) = true then (18, i) else match d with | some j => (16, j) | none => (0, 0) := rfl
theorem scan_cons (x : Nd) (l : List Nd) (S : List Int) (i : Nat) (d : Option Nat) : scan (x :: l) S i d = match pop S with
    | [] => (18, i)
    | c :: r => if may x = true then scan l (x.kids :: (c - 1) :: r) (i + 1) (if d.isNone = true ∧ 64 < r.length + 1 then some i else d) else (18, i) := rfl
/-- What the checker answers: the fault, and the node. -/
def check (T : List Nd) : Nat × Nat := if T.length = 0 ∨ 4096 < T.length then (17, 0) else scan T [1] 0 none
/-- The depths of the nodes, as far as parts are open. -/
def deps : List Nd → List Int → List Nat
  | [], _ => []
  | x :: l, S => match pop S with
    | [] => []
    | c :: r => (r.length + 1) :: deps l (max x.kids 0 :: (c - 1) :: r)
/-- How many nodes so many parts have. -/
def beh (N : Nat) : List Nd → Int → Option Nat
  | [], left => if left ≤ 0 then some 0 else none
  | x :: l, left => if left ≤ 0 then some 0 else if x.kids < 0 ∨ (N : Int) < x.kids then none else (beh N l (left - 1 + x.kids)).map (· + 1)
def behind (T : List Nd) (a : Int) : Nat := if a < 0 ∨ (T.length : Int) ≤ a then 0 else match beh T.length (T.drop a.toNat) 1 with
  | some k => a.toNat + k
  | none => 0
def firstBad (n : Nat) : List Nd → Nat → Option Nat
  | [], _ => none
  | x :: l, i => if may x = true ∧ i < n then firstBad n l (i + 1) else some i
def firstDeep : List Nat → Nat → Option Nat
  | [], _ => none
  | d :: l, i => if 64 < d then some i else firstDeep l (i + 1)
theorem beh_left (N : Nat) : ∀ (l : List Nd) (left : Int), beh N l left = some l.length → left ≤ l.length
  | [], left, h => by
    unfold beh at h
    split at h
    · simpa using (by assumption)
    · cases h
  | x :: l, left, h => by
    unfold beh at h
    split at h
    · rw [List.length_cons]; omega
    split at h
    · cases h
    · rename_i h1 h2
      simp only [Option.map_eq_some_iff] at h
      obtain ⟨k, hk, he⟩ := h
      rw [List.length_cons] at he ⊢
      have hkl : k = l.length := by omega
      subst hkl
      have := beh_left N l _ hk
      omega
theorem scan_eq (N : Nat) : ∀ (l : List Nd) (S : List Int) (i : Nat) (d : Option Nat), (∀ n ∈ S, 0 ≤ n) → l.length ≤ N →
    scan l S i d = match firstBad (i + (deps l S).length) l i with
      | some j => (18, j)
      | none => if beh N l S.sum = some l.length then (match d.or (firstDeep (deps l S) i) with | some j => (16, j) | none => (0, 0)) else (18, i + l.length)
  | [], S, i, d, h0, _ => by
    have hs := sum_nonneg S h0
    rw [scan_nil, any_pos h0]
    simp only [beh, deps, firstDeep, firstBad, List.length_nil, decide_eq_true_eq]
    by_cases h : 0 < S.sum
    · rw [if_pos h, if_neg (by rw [if_neg (by omega)]; simp)]; simp
    · rw [if_neg h, if_pos (by rw [if_pos (by omega)])]
      cases d <;> rfl
  | x :: l, S, i, d, h0, hN => by
    rw [scan_cons, deps, firstBad]
    cases hp : pop S with
    | nil => simp
    | cons c r =>
      simp only
      by_cases hm : may x = true
      · have hk := may_kids hm
        have h1 := pop_head hp
        have h2 := h0 c (pop_mem (by rw [hp]; exact List.mem_cons_self))
        have hr : ∀ n ∈ r, 0 ≤ n := fun n hn => h0 n (pop_mem (by rw [hp]; exact List.mem_cons_of_mem _ hn))
        have h3 := sum_nonneg r hr
        have h4 := pop_sum S
        rw [hp, List.sum_cons] at h4
        have hmax : max x.kids 0 = x.kids := by omega
        rw [List.length_cons] at hN
        have ih := scan_eq N l (x.kids :: (c - 1) :: r) (i + 1) (if d.isNone = true ∧ 64 < r.length + 1 then some i else d) (by
          intro n hn
          rcases List.mem_cons.1 hn with rfl | hn
          · exact hk
          rcases List.mem_cons.1 hn with rfl | hn
          · omega
          · exact hr n hn) (by omega)
        rw [if_pos hm, ih, hmax]
        have e1 : i + ((r.length + 1) :: deps l (x.kids :: (c - 1) :: r)).length = i + 1 + (deps l (x.kids :: (c - 1) :: r)).length := by rw [List.length_cons]; omega
        rw [e1, if_pos (show may x = true ∧ i < i + 1 + (deps l (x.kids :: (c - 1) :: r)).length from ⟨hm, by omega⟩)]
        cases firstBad (i + 1 + (deps l (x.kids :: (c - 1) :: r)).length) l (i + 1) with
        | some j => rfl
        | none =>
          simp only
          have e2 : (x.kids :: (c - 1) :: r).sum = S.sum - 1 + x.kids := by rw [List.sum_cons, List.sum_cons]; omega
          have e3 : beh N (x :: l) S.sum = some (x :: l).length ↔ beh N l (S.sum - 1 + x.kids) = some l.length := by
            rw [beh, if_neg (by omega)]
            by_cases hkN : (N : Int) < x.kids
            · rw [if_pos (.inr hkN)]
              constructor
              · intro h; cases h
              · intro h
                have := beh_left N l _ h
                omega
            · rw [if_neg (by omega), List.length_cons]
              simp
          have e4 : i + 1 + l.length = i + (x :: l).length := by rw [List.length_cons]; omega
          rw [e2, e4]
          simp only [e3]
          split
          · rw [firstDeep]
            cases d with
            | some j => simp
            | none =>
              by_cases hd : 64 < r.length + 1
              · rw [if_pos ⟨rfl, hd⟩, if_pos hd]; rfl
              · rw [if_neg (by simp [hd]), if_neg hd]
          · rfl
      · rw [if_neg hm, if_neg (by simp [hm])]
/-- What the document answers. -/
def refCheck (T : List Nd) : Nat × Nat := if T.length = 0 ∨ 4096 < T.length then (17, 0) else match firstBad (deps T [1]).length T 0 with
  | some j => (18, j)
  | none => if behind T 0 = T.length then (match firstDeep (deps T [1]) 0 with | some j => (16, j) | none => (0, 0)) else (18, T.length)
theorem check_eq (T : List Nd) : refCheck T = check T := by
  unfold refCheck check
  split
  · rfl
  · rename_i h
    rw [scan_eq T.length T [1] 0 none (by simp) (Nat.le_refl _), Nat.zero_add]
    cases firstBad (deps T [1]).length T 0 with
    | some j => rfl
    | none =>
      simp only
      have e : behind T 0 = T.length ↔ beh T.length T [1].sum = some T.length := by
        unfold behind
        rw [if_neg (by omega)]
        show (match beh T.length T 1 with | some k => 0 + k | none => 0) = T.length ↔ beh T.length T 1 = some T.length
        cases beh T.length T 1 with
        | none => simp; omega
        | some k => simp
      simp only [e, Nat.zero_add]
      rfl
end Culp.Tr

/- Memory: lists of nodes, environments; what a call may change beside what it makes. No program in sight. -/
namespace Culp
set_option linter.unusedSimpArgs false
set_option linter.unusedVariables false
open Go Go.RowKit

/-- A node's cells. -/
def Nd.cells (x : Nd) : List Value := [.int .i8 x.kind, .int .i64 x.kids, .int .i64 x.n, .string x.s, .string x.t, .string x.u, .int .i64 x.line, .int .i64 x.col]
def Nd.val (x : Nd) : Value := .agg x.cells.toArray

/-- Nodes lie from a place of a block on. -/
def NodesAt (w : World) (b off : Nat) (l : List Nd) : Prop := ∀ i x, l[i]? = some x → ∀ j u, x.cells[j]? = some u → w.cell? ⟨b, off + i * 8 + j, none⟩ = some u
/-- A slice that reads as nodes. -/
def Nodes (w : World) (v : Value) (l : List Nd) : Prop := ∃ A c, v = .slice A l.length c ∧ l.length ≤ c ∧ (0 < l.length → ∃ b off, A = some ⟨b, off, none⟩ ∧ NodesAt w b off l)
/-- A slice of types' texts. -/
def Tys (w : World) (v : Value) (l : List Ty) : Prop := (l = [] ∧ v = .slice none 0 0) ∨ ∃ g c, v = .slice (some ⟨g, 0, none⟩) l.length c ∧ ∀ i (h : i < l.length), w.cell? ⟨g, i, none⟩ = some (.string (l[i]).str)

/-- A block of three cells. -/
def Trio (g : Nat) (t : TypeId) (x y z : Value) (w : World) : Prop := w.heap[g]? = some (.cells #[x, y, z] t (0, 0))
section
variable {g : Nat} {t : TypeId} {x y z : Value} {w w' : World}
theorem Trio.lt (h : Trio g t x y z w) : g < w.heap.size := by
  rcases Nat.lt_or_ge g w.heap.size with hlt | hge
  · exact hlt
  · unfold Trio at h; rw [Array.getElem?_eq_none hge] at h; cases h
theorem Trio.c0 (h : Trio g t x y z w) : w.cell? ⟨g, 0, none⟩ = some x := by unfold Trio at h; simp [World.cell?, h]
theorem Trio.c1 (h : Trio g t x y z w) : w.cell? ⟨g, 1, none⟩ = some y := by unfold Trio at h; simp [World.cell?, h]
theorem Trio.c2 (h : Trio g t x y z w) : w.cell? ⟨g, 2, none⟩ = some z := by unfold Trio at h; simp [World.cell?, h]
theorem Trio.free (h : Trio g t x y z w) (i : Nat) : w.frozen? ⟨g, i, none⟩ = false := by unfold Trio at h; simp [World.frozen?, h]
theorem Trio.later (h : Trio g t x y z w) (hb : Below w.heap.size w w') : Trio g t x y z w' := (hb.block g h.lt).trans h
/-- Whatever else is read lies elsewhere. -/
theorem Trio.ne_ (h : Trio g t x y z w) {b i : Nat} {u : Value} (hu : w.cell? ⟨b, i, none⟩ = some u) (h0 : u ≠ x) (h1 : u ≠ y) (h2 : u ≠ z) : b ≠ g := by
  rintro rfl
  unfold Trio at h
  simp only [World.cell?, h] at hu
  match i, hu with
  | 0, hu => simp at hu; exact h0 hu.symm
  | 1, hu => simp at hu; exact h1 hu.symm
  | 2, hu => simp at hu; exact h2 hu.symm
  | i + 3, hu => simp at hu
end

/-- What is read beside a checker's block, whose cells are a slice, an int and a map: numbers of eight bits and texts tell that they lie elsewhere. -/
theorem Tys.keep {g : Nat} {t : TypeId} {x z : Value} {p : Int} {w w' : World} {v : Value} {l : List Ty} (h : Tys w v l) (hk : Keep g w w') (ht : Trio g t x (.int .i64 p) z w) (hx : ∀ s, x ≠ .string s) (hz : ∀ s, z ≠ .string s) : Tys w' v l := by
  rcases h with h | ⟨b, c, hv, hc⟩
  · exact .inl h
  · exact .inr ⟨b, c, hv, fun i hi => hk.cell (hc i hi) (ht.ne_ (hc i hi) (fun e => hx _ e.symm) (by simp) (fun e => hz _ e.symm))⟩
theorem Tys.later {w w' : World} {v : Value} {l : List Ty} (h : Tys w v l) (hb : Below w.heap.size w w') : Tys w' v l := by
  rcases h with h | ⟨b, c, hv, hc⟩
  · exact .inl h
  · exact .inr ⟨b, c, hv, fun i hi => cell_later hb (hc i hi)⟩
/-- A row of the call's own reads so. -/
theorem Tys.own {w : World} {base : Nat} {e : TypeId} {v : Value} {n : Nat} {l : List Ty} (h : w.ownsRow base e 1 v n (l.map fun t => .string t.str)) : Tys w v l := by
  have hl : n = l.length := by have := h.1; simp at this; omega
  subst hl
  rcases h.2 with ⟨rfl, h0⟩ | ⟨g, cap, cur, rfl, hb, hh, hc, _, hsz, htk⟩
  · exact .inl ⟨List.eq_nil_of_length_eq_zero h0, rfl⟩
  · refine .inr ⟨g, cap, rfl, fun i hi => ?_⟩
    rw [h.cellAt i (by omega)]
    simp [hi]
theorem NodesAt.later {w w' : World} {b off : Nat} {l : List Nd} (h : NodesAt w b off l) (hb : Below w.heap.size w w') : NodesAt w' b off l := fun i x hx j u hu => cell_later hb (h i x hx j u hu)
theorem Nodes.later {w w' : World} {v : Value} {l : List Nd} (h : Nodes w v l) (hb : Below w.heap.size w w') : Nodes w' v l := by
  obtain ⟨A, c, hv, hl, hh⟩ := h
  refine ⟨A, c, hv, hl, fun h0 => ?_⟩
  obtain ⟨b, off, hA, hc⟩ := hh h0
  exact ⟨b, off, hA, hc.later hb⟩
theorem Nodes.keep {g : Nat} {t : TypeId} {x z : Value} {p : Int} {w w' : World} {v : Value} {l : List Nd} (h : Nodes w v l) (hk : Keep g w w') (ht : Trio g t x (.int .i64 p) z w)
    (hx : ∀ k n, x ≠ .int k n) (hz : ∀ k n, z ≠ .int k n) : Nodes w' v l := by
  obtain ⟨A, c, hv, hl, hh⟩ := h
  refine ⟨A, c, hv, hl, fun h0 => ?_⟩
  obtain ⟨b, off, hA, hc⟩ := hh h0
  refine ⟨b, off, hA, fun i y hy j u hu => hk.cell (hc i y hy j u hu) ?_⟩
  have h8 := hc i y hy 0 _ rfl
  exact ht.ne_ h8 (fun e => hx _ _ e.symm) (by simp) (fun e => hz _ _ e.symm)
/-- The cells of the node at a place. -/
theorem NodesAt.at_ {w : World} {b off : Nat} {l : List Nd} (h : NodesAt w b off l) {i : Nat} {x : Nd} (hx : l[i]? = some x) :
    w.cell? ⟨b, off + i * 8, none⟩ = some (.int .i8 x.kind) ∧ w.cell? ⟨b, off + i * 8 + 1, none⟩ = some (.int .i64 x.kids) ∧ w.cell? ⟨b, off + i * 8 + 2, none⟩ = some (.int .i64 x.n) ∧ w.cell? ⟨b, off + i * 8 + 3, none⟩ = some (.string x.s) ∧
    w.cell? ⟨b, off + i * 8 + 4, none⟩ = some (.string x.t) ∧ w.cell? ⟨b, off + i * 8 + 5, none⟩ = some (.string x.u) ∧ w.cell? ⟨b, off + i * 8 + 6, none⟩ = some (.int .i64 x.line) ∧ w.cell? ⟨b, off + i * 8 + 7, none⟩ = some (.int .i64 x.col) :=
  ⟨h i x hx 0 _ rfl, h i x hx 1 _ rfl, h i x hx 2 _ rfl, h i x hx 3 _ rfl, h i x hx 4 _ rfl, h i x hx 5 _ rfl, h i x hx 6 _ rfl, h i x hx 7 _ rfl⟩
end Culp

/- Walks of the reference's types as texts (culpritref04), and of culpritref00.Deep. -/
namespace Go.Proofs.YtidholghbjljaaaGreatDoor
set_option linter.unusedSimpArgs false
set_option linter.unusedVariables false
open Go.RowKit Culp

theorem byte_cases (c : UInt8) : c = 105 ∨ c = 98 ∨ c = 116 ∨ c = 63 ∨ c = 108 ∨ c = 120 ∨ c = 62 ∨ c = 44 ∨
    (ari c = none ∧ ((c.toNat : Int) == 105) = false ∧ ((c.toNat : Int) == 98) = false ∧ ((c.toNat : Int) == 116) = false ∧ ((c.toNat : Int) == 63) = false ∧
      ((c.toNat : Int) == 108) = false ∧ ((c.toNat : Int) == 120) = false ∧ ((c.toNat : Int) == 62) = false ∧ ((c.toNat : Int) == 44) = false) := by
  by_cases h1 : c = 105; · exact .inl h1
  by_cases h2 : c = 98; · exact .inr (.inl h2)
  by_cases h3 : c = 116; · exact .inr (.inr (.inl h3))
  by_cases h4 : c = 63; · exact .inr (.inr (.inr (.inl h4)))
  by_cases h5 : c = 108; · exact .inr (.inr (.inr (.inr (.inl h5))))
  by_cases h6 : c = 120; · exact .inr (.inr (.inr (.inr (.inr (.inl h6)))))
  by_cases h7 : c = 62; · exact .inr (.inr (.inr (.inr (.inr (.inr (.inl h7))))))
  by_cases h8 : c = 44; · exact .inr (.inr (.inr (.inr (.inr (.inr (.inr (.inl h8)))))))
  refine .inr (.inr (.inr (.inr (.inr (.inr (.inr (.inr ⟨?_, ?_⟩)))))))
  · simp [ari, h1, h2, h3, h4, h5, h6, h7, h8]
  · have e := fun n => u8_eq_iff c n
    have a1 := e 105; have a2 := e 98; have a3 := e 116; have a4 := e 63; have a5 := e 108; have a6 := e 120; have a7 := e 62; have a8 := e 44
    simp at a1 a2 a3 a4 a5 a6 a7 a8
    refine ⟨?_, ?_, ?_, ?_, ?_, ?_, ?_, ?_⟩ <;> rw [beq_eq_false_iff_ne] <;> simp_all

set_option maxHeartbeats 400000 in
theorem Deep_any (s : ByteArray) (w : World) (hs : s.size ≤ 1000000000000000) : Calls Tryz.prog 84 #[.string s] w (SomeBool w) := by
  go_enter Tryz.func84, Tryz.ntmps84
  go_wp2
  go_loop [3, 4] (fun m i => ∃ j n : Nat, j ≤ s.size ∧ n ≤ 13 ∧ i = .int .i64 j ∧ m = .int .i64 n) (fun _ i => s.size - (intOf i).toNat)
  case atStart => exact ⟨0, 0, by omega, by omega, rfl, rfl⟩
  case round =>
    obtain ⟨j, n, hj, hn, rfl, rfl⟩ := hrel
    by_cases hlt : j < s.size
    · by_cases hn' : n ≤ 12
      · go_wp2
        · go_round
          case rel => exact ⟨j + 1, n + 1, by omega, by omega, by go_num, by go_num⟩
          case measure => simp [intOf]; omega
        · go_round
          case rel => exact ⟨j + 1, n, by omega, by omega, by go_num, rfl⟩
          case measure => simp [intOf]; omega
      · go_wp2
        go_ret
        exact ⟨_, rfl, rfl⟩
    · go_wp2
      go_ret
      exact ⟨_, rfl, rfl⟩



end Go.Proofs.YtidholghbjljaaaGreatDoor
