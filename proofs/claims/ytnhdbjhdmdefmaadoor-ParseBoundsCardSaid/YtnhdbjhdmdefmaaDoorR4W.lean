
/- Plain facts on types as texts of letters: no program in sight. -/
import Derived.Below
import Derived.WalkKit
import Derived.WalkSpells
import Derived.WalkLawsBesides
import Derived.Lib.Hide
import Derived.Calls
import Derived.Laws.Sem
import Derived.OrdersHeld
import Derived.Deep.RegionHeld
import Derived.StillTail
import Derived.Test.YtnhdbjhdmdefmaaDoorRows
import Derived.Lib.SlBytesRow
namespace Culp
set_option linter.unusedSimpArgs false
set_option linter.unusedVariables false

/-- The number of parts of a head. -/
def ari (c : UInt8) : Option Nat :=
  if c = 105 ∨ c = 98 ∨ c = 116 ∨ c = 63 then some 0
  else if c = 108 ∨ c = 120 then some 1
  else if c = 62 ∨ c = 44 then some 2
  else none

/-- The same as Go's number: -1 where it is no head. -/
def arI (c : Int) : Int :=
  if c = 105 ∨ c = 98 ∨ c = 116 ∨ c = 63 then 0
  else if c = 108 ∨ c = 120 then 1
  else if c = 62 ∨ c = 44 then 2
  else -1

theorem arI_bounds (c : Int) : -1 ≤ arI c ∧ arI c ≤ 2 := by
  unfold arI; repeat' split <;> omega

theorem u8_eq_iff (c : UInt8) (n : UInt8) : ((c.toNat : Int) = (n.toNat : Int)) ↔ c = n := by
  constructor
  · intro h; exact UInt8.toNat_inj.1 (by omega)
  · rintro rfl; rfl

theorem arI_none {c : UInt8} (h : ari c = none) : arI c.toNat = -1 := by
  unfold ari at h
  unfold arI
  have e := fun n => u8_eq_iff c n
  have a1 := e 105; have a2 := e 98; have a3 := e 116; have a4 := e 63; have a5 := e 108; have a6 := e 120; have a7 := e 62; have a8 := e 44
  simp at a1 a2 a3 a4 a5 a6 a7 a8
  simp only [a1, a2, a3, a4, a5, a6, a7, a8]
  split at h
  · cases h
  · split at h
    · cases h
    · split at h
      · cases h
      · simp_all

theorem arI_some {c : UInt8} {k : Nat} (h : ari c = some k) : arI c.toNat = k := by
  unfold ari at h
  unfold arI
  have e := fun n => u8_eq_iff c n
  have a1 := e 105; have a2 := e 98; have a3 := e 116; have a4 := e 63; have a5 := e 108; have a6 := e 120; have a7 := e 62; have a8 := e 44
  simp at a1 a2 a3 a4 a5 a6 a7 a8
  simp only [a1, a2, a3, a4, a5, a6, a7, a8]
  split at h
  · rename_i g; rw [if_pos g]; cases h; rfl
  · rename_i g1
    rw [if_neg g1]
    split at h
    · rename_i g; rw [if_pos g]; cases h; rfl
    · rename_i g2
      rw [if_neg g2]
      split at h
      · rename_i g; rw [if_pos g]; cases h; rfl
      · cases h

/-- What is left behind so many types. -/
def eat : List UInt8 → Nat → Option (List UInt8)
  | l, 0 => some l
  | [], _ + 1 => none
  | c :: l, n + 1 => match ari c with
    | none => none
    | some k => eat l (n + k)

@[simp] theorem eat_zero (l : List UInt8) : eat l 0 = some l := by cases l <;> rfl
@[simp] theorem eat_nil (n : Nat) : eat [] (n + 1) = none := rfl
theorem eat_cons (c : UInt8) (l : List UInt8) (n : Nat) : eat (c :: l) (n + 1) = match ari c with | none => none | some k => eat l (n + k) := rfl

theorem eat_none {c : UInt8} (l : List UInt8) (n : Nat) (h : ari c = none) : eat (c :: l) (n + 1) = none := by rw [eat_cons, h]
theorem eat_some {c : UInt8} {k : Nat} (l : List UInt8) (n : Nat) (h : ari c = some k) : eat (c :: l) (n + 1) = eat l (n + k) := by rw [eat_cons, h]

theorem eat_length {l r : List UInt8} : ∀ {n : Nat}, eat l n = some r → r.length ≤ l.length := by
  induction l with
  | nil => intro n h; cases n with
    | zero => simp at h; subst h; simp
    | succ n => simp at h
  | cons c l ih => intro n h; cases n with
    | zero => simp at h; subst h; simp
    | succ n =>
      cases ha : ari c with
      | none => rw [eat_none _ _ ha] at h; cases h
      | some k => rw [eat_some _ _ ha] at h; have := ih h; simp; omega

theorem eat_suffix {l r : List UInt8} : ∀ {n : Nat}, eat l n = some r → r = l.drop (l.length - r.length) := by
  induction l with
  | nil => intro n h; cases n with
    | zero => simp at h; subst h; simp
    | succ n => simp at h
  | cons c l ih => intro n h; cases n with
    | zero => simp at h; subst h; simp
    | succ n =>
      cases ha : ari c with
      | none => rw [eat_none _ _ ha] at h; cases h
      | some k =>
        rw [eat_some _ _ ha] at h
        have h1 := ih h
        have h2 := eat_length h
        rw [show (c :: l).length - r.length = (l.length - r.length) + 1 by simp; omega]
        simpa using h1

/-- The drop at a place, opened. -/
theorem drop_cons {s : List UInt8} {k : Nat} (h : k < s.length) : s.drop k = s[k] :: s.drop (k + 1) := List.drop_eq_getElem_cons h

/-- Types as trees. -/
inductive Ty where
  | int | bool | text | dyn
  | fn (a b : Ty) | pair (a b : Ty)
  | list (a : Ty) | box (a : Ty)
  deriving DecidableEq

/-- A type's letters. -/
def Ty.enc : Ty → List UInt8
  | .int => [105] | .bool => [98] | .text => [116] | .dyn => [63]
  | .fn a b => 62 :: (a.enc ++ b.enc) | .pair a b => 44 :: (a.enc ++ b.enc)
  | .list a => 108 :: a.enc | .box a => 120 :: a.enc

def Ty.encs (l : List Ty) : List UInt8 := (l.map Ty.enc).flatten

theorem Ty.enc_pos (t : Ty) : 0 < t.enc.length := by cases t <;> simp [Ty.enc]

theorem eat_enc (t : Ty) : ∀ (n : Nat) (r : List UInt8), eat (t.enc ++ r) (n + 1) = eat r n := by
  induction t with
  | int | bool | text | dyn => intro n r; simp [Ty.enc, eat_cons, ari]
  | fn a b iha ihb | pair a b iha ihb =>
    intro n r
    simp only [Ty.enc, List.cons_append, List.append_assoc]
    rw [eat_some (k := 2) _ _ (by simp [ari]), show n + 2 = (n + 1) + 1 by omega, iha, ihb]
  | list a iha | box a iha =>
    intro n r
    simp only [Ty.enc, List.cons_append]
    rw [eat_some (k := 1) _ _ (by simp [ari]), iha]

theorem eat_encs (l : List Ty) (r : List UInt8) : eat (Ty.encs l ++ r) l.length = some r := by
  induction l with
  | nil => simp [Ty.encs]
  | cons t l ih =>
    have e : Ty.encs (t :: l) ++ r = t.enc ++ (Ty.encs l ++ r) := by simp [Ty.encs]
    rw [e, List.length_cons, eat_enc, ih]

theorem ari_cases {c : UInt8} {k : Nat} (h : ari c = some k) :
    (k = 0 ∧ (c = 105 ∨ c = 98 ∨ c = 116 ∨ c = 63)) ∨ (k = 1 ∧ (c = 108 ∨ c = 120)) ∨ (k = 2 ∧ (c = 62 ∨ c = 44)) := by
  unfold ari at h
  split at h
  · left; cases h; exact ⟨rfl, by assumption⟩
  · split at h
    · right; left; cases h; exact ⟨rfl, by assumption⟩
    · split at h
      · right; right; cases h; exact ⟨rfl, by assumption⟩
      · cases h

theorem encs_of_eat : ∀ (l : List UInt8) (n : Nat) (r : List UInt8), eat l n = some r → ∃ ts : List Ty, ts.length = n ∧ l = Ty.encs ts ++ r := by
  intro l
  induction l with
  | nil =>
    intro n r h
    cases n with
    | zero => simp at h; subst h; exact ⟨[], rfl, by simp [Ty.encs]⟩
    | succ n => simp at h
  | cons c l ih =>
    intro n r h
    cases n with
    | zero => simp at h; subst h; exact ⟨[], rfl, by simp [Ty.encs]⟩
    | succ n =>
      cases ha : ari c with
      | none => rw [eat_none _ _ ha] at h; cases h
      | some k =>
        rw [eat_some _ _ ha] at h
        obtain ⟨ts, hl, rfl⟩ := ih _ _ h
        rcases ari_cases ha with ⟨rfl, hc⟩ | ⟨rfl, hc⟩ | ⟨rfl, hc⟩
        · rcases hc with rfl | rfl | rfl | rfl
          · exact ⟨.int :: ts, by simp [hl], by simp [Ty.encs, Ty.enc]⟩
          · exact ⟨.bool :: ts, by simp [hl], by simp [Ty.encs, Ty.enc]⟩
          · exact ⟨.text :: ts, by simp [hl], by simp [Ty.encs, Ty.enc]⟩
          · exact ⟨.dyn :: ts, by simp [hl], by simp [Ty.encs, Ty.enc]⟩
        · match ts, hl with
          | t :: ts, hl =>
            rcases hc with rfl | rfl
            · exact ⟨.list t :: ts, by simpa using hl, by simp [Ty.encs, Ty.enc]⟩
            · exact ⟨.box t :: ts, by simpa using hl, by simp [Ty.encs, Ty.enc]⟩
        · match ts, hl with
          | t :: u :: ts, hl =>
            rcases hc with rfl | rfl
            · exact ⟨.fn t u :: ts, by simpa using hl, by simp [Ty.encs, Ty.enc]⟩
            · exact ⟨.pair t u :: ts, by simpa using hl, by simp [Ty.encs, Ty.enc]⟩

theorem eat_one {l r : List UInt8} (h : eat l 1 = some r) : ∃ t : Ty, l = t.enc ++ r := by
  obtain ⟨ts, hl, rfl⟩ := encs_of_eat l 1 r h
  match ts, hl with
  | [t], _ => exact ⟨t, by simp [Ty.encs]⟩

theorem eat_enc_one (t : Ty) (r : List UInt8) : eat (t.enc ++ r) 1 = some r := by rw [eat_enc]; simp

theorem enc_append_inj {t u : Ty} {r q : List UInt8} (h : t.enc ++ r = u.enc ++ q) : t = u ∧ r = q := by
  have hr : r = q := by
    have h1 := eat_enc_one t r
    rw [h, eat_enc_one] at h1
    exact (Option.some.inj h1).symm
  subst hr
  have h2 := List.append_cancel_right h
  refine ⟨?_, rfl⟩
  clear h
  induction t generalizing u with
  | int | bool | text | dyn => cases u <;> simp_all [Ty.enc]
  | fn a b iha ihb =>
    cases u <;> simp [Ty.enc] at h2
    rename_i c d
    have h3 := eat_enc_one a b.enc
    rw [h2, eat_enc_one] at h3
    have h4 := Option.some.inj h3
    rw [h4] at h2
    rw [iha (List.append_cancel_right h2), ihb h4.symm]
  | pair a b iha ihb =>
    cases u <;> simp [Ty.enc] at h2
    rename_i c d
    have h3 := eat_enc_one a b.enc
    rw [h2, eat_enc_one] at h3
    have h4 := Option.some.inj h3
    rw [h4] at h2
    rw [iha (List.append_cancel_right h2), ihb h4.symm]
  | list a iha | box a iha =>
    cases u <;> simp [Ty.enc] at h2
    rw [iha h2]

theorem enc_inj {t u : Ty} (h : t.enc = u.enc) : t = u := (enc_append_inj (r := []) (q := []) (by simpa using h)).1

/-- A text is a type. -/
def isTy (l : List UInt8) : Bool := decide (l.length ≤ 64) && (eat l 1 == some [])

theorem isTy_iff (l : List UInt8) : isTy l = true ↔ ∃ t : Ty, l = t.enc ∧ t.enc.length ≤ 64 := by
  unfold isTy
  simp only [Bool.and_eq_true, decide_eq_true_eq, beq_iff_eq]
  constructor
  · rintro ⟨h1, h2⟩
    obtain ⟨t, ht⟩ := eat_one h2
    simp at ht
    exact ⟨t, ht, by rw [← ht]; exact h1⟩
  · rintro ⟨t, rfl, h⟩
    exact ⟨h, by simpa using eat_enc_one t []⟩

theorem isTy_enc (t : Ty) (h : t.enc.length ≤ 64) : isTy t.enc = true := (isTy_iff _).2 ⟨t, rfl, h⟩

/-- The first letter. -/
def Ty.hd : Ty → UInt8
  | .int => 105 | .bool => 98 | .text => 116 | .dyn => 63 | .fn _ _ => 62 | .pair _ _ => 44 | .list _ => 108 | .box _ => 120
/-- The parts. -/
def Ty.kids : Ty → List Ty
  | .int => [] | .bool => [] | .text => [] | .dyn => [] | .fn a b => [a, b] | .pair a b => [a, b] | .list a => [a] | .box a => [a]
theorem enc_kids (t : Ty) : t.enc = t.hd :: Ty.encs t.kids := by cases t <;> simp [Ty.enc, Ty.hd, Ty.kids, Ty.encs]
theorem encs_cons (k : Ty) (l : List Ty) : Ty.encs (k :: l) = k.enc ++ Ty.encs l := by simp [Ty.encs]
theorem encs_append (k l : List Ty) : Ty.encs (k ++ l) = Ty.encs k ++ Ty.encs l := by simp [Ty.encs]
/-- A type's text. -/
def Ty.str (t : Ty) : ByteArray := ⟨t.enc.toArray⟩
theorem str_list (t : Ty) : t.str.data.toList = t.enc := by simp [Ty.str]
theorem str_size (t : Ty) : t.str.size = t.enc.length := by simp [Ty.str, ByteArray.size]
/-- A type that is not too long. -/
def Ty.fits (t : Ty) : Prop := t.enc.length ≤ 64
theorem ty_of (s : ByteArray) (h : isTy s.data.toList = true) : ∃ t : Ty, s = t.str ∧ t.fits := by
  obtain ⟨t, h1, h2⟩ := (isTy_iff _).1 h
  refine ⟨t, ?_, h2⟩
  unfold Ty.str
  rw [← h1]


/-- The ground. -/
def Ty.gnd : Ty → Ty
  | .fn _ _ => .fn .dyn .dyn | .pair _ _ => .pair .dyn .dyn | .list _ => .list .dyn | .box _ => .box .dyn | t => t
def Ty.sz : Ty → Nat
  | .int => 1 | .bool => 1 | .text => 1 | .dyn => 1 | .fn a b => 1 + a.sz + b.sz | .pair a b => 1 + a.sz + b.sz | .list a => 1 + a.sz | .box a => 1 + a.sz
theorem Ty.sz_pos (t : Ty) : 0 < t.sz := by cases t <;> simp [Ty.sz] <;> omega
theorem Ty.sz_enc (t : Ty) : t.sz = t.enc.length := by induction t <;> simp [Ty.sz, Ty.enc] <;> omega

theorem kids_sz {t k : Ty} (h : k ∈ t.kids) : k.sz < t.sz := by
  cases t <;> simp [Ty.kids] at h
  all_goals first | (rcases h with rfl | rfl <;> simp only [Ty.sz] <;> omega) | (subst h; simp only [Ty.sz]; omega)

end Culp

/- Memory: small laws for what a call makes. No program in sight. -/
namespace Culp
set_option linter.unusedSimpArgs false
set_option linter.unusedVariables false
open Go Go.RowKit

/-- One more element onto a row of the call's own; the element lies in a block that was just made for it. -/
theorem append_one {P : Program} {w : World} {ops : Array Oper} {rest : List Oper} {o : Oper} {a : Act} {Q : Exit → Act → World → Prop} (hgd : o.guard = none) (s x : Operand) (t e : TypeId)
    (ho : o.op = .call { callee := .builtin .append, args := #[s, x], argTypes := #[t, t] })
    (base : Nat) (z : Value) (bytes : Nat) (ht : P.underlying t = some (.slice e)) (hi : (P.info? e).map (fun i => (i.zero, i.size, i.bytes)) = some (some z, 1, bytes))
    (hzs : z.cells.size = 1)
    (v : Value) (n : Nat) (xs : List Value) (hs : a.eval s = v) (hown : w.ownsRow base e 1 v n xs) (u : Value)
    (hx : a.eval x = .slice (some ⟨w.heap.size, 0, none⟩) 1 1) (h1 : u.oneCell' = true)
    (h63 : n + 1 ≤ 1000000000000000) (hbytes : (n + 1) * bytes ≤ 140737488355328) (hbase : base ≤ w.heap.size)
    (h : ∀ v' w', w'.ownsRow base e 1 v' (n + 1) (xs ++ [u]) → w.grownBy w' v.ownBlock → Below base w w' → wpList P ops Q rest (a.put o.dst v') w') :
    wpList P ops Q (o :: rest) a (w.alloc (.cells #[u] e)) := by
  obtain ⟨i, hi, hz, hz1, hz2⟩ := info_parts hi
  refine wpList_append_own _ hgd s x t ho base e i z 1 bytes ht hi hz hz1 hz2 hzs (by decide) v n xs hs (hown.alloc _) ⟨w.heap.size, 0, none⟩ 1 1 [u] hx rfl ?_ ?_ (by unfold maxLen; omega) hbytes (by simp; omega) ?_
  · intro j u' hj
    match j, hj with
    | 0, hj => simp at hj; subst hj; simp [Addr.add]
  · intro u' hu; simp at hu; subst hu; exact h1
  · intro v' w' hown' hg _
    have hg' : w.grownBy w' v.ownBlock :=
      { os := hg.os, tape := hg.tape, output := hg.output,
        size := by have := hg.size; simp at this; omega,
        block := fun k hk hne => by
          rw [hg.block k (by simp; omega) hne]
          exact Below.heap_alloc _ _ _ hk }
    refine h v' w' hown' hg' ((Below.refl base w).grown hg' hbase fun k hk => ?_)
    have := hown.lt k hk
    omega

/-- A slice of one-cell elements that reads as a list: its address (if it has elements), and its cells. -/
theorem own_read {w : World} {base : Nat} {e : TypeId} {v : Value} {n : Nat} {xs : List Value} (h : w.ownsRow base e 1 v n xs) (hn : 0 < n) :
    ∃ g cap, v = .slice (some ⟨g, 0, none⟩) n cap ∧ base ≤ g ∧ g < w.heap.size ∧ n ≤ cap ∧ xs.length = n ∧ ∀ j u, xs[j]? = some u → w.cell? ⟨g, j, none⟩ = some u := by
  have hl : xs.length = n := by have := h.1; omega
  rcases h.2 with ⟨_, rfl⟩ | ⟨g, cap, cur, rfl, hb, hh, hc, _, hsz, htk⟩
  · omega
  · refine ⟨g, cap, rfl, hb, ?_, hc, hl, fun j u hj => ?_⟩
    · exact (h.lt g rfl).2
    · have hjl : j < n := by
        have := (List.getElem?_eq_some_iff.1 hj).1
        omega
      rw [h.cellAt j (by omega)]; exact hj
/-- The slice itself, and its cells where it has any. -/
theorem own_form {w : World} {base : Nat} {e : TypeId} {v : Value} {n : Nat} {xs : List Value} (h : w.ownsRow base e 1 v n xs) :
    ∃ A c, v = .slice A n c ∧ xs.length = n ∧ (0 < n → ∃ g, A = some ⟨g, 0, none⟩ ∧ base ≤ g ∧ ∀ j u, xs[j]? = some u → w.cell? ⟨g, j, none⟩ = some u) := by
  rcases Nat.eq_zero_or_pos n with h0 | h0
  · subst h0
    have hl : xs.length = 0 := by have := h.1; omega
    rcases h.2 with ⟨rfl, _⟩ | ⟨g, cap, cur, rfl, _⟩
    · exact ⟨none, 0, rfl, hl, fun h => by omega⟩
    · exact ⟨_, cap, rfl, hl, fun h => by omega⟩
  · obtain ⟨g, cap, rfl, hb, _, _, hl, hc⟩ := own_read h h0
    exact ⟨_, cap, rfl, hl, fun _ => ⟨g, rfl, hb, hc⟩⟩
/-- Many more elements, the source nil or not. -/
theorem run_append_none {P : Program} (w : World) (base : Nat) (t ty e : TypeId) (i : TypeInfo) (size : Nat) (ht : P.underlying t = some (.slice e)) (hi : P.info? e = some i)
    (v : Value) (n : Nat) (xs : List Value) (hown : w.ownsRow base e size v n xs) (c : Nat) : (Builtin.append_ #[t, t] ty #[v, .slice none 0 c]).run P w = .ok v w := by
  rcases hown.2 with ⟨rfl, rfl⟩ | ⟨g, cap, cur, rfl, _, _, hnc, _⟩
  · simp [Builtin.append_, run_underlying ht, Go.sizeOf, typeInfo, hi, Builtin.lenOf, Builtin.firstCells]
  · simp [Builtin.append_, run_underlying ht, Go.sizeOf, typeInfo, hi, Builtin.lenOf, Builtin.firstCells, hnc, storeCells]
theorem append_many {P : Program} {w : World} {ops : Array Oper} {rest : List Oper} {o : Oper} {a : Act} {Q : Exit → Act → World → Prop} (hgd : o.guard = none) (s x : Operand) (t e : TypeId)
    (ho : o.op = .call { callee := .builtin .append, args := #[s, x], argTypes := #[t, t] })
    (base : Nat) (z : Value) (bytes : Nat) (ht : P.underlying t = some (.slice e)) (hi : (P.info? e).map (fun i => (i.zero, i.size, i.bytes)) = some (some z, 1, bytes))
    (hzs : z.cells.size = 1)
    (v : Value) (n : Nat) (xs : List Value) (hs : a.eval s = v) (hown : w.ownsRow base e 1 v n xs)
    (A : Option Addr) (m c : Nat) (news : List Value) (hx : a.eval x = .slice A m c) (hl : news.length = m)
    (hA : 0 < m → ∃ g, A = some ⟨g, 0, none⟩ ∧ ∀ i u, news[i]? = some u → w.cell? ⟨g, i, none⟩ = some u) (h1 : ∀ u ∈ news, u.oneCell' = true)
    (h63 : n + m ≤ 1000000000000000) (hbytes : (n + m) * bytes ≤ 140737488355328) (hbase : base ≤ w.heap.size)
    (hnil : m = 0 → A = none ∨ ∃ g, A = some ⟨g, 0, none⟩)
    (h : ∀ v' w', w'.ownsRow base e 1 v' (n + m) (xs ++ news) → w.grownBy w' v.ownBlock → Below base w w' → wpList P ops Q rest (a.put o.dst v') w') :
    wpList P ops Q (o :: rest) a w := by
  obtain ⟨i, hi, hz, hz1, hz2⟩ := info_parts hi
  have key : ∀ g, A = some ⟨g, 0, none⟩ → wpList P ops Q (o :: rest) a w := fun g hg => by
    subst hg
    refine wpList_append_own _ hgd s x t ho base e i z 1 bytes ht hi hz hz1 hz2 hzs (by decide) v n xs hs hown ⟨g, 0, none⟩ m c news hx (by omega) ?_ h1 (by unfold maxLen; omega) hbytes hbase ?_
    · intro j u hj
      have hjl := (List.getElem?_eq_some_iff.1 hj).1
      obtain ⟨g', e', hc⟩ := hA (by omega)
      have hgg : g' = g := by injection e' with e'; injection e' with e'; exact e'.symm
      subst hgg
      have := hc j u hj
      have e1 : (⟨g', 0, none⟩ : Addr).add j = ⟨g', j, none⟩ := by
        unfold Addr.add
        split
        · rename_i h0; subst h0; rfl
        · simp
      rw [e1]; exact this
    · intro v' w' hown' hg _
      refine h v' w' hown' hg ((Below.refl base w).grown hg hbase fun k hk => ?_)
      exact (hown.lt k hk).1
  rcases Nat.eq_zero_or_pos m with h0 | h0
  · rcases hnil h0 with hn | ⟨g, hg⟩
    · subst hn
      subst h0
      have hn0 : news = [] := List.eq_nil_of_length_eq_zero hl
      subst hn0
      refine wpList_plain hgd fun K hK => ?_
      unfold Oper.wp execOp
      simp only [ho, resolve, invoke, builtin, Sem.run_bind, Sem.run_pure, Result.andThen_ok, List.map_toArray, List.map_cons, List.map_nil, hs, hx, run_append_none w base t _ e i 1 ht hi v n xs hown c]
      exact hK _ _ (h v w (by simpa using hown) (World.grownBy.refl w _) (Below.refl _ _))
    · exact key g hg
  · obtain ⟨g, hg, _⟩ := hA h0
    exact key g hg
/-- Two slices of two texts each, as a call finds them. -/
theorem own_two {w : World} {base : Nat} {e : TypeId} {v x y : Value} {n : Nat} {xs : List Value} (h : w.ownsRow base e 1 v n xs) (hx : xs = [x, y]) :
    ∃ g cap, v = .slice (some ⟨g, 0, none⟩) 2 cap ∧ w.cell? ⟨g, 0, none⟩ = some x ∧ w.cell? ⟨g, 1, none⟩ = some y := by
  subst hx
  have hn : n = 2 := by have := h.1; simp at this; omega
  subst hn
  obtain ⟨g, cap, rfl, _, _, _, _, hc⟩ := own_read h (by omega)
  exact ⟨g, cap, rfl, hc 0 x rfl, hc 1 y rfl⟩
theorem own_single {w : World} {base : Nat} {e : TypeId} {v x : Value} {n : Nat} {xs : List Value} (h : w.ownsRow base e 1 v n xs) (hx : xs = [x]) :
    ∃ g cap, v = .slice (some ⟨g, 0, none⟩) 1 cap ∧ w.cell? ⟨g, 0, none⟩ = some x := by
  subst hx
  have hn : n = 1 := by have := h.1; simp at this; omega
  subst hn
  obtain ⟨g, cap, rfl, _, _, _, _, hc⟩ := own_read h (by omega)
  exact ⟨g, cap, rfl, hc 0 x rfl⟩

end Culp

/- Memory: what a call may change beside what it makes. No program in sight. -/
namespace Culp
set_option linter.unusedSimpArgs false
set_option linter.unusedVariables false
open Go Go.RowKit

/-- All that was there stays, but for one block. -/
structure Keep (g : Nat) (w w' : World) : Prop where
  os : w'.os = w.os
  tape : w'.tape = w.tape
  output : w'.output = w.output
  size : w.heap.size ≤ w'.heap.size
  block : ∀ k, k < w.heap.size → k ≠ g → w'.heap[k]? = w.heap[k]?
theorem Keep.refl (g : Nat) (w : World) : Keep g w w := ⟨rfl, rfl, rfl, Nat.le_refl _, fun _ _ _ => rfl⟩
theorem Keep.trans {g : Nat} {a b c : World} (h : Keep g a b) (k : Keep g b c) : Keep g a c :=
  ⟨k.os.trans h.os, k.tape.trans h.tape, k.output.trans h.output, Nat.le_trans h.size k.size, fun i hi hg => (k.block i (Nat.lt_of_lt_of_le hi h.size) hg).trans (h.block i hi hg)⟩
theorem Keep.of {g : Nat} {w w' : World} (h : Below w.heap.size w w') : Keep g w w' := ⟨h.os, h.tape, h.output, h.size, fun k hk _ => h.block k hk⟩
theorem Keep.cell {g : Nat} {w w' : World} (h : Keep g w w') {a : Addr} {v : Value} (hv : w.cell? a = some v) (hg : a.block ≠ g) : w'.cell? a = some v := by
  have hlt := World.block_lt_of_cell? w a hv
  rw [World.cell?_of_block (w := w) (h.block a.block hlt hg)]
  exact hv
theorem Keep.drew {g : Nat} {a w : World} (h : Keep g a w) : Keep g a w.drew := ⟨h.os, h.tape, h.output, h.size, h.block⟩
theorem Keep.setCell {g : Nat} {a w : World} (h : Keep g a w) (i : Nat) (u : Value) : Keep g a (w.setCell ⟨g, i, none⟩ u) :=
  ⟨h.os, h.tape, h.output, by have := h.size; simpa [World.setCell] using this, fun k hk hg => by rw [Below.heap_setCell _ _ _ _ hg]; exact h.block k hk hg⟩
theorem Keep.alloc {g : Nat} {a w : World} (h : Keep g a w) (o : Obj) : Keep g a (w.alloc o) :=
  ⟨h.os, h.tape, h.output, by have := h.size; simp; omega, fun k hk hg => by rw [Below.heap_alloc _ _ _ (Nat.lt_of_lt_of_le hk h.size)]; exact h.block k hk hg⟩
/-- What was made since may be what has changed. -/
theorem Keep.below {g : Nat} {w w' : World} (h : Keep g w w') (hg : w.heap.size ≤ g) : Below w.heap.size w w' := ⟨h.os, h.tape, h.output, h.size, fun k hk => h.block k hk (by omega)⟩

end Culp

/- A statement that leaves its order open, walked in one order: what only looks is done as soon as it may come up, what acts comes up alone. No program in sight. -/
namespace Culp
set_option linter.unusedSimpArgs false
set_option linter.unusedVariables false
open Go

/-- Is this a fair order? 'true': it only looks; 'false': it acts, and nothing else may come up then. -/
def planOk (ops : Array Oper) : Array Bool → List (Nat × Bool) → Bool
  | listed, [] => (Region.ready .any ops listed).isEmpty
  | listed, (i, true) :: l => Region.free .any ops listed i && (Region.ready .any ops listed).contains i && planOk ops (listed.setIfInBounds i true) l
  | listed, (i, false) :: l => (Region.ready .any ops listed == [i]) && planOk ops (listed.setIfInBounds i true) l

section
variable {P : Program} {ops : Array Oper} {Q : Exit → Act → World → Prop} {S : World → Prop}

/-- The walk in that order: what looks yields its value in every world that meets S; behind what acts S holds again. -/
def wpPlan (P : Program) (ops : Array Oper) (Q : Exit → Act → World → Prop) (S : World → Prop) : List (Nat × Bool) → Act → World → Prop
  | [], a, w => Q .normal a w
  | (i, true) :: l, a, w => ∃ o v, ops[i]? = some o ∧ YieldsIf P ops S o v a ∧ wpPlan P ops Q S l (a.put o.dst v) w
  | (i, false) :: l, a, w => wpOp P ops Q i (fun a' w' => ∃ S' : World → Prop, (∀ v, S' v → S v) ∧ S' w' ∧ wpPlan P ops Q S' l a' w') a w

theorem wpAnyH_weak {md : Region.Mode} {S' : World → Prop} (h : ∀ v, S' v → S v) : ∀ (fuel : Nat) (listed : Array Bool) (a : Act) (w : World), wpAnyH P md ops Q S' fuel listed a w → wpAnyH P md ops Q S fuel listed a w
  | 0, _, _, _, hh => hh
  | fuel + 1, _, _, _, hh => ⟨hh.1, fun i hi => wpOp_mono (fun a' w' h' => ⟨h w' h'.1, wpAnyH_weak h fuel _ a' w' h'.2⟩) (hh.2 i hi)⟩

theorem wpPlan_any (hs : Region.noSelect ops = true) (hQ : ∀ c a d v w, Q (.panic c) (a.put (some d) v) w → Q (.panic c) a w) :
    ∀ (l : List (Nat × Bool)) (S : World → Prop) (listed : Array Bool) (a : Act) (w : World), planOk ops listed l = true → S w → wpPlan P ops Q S l a w → wpAnyH P .any ops Q S l.length listed a w := by
  intro l
  induction l with
  | nil =>
    intro S listed a w hp _ h
    exact wpAnyH_done (by simpa [planOk] using hp) h 0
  | cons x l ih =>
    intro S listed a w hp hS h
    obtain ⟨i, b⟩ := x
    cases b with
    | true =>
      simp only [planOk, Bool.and_eq_true] at hp
      obtain ⟨o, v, ho, hy, h⟩ := h
      exact wpAnyH_take ho hs hp.1.1 hp.1.2 (fun c a w hq => by
        cases hd : o.dst with
        | none => rw [hd] at hq; exact hq
        | some d => rw [hd] at hq; exact hQ c a d v w hq) hy hS (ih _ _ _ _ hp.2 hS h)
    | false =>
      simp only [planOk, Bool.and_eq_true] at hp
      have hr : Region.ready .any ops listed = [i] := by simpa using hp.1
      refine wpAnyH_all hr (by simp) (fun j hj => ?_)
      have : j = i := by simpa using hj
      subst this
      exact wpOp_mono (fun a' w' ⟨S', h1, h2, h3⟩ => ⟨h1 _ h2, wpAnyH_weak h1 _ _ _ _ (ih S' _ _ _ hp.2 h2 h3)⟩) h

/-- **The rule.** -/
theorem wp_region_plan {id : Nat} {a : Act} {w : World} (l : List (Nat × Bool)) (hm : P.follows .mixedOrders = true) (hs : Region.noSelect ops = true)
    (hp : (planOk ops (Array.replicate ops.size false) l && l.length == ops.size) = true) (hQ : ∀ c a d v w, Q (.panic c) (a.put (some d) v) w → Q (.panic c) a w)
    (hS : S w.drew) (h : S w.drew → wpPlan P ops Q S l a w.drew) : (Code.region id ops true).wp P Q a w := by
  simp only [Bool.and_eq_true, beq_iff_eq] at hp
  refine wp_region_held_drew hm hS (fun _ => ?_)
  have := wpPlan_any hs hQ l S _ a _ hp.1 hS (h hS)
  rw [hp.2] at this
  exact this

/-- The steps; the operations stand as a list, so that the one at hand comes out written. -/
theorem at_list {L : List Oper} {i : Nat} {o : Oper} (h : L[i]? = some o) : L.toArray[i]? = some o := by simpa using h
theorem wpPlan_look {L : List Oper} {i : Nat} {o : Oper} {v : Value} {l : List (Nat × Bool)} {a : Act} {w : World} (ho : L[i]? = some o) (hw : Region.wanted o (yielded L.toArray a.tmps) = true)
    (hv : ∀ w, S w → (execOp a.eval o).run P w = .ok (.value v) w) (h : wpPlan P L.toArray Q S l (a.put o.dst v) w) : wpPlan P L.toArray Q S ((i, true) :: l) a w :=
  ⟨o, v, at_list ho, .inl ⟨hw, hv⟩, h⟩
theorem wpPlan_skip {L : List Oper} {i : Nat} {o : Oper} {l : List (Nat × Bool)} {a : Act} {w : World} (ho : L[i]? = some o) (hw : Region.wanted o (yielded L.toArray a.tmps) = false)
    (h : wpPlan P L.toArray Q S l (a.put o.dst undef) w) : wpPlan P L.toArray Q S ((i, true) :: l) a w :=
  ⟨o, undef, at_list ho, .inr ⟨hw, rfl⟩, h⟩
theorem wpPlan_act {L : List Oper} {i : Nat} {o : Oper} {l : List (Nat × Bool)} {a : Act} {w : World} (ho : L[i]? = some o) (hw : Region.wanted o (yielded L.toArray a.tmps) = true)
    (h : ∀ K : Act → World → Prop, (∀ a w, S w ∧ wpPlan P L.toArray Q S l a w → K a w) → o.wp P a w K Q) : wpPlan P L.toArray Q S ((i, false) :: l) a w := by
  simp only [wpPlan, wpOp, at_list ho, hw, if_true]
  exact .inl (h _ (fun _ _ h => ⟨S, fun _ h => h, h.1, h.2⟩))
/-- An act behind which more is known. -/
theorem wpPlan_actS {L : List Oper} {i : Nat} {o : Oper} {l : List (Nat × Bool)} {a : Act} {w : World} (ho : L[i]? = some o) (hw : Region.wanted o (yielded L.toArray a.tmps) = true)
    (h : ∀ K : Act → World → Prop, (∀ a w, (∃ S' : World → Prop, (∀ v, S' v → S v) ∧ S' w ∧ wpPlan P L.toArray Q S' l a w) → K a w) → o.wp P a w K Q) : wpPlan P L.toArray Q S ((i, false) :: l) a w := by
  simp only [wpPlan, wpOp, at_list ho, hw, if_true]
  exact .inl (h _ (fun _ _ h => h))
theorem wpPlan_pass {L : List Oper} {i : Nat} {o : Oper} {l : List (Nat × Bool)} {a : Act} {w : World} (ho : L[i]? = some o) (hw : Region.wanted o (yielded L.toArray a.tmps) = false)
    (hS : S w) (h : wpPlan P L.toArray Q S l (a.put o.dst undef) w) : wpPlan P L.toArray Q S ((i, false) :: l) a w := by
  simp only [wpPlan, wpOp, at_list ho, hw]
  exact ⟨S, fun _ h => h, hS, h⟩
theorem as_S {A B : Prop} (ha : A) (h : A → B) : A ∧ B := ⟨ha, h ha⟩
theorem wpPlan_done {a : Act} {w : World} (h : Q .normal a w) : wpPlan P ops Q S [] a w := h

/-- What is called is a function of the text. -/
def bodied (P : Program) (f : FuncId) : Bool := ((P.funcs[f]?).map fun fn => fn.name != "runtime.NumGoroutine" && fn.body.isSome).getD false
theorem run_enter {f : FuncId} {args : Array Value} {w : World} (h : bodied P f = true) : (callFunc f args).run P w = .ok (.enter f args) w := by
  unfold bodied at h
  cases hf : P.funcs[f]? with
  | none => rw [hf] at h; simp at h
  | some fn =>
    rw [hf] at h
    simp only [Option.map_some, Option.getD_some, Bool.and_eq_true, bne_iff_ne] at h
    obtain ⟨h1, h2⟩ := h
    have h2' : ¬ fn.body = none := by intro hb; rw [hb] at h2; cases h2
    simp [callFunc, Sem.run, hf, Go.program, h1, h2']
theorem exec_call {a : Act} {o : Oper} {x : Operand} {xs : Array Operand} {ats : Array TypeId} {f : FuncId} {fs caps : Array Value} (ho : o.op = .call { callee := .value x, args := xs, argTypes := ats })
    (hx : a.eval x = .func (.func f) fs caps) : execOp a.eval o = callFunc f (fs ++ xs.map a.eval ++ caps) := by
  unfold execOp
  rw [ho]
  simp only [resolve, hx]
  rfl
theorem wp_call {o : Oper} {x : Operand} {xs : List Operand} {ats : Array TypeId} {f : FuncId} {fs caps args : List Value} {a : Act} {w : World} {K : Act → World → Prop} {R : Ending → World → Prop}
    (hop : o.op = .call { callee := .value x, args := xs.toArray, argTypes := ats }) (hx : a.eval x = .func (.func f) fs.toArray caps.toArray) (hb : bodied P f = true) (hargs : fs ++ xs.map a.eval ++ caps = args)
    (hc : Calls P f args.toArray w R) (h : ∀ e w', R e w' → match e with | .returned v => K (a.put o.dst v) w' | .panicked c => Q (.panic c) a w' | .outgrown => LetsOut Q) : o.wp P a w K Q := by
  unfold Oper.wp
  rw [exec_call hop hx, run_enter hb, Oper.upon_enter]
  rw [List.map_toArray, List.append_toArray, List.append_toArray, hargs]
  exact hc.mono fun e w' r => by
    have := h e w' r
    cases e <;> exact this
/-- A call in such a statement. -/
theorem wpPlan_call {L : List Oper} {i : Nat} {o : Oper} {x : Operand} {xs : List Operand} {ats : Array TypeId} {f : FuncId} {fs caps args : List Value} {l : List (Nat × Bool)} {a : Act} {w : World} {R : Ending → World → Prop}
    (ho : L[i]? = some o) (hop : o.op = .call { callee := .value x, args := xs.toArray, argTypes := ats }) (hw : Region.wanted o (yielded L.toArray a.tmps) = true) (hx : a.eval x = .func (.func f) fs.toArray caps.toArray)
    (hb : bodied P f = true) (hc : Calls P f args.toArray w R) (hargs : fs ++ xs.map a.eval ++ caps = args)
    (h : ∀ e w', R e w' → ∃ v, e = .returned v ∧ (S w' ∧ wpPlan P L.toArray Q S l (a.put o.dst v) w')) : wpPlan P L.toArray Q S ((i, false) :: l) a w :=
  wpPlan_act ho hw fun _ hK => wp_call hop hx hb hargs hc fun e w' r => by
    obtain ⟨v, rfl, hh⟩ := h e w' r
    exact hK _ _ hh
/-- A call that may panic. -/
theorem wpPlan_call2 {L : List Oper} {i : Nat} {o : Oper} {x : Operand} {xs : List Operand} {ats : Array TypeId} {f : FuncId} {fs caps args : List Value} {l : List (Nat × Bool)} {a : Act} {w : World} {R : Ending → World → Prop}
    (ho : L[i]? = some o) (hop : o.op = .call { callee := .value x, args := xs.toArray, argTypes := ats }) (hw : Region.wanted o (yielded L.toArray a.tmps) = true) (hx : a.eval x = .func (.func f) fs.toArray caps.toArray)
    (hb : bodied P f = true) (hc : Calls P f args.toArray w R) (hargs : fs ++ xs.map a.eval ++ caps = args)
    (h : ∀ e w', R e w' → (∃ v, e = .returned v ∧ (S w' ∧ wpPlan P L.toArray Q S l (a.put o.dst v) w')) ∨ (∃ c, e = .panicked c ∧ Q (.panic c) a w')) : wpPlan P L.toArray Q S ((i, false) :: l) a w :=
  wpPlan_act ho hw fun _ hK => wp_call hop hx hb hargs hc fun e w' r => by
    rcases h e w' r with ⟨v, rfl, hh⟩ | ⟨c, rfl, hh⟩
    · exact hK _ _ hh
    · exact hh
/-- A call behind which more is known. -/
theorem wpPlan_callS {L : List Oper} {i : Nat} {o : Oper} {x : Operand} {xs : List Operand} {ats : Array TypeId} {f : FuncId} {fs caps args : List Value} {l : List (Nat × Bool)} {a : Act} {w : World} {R : Ending → World → Prop}
    (ho : L[i]? = some o) (hop : o.op = .call { callee := .value x, args := xs.toArray, argTypes := ats }) (hw : Region.wanted o (yielded L.toArray a.tmps) = true) (hx : a.eval x = .func (.func f) fs.toArray caps.toArray)
    (hb : bodied P f = true) (hc : Calls P f args.toArray w R) (hargs : fs ++ xs.map a.eval ++ caps = args)
    (h : ∀ e w', R e w' → (∃ v, e = .returned v ∧ ∃ S' : World → Prop, (∀ u, S' u → S u) ∧ S' w' ∧ wpPlan P L.toArray Q S' l (a.put o.dst v) w') ∨ (∃ c, e = .panicked c ∧ Q (.panic c) a w')) : wpPlan P L.toArray Q S ((i, false) :: l) a w :=
  wpPlan_actS ho hw fun _ hK => wp_call hop hx hb hargs hc fun e w' r => by
    rcases h e w' r with ⟨v, rfl, hh⟩ | ⟨c, rfl, hh⟩
    · exact hK _ _ hh
    · exact hh
end

/-- An act that gives a value, or none. -/
theorem wpPlan_run {P : Program} {Q : Exit → Act → World → Prop} {S : World → Prop} {L : List Oper} {i : Nat} {o : Oper} {l : List (Nat × Bool)} {a : Act} {w w' : World} {v : Value} (ho : L[i]? = some o) (hw : Region.wanted o (yielded L.toArray a.tmps) = true)
    (hr : (execOp a.eval o).run P w = .ok (.value v) w') (S' : World → Prop) (hS : ∀ v, S' v → S v) (hS' : S' w') (h : wpPlan P L.toArray Q S' l (a.put o.dst v) w') : wpPlan P L.toArray Q S ((i, false) :: l) a w :=
  wpPlan_actS ho hw fun _ hK => by
    unfold Oper.wp
    rw [hr, Oper.upon_value]
    exact hK _ _ ⟨S', hS, hS', h⟩
theorem wpPlan_run0 {P : Program} {Q : Exit → Act → World → Prop} {S : World → Prop} {L : List Oper} {i : Nat} {o : Oper} {l : List (Nat × Bool)} {a : Act} {w w' : World} (ho : L[i]? = some o) (hw : Region.wanted o (yielded L.toArray a.tmps) = true)
    (hr : (execOp a.eval o).run P w = .ok .skip w') (S' : World → Prop) (hS : ∀ v, S' v → S v) (hS' : S' w') (h : wpPlan P L.toArray Q S' l (a.put o.dst undef) w') : wpPlan P L.toArray Q S ((i, false) :: l) a w :=
  wpPlan_actS ho hw fun _ hK => by
    unfold Oper.wp
    rw [hr, Oper.upon_skip]
    exact hK _ _ ⟨S', hS, hS', h⟩
theorem below_later {W x y : World} (hb : Go.RowKit.Below x.heap.size x y) (h : Go.RowKit.Below W.heap.size W x) : Go.RowKit.Below W.heap.size W y := h.trans (hb.mono h.size)
end Culp

/- A statement that leaves its order open and whose last operation may spoil what it read. No program in sight. -/
namespace Culp
set_option linter.unusedSimpArgs false
set_option linter.unusedVariables false
open Go
section
variable {P : Program} {ops : Array Oper} {Q : Exit → Act → World → Prop} {md : Region.Mode} {S : World → Prop} {L : Nat}
/-- Whatever order is picked; S holds behind every operation but L. -/
def wpAnyE (P : Program) (md : Region.Mode) (ops : Array Oper) (Q : Exit → Act → World → Prop) (S : World → Prop) (L : Nat) : Nat → Array Bool → Act → World → Prop
  | 0, listed, a, w => Region.ready md ops listed = [] ∧ Q .normal a w
  | fuel + 1, listed, a, w =>
    (Region.ready md ops listed = [] → Q .normal a w) ∧
    ∀ i ∈ Region.ready md ops listed, wpOp P ops Q i (fun a' w' => (i ≠ L → S w') ∧ wpAnyE P md ops Q S L fuel (listed.setIfInBounds i true) a' w') a w
theorem wpAny_of_E : ∀ (fuel : Nat) (listed : Array Bool) (a : Act) (w : World), wpAnyE P md ops Q S L fuel listed a w → wpAny P md ops Q fuel listed a w
  | 0, _, _, _, h => h
  | fuel + 1, _, _, _, h => ⟨h.1, fun i hi => wpOp_mono (fun a' w' h' => wpAny_of_E fuel _ a' w' h'.2) (h.2 i hi)⟩
theorem wpAnyE_weak {S' : World → Prop} (h : ∀ v, S' v → S v) : ∀ (fuel : Nat) (listed : Array Bool) (a : Act) (w : World), wpAnyE P md ops Q S' L fuel listed a w → wpAnyE P md ops Q S L fuel listed a w
  | 0, _, _, _, hh => hh
  | fuel + 1, _, _, _, hh => ⟨hh.1, fun i hi => wpOp_mono (fun a' w' h' => ⟨fun hne => h w' (h'.1 hne), wpAnyE_weak h fuel _ a' w' h'.2⟩) (hh.2 i hi)⟩
theorem wpAnyE_first {i : Nat} {oi : Oper} {v : Value} (hi : ops[i]? = some oi) (hsel : ∀ (j : Nat) (o : Oper) cs b, ops[j]? = some o → o.op ≠ .select cs b)
    (hQ : ∀ c a w, Q (.panic c) (a.put oi.dst v) w → Q (.panic c) a w) (hs : Region.sinkB md ops L = true) (hc : Region.chainB md ops L = true) (hn : ops.size = L + 1) (hiL : i < L) :
    ∀ (fuel : Nat) (listed : Array Bool) (a : Act) (w : World), HeadInv md ops L listed →
      (∀ j oj, ops[j]? = some oj → j ≠ i → listed.getD j true = false → (∀ e ∈ oj.after, Region.binds md e = true → e.on ≠ i) → oi.apart ops oj = true) →
      i ∈ Region.ready md ops listed → YieldsIf P ops S oi v a → S w →
      wpAnyE P md ops Q S L fuel (listed.setIfInBounds i true) (a.put oi.dst v) w → wpAnyE P md ops Q S L (fuel + 1) listed a w := by
  intro fuel
  induction fuel with
  | zero =>
    intro listed a w _ _ hr hy hS H
    refine ⟨fun h => (by rw [h] at hr; cases hr), fun j hj => ?_⟩
    by_cases hji : j = i
    · subst hji; exact hy.wpOp hi hS ⟨fun _ => hS, H⟩
    · have := ready_mono hj hji
      rw [H.1] at this
      cases this
  | succ fuel ih =>
    intro listed a w inv hfree hr hy hS H
    refine ⟨fun h => (by rw [h] at hr; cases hr), fun j hj => ?_⟩
    by_cases hji : j = i
    · subst hji; exact hy.wpOp hi hS ⟨fun _ => hS, H⟩
    · have hjL : j ≠ L := by
        rintro rfl
        exact tail_waits hs hc (by omega) inv _ i rfl hiL (mem_ready.1 hr).1 _ (Nat.le_refl _) hj
      have h1 := H.2 j (ready_mono hj hji)
      obtain ⟨hjun, oj, hoj, hall⟩ := mem_ready.1 hj
      have hjlt : j < L := by
        have := (Array.getElem?_eq_some_iff.1 hoj).1
        omega
      have hnot : ∀ e ∈ oj.after, Region.binds md e = true → e.on ≠ i := fun e he hb heq => by
        have h1 := hall e he hb
        have h0 := (mem_ready.1 hr).1
        rw [heq] at h1
        rcases Nat.lt_or_ge i listed.size with h' | h'
        · simp [h'] at h0 h1; rw [h0] at h1; cases h1
        · simp [Array.getElem?_eq_none h'] at h1
      have h2 := wpOp_putIf hoj (hfree j oj hoj hji hjun hnot) (fun cs b => hsel i oi cs b hi) (fun cs b => hsel j oj cs b hoj) hQ hy h1
      have hfree' : ∀ k ok, ops[k]? = some ok → k ≠ i → (listed.setIfInBounds j true).getD k true = false →
          (∀ e ∈ ok.after, Region.binds md e = true → e.on ≠ i) → oi.apart ops ok = true := fun k ok hk hki hun hno => by
        refine hfree k ok hk hki ?_ hno
        by_cases hjk : j = k
        · subst hjk; exact hjun
        · rw [getD_set_ne true hjk] at hun; exact hun
      refine wpOp_mono (fun a' w' h3 => ⟨fun _ => h3.2.1 hjL, ih (listed.setIfInBounds j true) a' w' (inv.set hj hjlt) hfree' (ready_mono hr (Ne.symm hji)) h3.1 (h3.2.1 hjL) ?_⟩) h2
      rw [Array.setIfInBounds_comm _ _ hji]
      exact h3.2.2
/-- What is asked once only the last operation is left. -/
def endQ (P : Program) (ops : Array Oper) (Q : Exit → Act → World → Prop) (L : Nat) : Exit → Act → World → Prop
  | .normal, a, w => wpOp P ops Q L (fun a' w' => Q .normal a' w') a w
  | e, a, w => Q e a w
theorem wpOp_unend {i : Nat} {K : Act → World → Prop} {a : Act} {w : World} (h : wpOp P ops (endQ P ops Q L) i K a w) : wpOp P ops Q i K a w := by
  unfold wpOp at *
  cases hi : ops[i]? with
  | none => rw [hi] at h; exact h
  | some o =>
    rw [hi] at h
    simp only at h ⊢
    split
    · rename_i hw
      rw [if_pos hw] at h
      rcases h with h | ⟨h1, h2⟩
      · left
        unfold Oper.wp at *
        generalize (execOp a.eval o).run P w = r at *
        cases r with
        | ok n w' =>
          cases n <;> simp only [Oper.upon] at h ⊢
          case value u => exact h
          case skip => exact h
          case defer d => exact h
          case enter f args => exact Calls.mono h fun e w'' he => by cases e <;> exact he
          case row row args => exact h
        | halt x w' => cases x <;> exact h
      · exact .inr ⟨h1, h2⟩
    · rename_i hw
      rw [if_neg hw] at h
      exact h
theorem wpPlan_end (hs : Region.noSelect ops = true) (hQ : ∀ c a d v w, Q (.panic c) (a.put (some d) v) w → Q (.panic c) a w) (hk : Region.sinkB .any ops L = true) (hc : Region.chainB .any ops L = true) (hn : ops.size = L + 1) :
    ∀ (l : List (Nat × Bool)) (S : World → Prop) (listed : Array Bool) (a : Act) (w : World), planOk ops listed (l ++ [(L, false)]) = true → (l.all fun x => decide (x.1 < L)) = true → HeadInv .any ops L listed → S w → wpPlan P ops (endQ P ops Q L) S l a w → wpAnyE P .any ops Q S L (l.length + 1) listed a w := by
  intro l
  induction l with
  | nil =>
    intro S listed a w hp _ _ hS h
    simp only [List.nil_append, planOk, Bool.and_eq_true, beq_iff_eq, List.isEmpty_iff] at hp
    refine ⟨fun h0 => (by rw [hp.1] at h0; cases h0), fun j hj => ?_⟩
    obtain rfl : j = L := by rw [hp.1] at hj; simpa using hj
    exact wpOp_mono (fun a' w' h' => ⟨fun hne => absurd rfl hne, hp.2, h'⟩) h
  | cons x l ih =>
    intro S listed a w hp hl inv hS h
    obtain ⟨i, b⟩ := x
    simp only [List.all_cons, Bool.and_eq_true, decide_eq_true_eq] at hl
    cases b with
    | true =>
      simp only [List.cons_append, planOk, Bool.and_eq_true] at hp
      obtain ⟨o, v, ho, hy, h⟩ := h
      have hr : i ∈ Region.ready .any ops listed := by simpa using hp.1.2
      exact wpAnyE_first ho (Region.noSelect_spec hs) (fun c a w hq => by
        cases hd : o.dst with
        | none => rw [hd] at hq; exact hq
        | some d => rw [hd] at hq; exact hQ c a d v w hq) hk hc hn hl.1 _ listed a w inv (Region.free_spec ho hp.1.1) hr hy hS (ih _ _ _ _ hp.2 hl.2 (inv.set hr hl.1) hS h)
    | false =>
      simp only [List.cons_append, planOk, Bool.and_eq_true] at hp
      have hr : Region.ready .any ops listed = [i] := by simpa using hp.1
      refine ⟨fun h0 => (by rw [hr] at h0; cases h0), fun j hj => ?_⟩
      have hj2 := hj
      rw [hr] at hj
      have : j = i := by simpa using hj
      subst this
      exact wpOp_mono (fun a' w' ⟨S', h1, h2, h3⟩ => ⟨fun _ => h1 _ h2, wpAnyE_weak h1 _ _ _ _ (ih S' _ _ _ hp.2 hl.2 (inv.set hj2 hl.1) h2 h3)⟩) (wpOp_unend h)
/-- **The rule**: as 'wp_region_plan'; what the last operation, L, leaves need not meet S. -/
theorem wp_region_last {id : Nat} {a : Act} {w : World} (L : Nat) (l : List (Nat × Bool)) (hm : P.follows .mixedOrders = true) (hs : Region.noSelect ops = true)
    (hp : (planOk ops (Array.replicate ops.size false) (l ++ [(L, false)]) && (l.all fun x => decide (x.1 < L)) && Region.sinkB .any ops L && Region.chainB .any ops L && l.length == L && ops.size == L + 1) = true) (hQ : ∀ c a d v w, Q (.panic c) (a.put (some d) v) w → Q (.panic c) a w)
    (hS : S w.drew) (h : S w.drew → wpPlan P ops (endQ P ops Q L) S l a w.drew) : (Code.region id ops true).wp P Q a w := by
  simp only [Bool.and_eq_true, beq_iff_eq] at hp
  obtain ⟨⟨⟨⟨⟨h1, h2⟩, h3⟩, h4⟩, h5⟩, h6⟩ := hp
  have inv : HeadInv .any ops L (Array.replicate ops.size false) := ⟨by simp, fun j oj _ hj => (by rw [getD_replicate_false] at hj; cases hj), fun t _ ht => by simp [ht]⟩
  have := wpAny_of_E _ _ _ _ (wpPlan_end hs hQ h3 h4 h6 l S _ a _ h1 h2 inv hS (h hS))
  rw [h5, ← h6] at this
  exact wp_region_any hm this
end
/-- The last operation. -/
theorem wpPlan_last_run0 {P : Program} {Q : Exit → Act → World → Prop} {S : World → Prop} {ol : List Oper} {L : Nat} {o : Oper} {a : Act} {w w' : World} (ho : ol[L]? = some o) (hw : Region.wanted o (yielded ol.toArray a.tmps) = true)
    (hr : (execOp a.eval o).run P w = .ok .skip w') (h : Q .normal (a.put o.dst undef) w') : wpPlan P ol.toArray (endQ P ol.toArray Q L) S [] a w := by
  show wpOp P ol.toArray Q L _ a w
  simp only [wpOp, at_list ho, hw, if_true]
  left
  unfold Oper.wp
  rw [hr, Oper.upon_skip]
  exact h
end Culp

/- What a call answers: small words that all walks of this seat use. -/
namespace Go.Proofs.YtnhdbjhdmdefmaaDoor
set_option linter.unusedSimpArgs false
set_option linter.unusedVariables false
open Go.RowKit Culp

/-- A call that only computes. -/
def Gives (v : Value) (w : World) (e : Ending) (w' : World) : Prop := e = .returned v ∧ w = w'
theorem Gives.mk {v u : Value} {w : World} (h : u = v) : Gives v w (.returned u) w := ⟨by rw [h], rfl⟩

/-- A call that answers a value and leaves what was there as it was. -/
def Makes (v : Value) (w : World) (e : Ending) (w' : World) : Prop := e = .returned v ∧ Below w.heap.size w w'
theorem Makes.mk {v u : Value} {w w' : World} (h : u = v) (hb : Below w.heap.size w w') : Makes v w (.returned u) w' := ⟨by rw [h], hb⟩
theorem Gives.makes {v : Value} {w w' : World} {e : Ending} (h : Gives v w e w') : Makes v w e w' := ⟨h.1, by rw [← h.2]; exact Below.refl _ _⟩

/-- Some truth, and nothing done. -/
def SomeBool (w : World) (e : Ending) (w' : World) : Prop := ∃ b : Bool, e = .returned (.bool b) ∧ w = w'
theorem int_congr {k : IntKind} {a b : Int} (h : a = b) : Value.int k a = Value.int k b := by rw [h]
theorem bool_congr {a b : Bool} (h : a = b) : Value.bool a = Value.bool b := by rw [h]
theorem str_congr {a b : ByteArray} (h : a = b) : Value.string a = Value.string b := by rw [h]
theorem ne_lit {n : Nat} {z : Int} (h : (n : Int) ≠ z) : (((n : Nat) : Int) == z) = false := beq_eq_false_iff_ne.2 h
theorem eq_lit {n : Nat} {z : Int} (h : (n : Int) = z) : (((n : Nat) : Int) == z) = true := by rw [h]; exact beq_self_eq_true z
theorem neq_lit {n : Nat} {z : Int} (h : (n : Int) ≠ z) : (((n : Nat) : Int) != z) = true := by rw [bne, ne_lit h]; rfl
theorem neq_lit0 {n : Nat} {z : Int} (h : (n : Int) = z) : (((n : Nat) : Int) != z) = false := by rw [bne, eq_lit h]; rfl
theorem toL' (s : ByteArray) : s.toList = s.data.toList := ByteArray.toList_eq s
theorem str_inj' {s t : ByteArray} (h : s.data.toList = t.data.toList) : s = t := ByteArray.ext (Array.toList_inj.1 h)

/-- A slice of bytes as it lies in memory. -/
def BytesV (w : World) (v : Value) (s : ByteArray) : Prop := ∃ A c, v = .slice A s.size c ∧ s.size ≤ c ∧ (0 < s.size → ∃ b o, A = some ⟨b, o, none⟩ ∧ Lib.Bytes w b o s)
theorem bytes_later {w w' : World} {b o : Nat} {s : ByteArray} (h : Lib.Bytes w b o s) (hb : Below w.heap.size w w') : Lib.Bytes w' b o s := fun i hi => cell_later hb (h i hi)
theorem BytesV.later {w w' : World} {v : Value} {s : ByteArray} (h : BytesV w v s) (hb : Below w.heap.size w w') : BytesV w' v s := by
  obtain ⟨A, c, rfl, hc, hA⟩ := h
  refine ⟨A, c, rfl, hc, fun h0 => ?_⟩
  obtain ⟨b, o, rfl, hB⟩ := hA h0
  exact ⟨b, o, rfl, bytes_later hB hb⟩
end Go.Proofs.YtnhdbjhdmdefmaaDoor

/- Walks of package types: what each function answers. -/
namespace Go.Proofs.YtnhdbjhdmdefmaaDoor
set_option linter.unusedSimpArgs false
set_option linter.unusedVariables false
open Go.RowKit Culp

set_option maxHeartbeats 400000 in
theorem arity_any (c : Int) (w : World) :
    Calls Tryd.prog 39 #[.int .u8 c] w (Gives (.int .i64 (arI c)) w) := by
  go_enter Tryd.func39, Tryd.ntmps39
  go_wp2
  all_goals
    go_ret
    refine Gives.mk (int_congr ?_)
    simp_all [arI]

/-- The rest behind so many types, from a place on. -/
def eatAt (s : ByteArray) (at_ n : Nat) : Option (List UInt8) := eat (s.data.toList.drop at_) n

/-- What skip answers. -/
def SkipRes (s : ByteArray) (k : Nat) (w : World) (e : Ending) (w' : World) : Prop :=
  w = w' ∧ match eatAt s k 1 with
    | some r => e = .returned (.tuple #[.int .i64 ((s.size - r.length : Nat) : Int), .bool true])
    | none => ∃ p : Nat, p ≤ s.size ∧ e = .returned (.tuple #[.int .i64 (p : Int), .bool false])

theorem SkipRes.yes {s : ByteArray} {k j : Nat} {w : World} (hj : j ≤ s.size) (h : eatAt s k 1 = some (s.data.toList.drop j)) {u : Value} (hu : u = .tuple #[.int .i64 (j : Int), .bool true]) :
    SkipRes s k w (.returned u) w := by
  refine ⟨rfl, ?_⟩
  rw [h]
  have : s.data.toList.length = s.size := by simp
  show Ending.returned u = _
  rw [hu, List.length_drop, this, show s.size - (s.size - j) = j by omega]
theorem SkipRes.no {s : ByteArray} {k j : Nat} {w : World} (hj : j ≤ s.size) (h : eatAt s k 1 = none) {u : Value} (hu : u = .tuple #[.int .i64 (j : Int), .bool false]) :
    SkipRes s k w (.returned u) w := by
  refine ⟨rfl, ?_⟩
  rw [h]
  exact ⟨j, hj, by rw [hu]⟩

theorem eatAt_end (s : ByteArray) {k : Nat} (n : Nat) (h : s.size ≤ k) : eatAt s k (n + 1) = none := by
  unfold eatAt
  rw [List.drop_eq_nil_of_le (by simpa using h)]; rfl
theorem eatAt_bad (s : ByteArray) {k : Nat} (n : Nat) (h : k < s.size) (ha : ari s[k] = none) : eatAt s k (n + 1) = none := by
  unfold eatAt
  rw [drop_cons (by simpa using h)]
  exact eat_none _ _ ha
theorem eatAt_step (s : ByteArray) {k m : Nat} (n : Nat) (h : k < s.size) (ha : ari s[k] = some m) : eatAt s k (n + 1) = eatAt s (k + 1) (n + m) := by
  unfold eatAt
  rw [drop_cons (by simpa using h)]
  exact eat_some _ _ ha

set_option maxHeartbeats 400000 in
theorem skip_any (s : ByteArray) (k : Nat) (w : World) (hs : s.size ≤ 1000000000000000) (hk : k ≤ s.size) :
    Calls Tryd.prog 24 #[.string s, .int .i64 k] w (SkipRes s k w) := by
  go_enter Tryd.func24, Tryd.ntmps24
  go_wp2
  go_loop [1, 6] (fun a l => ∃ j n : Nat, j ≤ s.size ∧ n ≤ j + 1 ∧ a = .int .i64 j ∧ l = .int .i64 n ∧ Hid (eatAt s k 1 = eatAt s j n)) (fun a _ => s.size - (intOf a).toNat)
  case atStart => exact ⟨k, 1, hk, by omega, rfl, rfl, rfl⟩
  case round =>
    obtain ⟨j, n, hj, hn, rfl, rfl, H⟩ := hrel
    rcases n with _ | n
    · go_wp2
      go_ret2
      exact SkipRes.yes hj (by rw [H.out]; simp [eatAt]) rfl
    · by_cases hlt : j < s.size
      · cases ha : ari s[j] with
        | none =>
          have h1 : arI s[j].toNat = -1 := arI_none ha
          have X : Hid (eatAt s k 1 = none) := H.out.trans (eatAt_bad s n hlt ha)
          clear ha H
          go_wp2_with (go_at_call 39; refine (arity_any _ _).mono ?_; rintro e w' ⟨rfl, rfl⟩)
          go_ret2
          exact SkipRes.no hj X.out rfl
        | some m =>
          have h1 : arI s[j].toNat = m := arI_some ha
          have hm : m ≤ 2 := by rcases ari_cases ha with ⟨h, _⟩ | ⟨h, _⟩ | ⟨h, _⟩ <;> omega
          have X : Hid (eatAt s k 1 = eatAt s (j + 1) (n + m)) := H.out.trans (eatAt_step s n hlt ha)
          clear ha H
          go_wp2_with (go_at_call 39; refine (arity_any _ _).mono ?_; rintro e w' ⟨rfl, rfl⟩)
          go_round
          case rel => exact ⟨j + 1, n + m, by omega, by omega, by go_num, by go_num, X⟩
          case measure => simp [intOf]; omega
      · have X : Hid (eatAt s k 1 = none) := H.out.trans (eatAt_end s n (by omega))
        clear H
        go_wp2_with (go_at_call 39; refine (arity_any _ _).mono ?_; rintro e w' ⟨rfl, rfl⟩)
        go_ret2
        exact SkipRes.no hj X.out rfl

/-- Two answers of skip, each by itself. -/
theorem skip_yes (s : ByteArray) (k j : Nat) (w : World) (hs : s.size ≤ 1000000000000000) (hk : k ≤ s.size) (hj : j ≤ s.size) (h : eatAt s k 1 = some (s.data.toList.drop j)) :
    Calls Tryd.prog 24 #[.string s, .int .i64 k] w (Gives (.tuple #[.int .i64 (j : Int), .bool true]) w) :=
  (skip_any s k w hs hk).mono fun e w' ⟨hw, hr⟩ => by
    rw [h] at hr
    have : s.data.toList.length = s.size := by simp
    refine ⟨?_, hw⟩
    rw [hr, List.length_drop, this, show s.size - (s.size - j) = j by omega]
/-- An answer with a place that nobody asks for. -/
def GivesFail (w : World) (n : Nat) (e : Ending) (w' : World) : Prop := ∃ p : Nat, p ≤ n ∧ e = .returned (.tuple #[.int .i64 (p : Int), .bool false]) ∧ w = w'
theorem skip_no (s : ByteArray) (k : Nat) (w : World) (hs : s.size ≤ 1000000000000000) (hk : k ≤ s.size) (h : eatAt s k 1 = none) :
    Calls Tryd.prog 24 #[.string s, .int .i64 k] w (GivesFail w s.size) :=
  (skip_any s k w hs hk).mono fun e w' ⟨hw, hr⟩ => by
    rw [h] at hr
    obtain ⟨p, hp, he⟩ := hr
    exact ⟨p, hp, he, hw⟩

/-- What Check answers. -/
def CheckRes (s : ByteArray) (w : World) (e : Ending) (w' : World) : Prop :=
  w = w' ∧ ((isTy s.data.toList = true ∧ e = .returned (.tuple #[.int .i64 0, .int .i64 0])) ∨
    (isTy s.data.toList = false ∧ ∃ p : Nat, p ≤ s.size + 64 ∧ e = .returned (.tuple #[.int .i64 (if 64 < s.size then 21 else 20), .int .i64 p])))

theorem isTy_long {s : ByteArray} (h : 64 < s.size) : isTy s.data.toList = false := by
  have : s.data.toList.length = s.size := by simp
  unfold isTy
  rw [this, decide_eq_false (by omega)]; rfl
theorem isTy_short {s : ByteArray} (h : s.size ≤ 64) : isTy s.data.toList = (eatAt s 0 1 == some []) := by
  have : s.data.toList.length = s.size := by simp
  unfold isTy eatAt
  rw [this, decide_eq_true h]; simp

set_option maxHeartbeats 400000 in
theorem Check_any (s : ByteArray) (w : World) :
    Calls Tryd.prog 11 #[.string s] w (CheckRes s w) := by
  by_cases hl : 64 < s.size
  · have X := Lib.hid (isTy_long hl)
    go_enter Tryd.func11, Tryd.ntmps11
    go_wp2_with fail
    go_ret2
    exact ⟨rfl, .inr ⟨X.out, 64, by omega, by rw [if_pos hl]; rfl⟩⟩
  · have hl' : s.size ≤ 64 := by omega
    have X := Lib.hid (isTy_short hl')
    cases he : eatAt s 0 1 with
    | none =>
      have Y : Hid (isTy s.data.toList = false) := by rw [Hid, X.out, he]; rfl
      have H := Lib.hid he; clear he X
      go_enter Tryd.func11, Tryd.ntmps11
      go_wp2_with (go_at_call 24; refine (skip_no s 0 _ (by omega) (by omega) H.out).mono ?_; rintro e w' ⟨p, hp, rfl, rfl⟩)
      go_ret2
      exact ⟨rfl, .inr ⟨Y.out, p, by omega, by rw [if_neg hl]; rfl⟩⟩
    | some r =>
      have hr : r = s.data.toList.drop (s.size - r.length) := by
        have := eat_suffix he
        simpa using this
      have hrl : r.length ≤ s.size := by
        have := eat_length he
        simpa using this
      generalize hj : s.size - r.length = j at hr
      have hjs : j ≤ s.size := by omega
      subst hr
      have H := Lib.hid he
      by_cases hz : j = s.size
      · subst hz
        have Y : Hid (isTy s.data.toList = true) := by rw [Hid, X.out, he]; simp
        clear he X hj
        go_enter Tryd.func11, Tryd.ntmps11
        go_wp2_with (go_at_call 24; refine (skip_yes s 0 s.size _ (by omega) (by omega) (by omega) H.out).mono ?_; rintro e w' ⟨rfl, rfl⟩)
        go_ret2
        exact ⟨rfl, .inl ⟨Y.out, rfl⟩⟩
      · have hlt : j < s.size := by omega
        have Y : Hid (isTy s.data.toList = false) := by
          rw [Hid, X.out, he, beq_eq_false_iff_ne]
          intro h
          have h1 := Option.some.inj h
          have h2 := congrArg List.length h1
          simp at h2
          omega
        clear he X hj
        go_enter Tryd.func11, Tryd.ntmps11
        go_wp2_with (go_at_call 24; refine (skip_yes s 0 j _ (by omega) (by omega) (by omega) H.out).mono ?_; rintro e w' ⟨rfl, rfl⟩)
        go_ret2
        exact ⟨rfl, .inr ⟨Y.out, j, by omega, by rw [if_neg hl]; rfl⟩⟩

theorem Check_yes (t : Ty) (ht : t.fits) (w : World) : Calls Tryd.prog 11 #[.string t.str] w (Gives (.tuple #[.int .i64 0, .int .i64 0]) w) :=
  (Check_any _ w).mono fun e w' ⟨hw, hr⟩ => by
    rcases hr with ⟨_, he⟩ | ⟨h, _⟩
    · exact ⟨he, hw⟩
    · rw [str_list, isTy_enc t ht] at h; cases h
/-- A refusal: which error, and some place. -/
def Refuses (n : Nat) (w : World) (e : Ending) (w' : World) : Prop := ∃ c p : Int, 20 ≤ c ∧ c ≤ 21 ∧ c = (if 64 < n then 21 else 20) ∧ e = .returned (.tuple #[.int .i64 c, .int .i64 p]) ∧ w = w'
theorem Check_no (s : ByteArray) (h : isTy s.data.toList = false) (w : World) : Calls Tryd.prog 11 #[.string s] w (Refuses s.size w) :=
  (Check_any _ w).mono fun e w' ⟨hw, hr⟩ => by
    rcases hr with ⟨h', _⟩ | ⟨_, p, _, he⟩
    · rw [h] at h'; cases h'
    · refine ⟨if 64 < s.size then 21 else 20, p, ?_, ?_, rfl, he, hw⟩ <;> split <;> omega

/- 'e, _ := Check(t); return e == OK', under whatever name. -/

theorem enc_head (t : Ty) : ∃ c r, t.enc = c :: r := by cases t <;> exact ⟨_, _, rfl⟩
theorem str_get (t : Ty) (h : 0 < t.str.size) : t.str[0] = t.hd := by
  have e : t.enc = t.hd :: t.enc.tail := by cases t <;> rfl
  have : t.str[0] = t.enc[0]'(by simpa [str_size] using h) := by simp [Ty.str, ByteArray.getElem_eq_getElem_data]
  rw [this]
  cases t <;> rfl

def strs (l : List Ty) : List Value := l.map fun t => .string t.str

/-- The text of a part. -/
theorem part_at {t k : Ty} {d r : List Ty} (h : t.kids = d ++ k :: r) :
    eatAt t.str (1 + (Ty.encs d).length) 1 = some (t.str.data.toList.drop (1 + (Ty.encs (d ++ [k])).length)) ∧ t.str.extract (1 + (Ty.encs d).length) (1 + (Ty.encs (d ++ [k])).length) = k.str ∧
    1 + (Ty.encs (d ++ [k])).length ≤ t.str.size ∧ (Ty.encs d).length < (Ty.encs (d ++ [k])).length := by
  have he : t.enc = (t.hd :: Ty.encs d) ++ (k.enc ++ Ty.encs r) := by rw [enc_kids, h, encs_append, encs_cons]; simp
  have hdk : (Ty.encs (d ++ [k])).length = (Ty.encs d).length + k.enc.length := by rw [encs_append]; simp [Ty.encs]
  have hk := k.enc_pos
  refine ⟨?_, ?_, ?_, by omega⟩
  · unfold eatAt
    rw [str_list, he, hdk, List.drop_append_of_le_length (by simp; omega), List.drop_of_length_le (by simp; omega), List.nil_append, eat_enc_one]
    rw [List.drop_append, List.drop_of_length_le (by simp; omega), List.nil_append, show 1 + ((Ty.encs d).length + k.enc.length) - (t.hd :: Ty.encs d).length = k.enc.length by simp; omega]
    simp
  · apply ByteArray.ext
    apply Array.ext'
    rw [str_list]
    simp only [ByteArray.data_extract, Array.toList_extract, str_list, List.extract_eq_take_drop]
    rw [he, hdk, List.drop_append_of_le_length (by simp; omega), List.drop_of_length_le (by simp; omega), List.nil_append]
    rw [show 1 + ((Ty.encs d).length + k.enc.length) - (1 + (Ty.encs d).length) = k.enc.length by omega]
    simp
  · rw [str_size, he, hdk]; simp; omega

theorem string_info : (Tryd.prog.info? 9).map (fun i => (i.zero, i.size, i.bytes)) = some (some (.string ByteArray.empty), 1, 16) := by kernel_rfl

/-- What parts hands back: a new slice of the parts' texts. -/
def PartsRes (ks : List Ty) (w : World) (e : Ending) (w' : World) : Prop :=
  ∃ v, e = .returned v ∧ w'.ownsRow w.heap.size 9 1 v ks.length (strs ks) ∧ Below w.heap.size w w'

theorem str_inj {s t : Ty} (h : s.str = t.str) : s = t := enc_inj (by rw [← str_list s, h, str_list])
theorem dyn_str : Ty.dyn.str = { data := #[63] } := rfl
theorem toL (s : ByteArray) : s.toList = s.data.toList := ByteArray.toList_eq s
theorem str_dyn {s : Ty} (h : s ≠ .dyn) : (s.str.toList == [63]) = false := by
  rw [toL, str_list, beq_eq_false_iff_ne]
  intro e
  exact h (enc_inj e)
theorem str_isdyn : (Ty.dyn.str.toList == [63]) = true := by rw [toL]; rfl
theorem hd_eq (s t : Ty) : (((s.hd.toNat : Nat) : Int) == ((t.hd.toNat : Nat) : Int)) = decide (s.hd = t.hd) := by
  rw [Bool.eq_iff_iff]
  simp only [beq_iff_eq, decide_eq_true_eq]
  exact u8_eq_iff _ _

theorem hd_ne (s t : Ty) : (((s.hd.toNat : Nat) : Int) != ((t.hd.toNat : Nat) : Int)) = !decide (s.hd = t.hd) := by rw [← hd_eq]; rfl
theorem fits_sub {a t : Ty} (ht : t.fits) (h : a ∈ t.kids) : a.fits := by
  unfold Ty.fits at *
  cases t <;> simp [Ty.kids] at h <;> simp [Ty.enc] at ht
  all_goals first | (rcases h with rfl | rfl <;> omega) | (subst h; omega)

end Go.Proofs.YtnhdbjhdmdefmaaDoor

/- Plain: consistent types, and more precise ones. -/
namespace Culp
set_option linter.unusedSimpArgs false
set_option linter.unusedVariables false
def cons : Ty → Ty → Bool
  | .dyn, _ => true
  | _, .dyn => true
  | .fn a b, .fn c d => cons a c && cons b d
  | .pair a b, .pair c d => cons a c && cons b d
  | .list a, .list c => cons a c
  | .box a, .box c => cons a c
  | .int, .int => true | .bool, .bool => true | .text, .text => true
  | _, _ => false
def prec : Ty → Ty → Bool
  | _, .dyn => true
  | .fn a b, .fn c d => prec a c && prec b d
  | .pair a b, .pair c d => prec a c && prec b d
  | .list a, .list c => prec a c
  | .box a, .box c => prec a c
  | .int, .int => true | .bool, .bool => true | .text, .text => true
  | _, _ => false
/-- Part by part. -/
def allK (f : Ty → Ty → Bool) : List Ty → List Ty → Bool
  | a :: l, b :: bs => f a b && allK f l bs
  | _, _ => true
@[simp] theorem cons_dyn (s : Ty) : cons s .dyn = true := by cases s <;> rfl
@[simp] theorem dyn_cons (s : Ty) : cons .dyn s = true := by cases s <;> rfl
@[simp] theorem prec_dyn (s : Ty) : prec s .dyn = true := by cases s <;> rfl
theorem cons_head {s t : Ty} (hs : s ≠ .dyn) (ht : t ≠ .dyn) (h : s.hd ≠ t.hd) : cons s t = false := by
  cases s <;> cases t <;> first | rfl | (exact absurd rfl h) | (exact absurd rfl hs) | (exact absurd rfl ht)
theorem prec_head {s t : Ty} (ht : t ≠ .dyn) (h : s.hd ≠ t.hd) : prec s t = false := by
  cases s <;> cases t <;> first | rfl | (exact absurd rfl h) | (exact absurd rfl ht)
theorem cons_same {s t : Ty} (h : s.hd = t.hd) : cons s t = allK cons s.kids t.kids := by
  cases s <;> cases t <;> simp [Ty.hd] at h <;> simp [cons, allK, Ty.kids]
theorem prec_same {s t : Ty} (h : s.hd = t.hd) : prec s t = allK prec s.kids t.kids := by
  cases s <;> cases t <;> simp [Ty.hd] at h <;> simp [prec, allK, Ty.kids]
theorem kids_same {s t : Ty} (h : s.hd = t.hd) : s.kids.length = t.kids.length := by
  cases s <;> cases t <;> simp [Ty.hd] at h <;> rfl
theorem allK_step (f : Ty → Ty → Bool) (ks ls : List Ty) (k : Nat) (h : k < ks.length) (h' : k < ls.length) :
    allK f (ks.drop k) (ls.drop k) = (f ks[k] ls[k] && allK f (ks.drop (k + 1)) (ls.drop (k + 1))) := by
  rw [List.drop_eq_getElem_cons h, List.drop_eq_getElem_cons h']; rfl
theorem allK_end (f : Ty → Ty → Bool) (ks ls : List Ty) (k : Nat) (h : ks.length ≤ k) : allK f (ks.drop k) (ls.drop k) = true := by
  rw [List.drop_eq_nil_of_le h]; rfl
end Culp

/- Plain: core terms, checked: what package core answers, and the document's answer. -/
namespace Culp
set_option linter.unusedSimpArgs false
set_option linter.unusedVariables false
open Go

/-- A node. -/
structure Nd where
  kind : Int
  kids : Int
  n : Int
  s : ByteArray
  t : ByteArray
  u : ByteArray
  line : Int
  col : Int

/-- How many kids a kind has: none: it is no kind; -1: any number. -/
def arM (k : Int) : Option Int :=
  if k = 1 ∨ k = 2 ∨ k = 3 ∨ k = 4 then some 0
  else if k = 5 ∨ k = 6 ∨ k = 16 ∨ k = 17 ∨ k = 19 ∨ k = 20 ∨ k = 22 ∨ k = 23 ∨ k = 24 ∨ k = 26 ∨ k = 27 ∨ k = 30 then some 1
  else if k = 7 ∨ k = 8 ∨ k = 10 ∨ k = 11 ∨ k = 12 ∨ k = 13 ∨ k = 14 ∨ k = 15 ∨ k = 18 ∨ k = 25 ∨ k = 28 then some 2
  else if k = 9 then some 3
  else if k = 21 then some (-1)
  else none

/-- A fault: which, and at which node. -/
abbrev Flt := Int × Nat

/-- Does a node's number of kids fit its kind? -/
def kidsOk (x : Nd) : Bool := match arM x.kind with
  | none => false
  | some k => decide (0 ≤ x.kids) && (decide (k = -1) || decide (k = x.kids))

/-- So many times. -/
def timesM (g : Nat → Except Flt Nat) : Nat → Nat → Except Flt Nat
  | 0, p => .ok p
  | n + 1, p => match g p with | .error e => .error e | .ok q => timesM g n q

/-- One node and its kids; the fuel is how deep it may still be. -/
def shapeM (T : List Nd) : Nat → Nat → Except Flt Nat
  | f, p => match T[p]? with
    | none => .error (18, p)
    | some x => if kidsOk x then (match f with
        | 0 => .error (16, p)
        | f + 1 => timesM (shapeM T f) x.kids.toNat (p + 1)) else .error (18, p)

theorem timesM_le {g : Nat → Except Flt Nat} {m : Nat} (hg : ∀ p q, p ≤ m → g p = .ok q → q ≤ m) : ∀ (n p q : Nat), p ≤ m → timesM g n p = .ok q → q ≤ m := by
  intro n
  induction n with
  | zero => intro p q hp h; simp [timesM] at h; omega
  | succ n ih =>
    intro p q hp h
    simp only [timesM] at h
    split at h
    · cases h
    · rename_i q' hq; exact ih _ _ (hg _ _ hp hq) h
theorem shapeM_le (T : List Nd) : ∀ (f p q : Nat), shapeM T f p = .ok q → q ≤ T.length := by
  intro f
  induction f with
  | zero =>
    intro p q h
    rw [shapeM] at h
    split at h
    · cases h
    · split at h <;> cases h
  | succ f ih =>
    intro p q h
    rw [shapeM] at h
    split at h
    · cases h
    · rename_i x hx
      have hp : p < T.length := (List.getElem?_eq_some_iff.1 hx).1
      split at h
      · exact timesM_le (m := T.length) (fun a b _ hab => ih a b hab) _ _ _ (by omega) h
      · cases h

theorem timesM_ge {g : Nat → Except Flt Nat} (hg : ∀ p q, g p = .ok q → p < q) : ∀ (n p q : Nat), timesM g n p = .ok q → p ≤ q := by
  intro n
  induction n with
  | zero => intro p q h; simp [timesM] at h; omega
  | succ n ih =>
    intro p q h
    simp only [timesM] at h
    split at h
    · cases h
    · rename_i q' hq; have := hg _ _ hq; have := ih _ _ h; omega
theorem shapeM_lt (T : List Nd) : ∀ (f p q : Nat), shapeM T f p = .ok q → p < q := by
  intro f
  induction f with
  | zero =>
    intro p q h
    rw [shapeM] at h
    split at h
    · cases h
    · split at h <;> cases h
  | succ f ih =>
    intro p q h
    rw [shapeM] at h
    split at h
    · cases h
    · split at h
      · have := timesM_ge (fun a b hab => ih a b hab) _ _ _ h; omega
      · cases h

/-- Is a text a type, and which? -/
def tyOf (s : ByteArray) : Option Ty := if isTy s.data.toList then (tyRead s.data.toList) else none
where
  /-- The type that a text is. -/
  tyRead (l : List UInt8) : Option Ty := (rd l.length l).map (·.1)
  rd : Nat → List UInt8 → Option (Ty × List UInt8)
    | 0, _ => none
    | _ + 1, [] => none
    | f + 1, c :: l =>
      if c = 105 then some (.int, l) else if c = 98 then some (.bool, l) else if c = 116 then some (.text, l) else if c = 63 then some (.dyn, l)
      else if c = 108 then (rd f l).map fun x => (.list x.1, x.2)
      else if c = 120 then (rd f l).map fun x => (.box x.1, x.2)
      else if c = 62 then (rd f l).bind fun x => (rd f x.2).map fun y => (.fn x.1 y.1, y.2)
      else if c = 44 then (rd f l).bind fun x => (rd f x.2).map fun y => (.pair x.1 y.1, y.2)
      else none
theorem rd_enc (t : Ty) : ∀ (f : Nat) (r : List UInt8), t.enc.length ≤ f → tyOf.rd f (t.enc ++ r) = some (t, r) := by
  induction t with
  | int | bool | text | dyn =>
    intro f r h
    obtain ⟨f, rfl⟩ : ∃ k, f = k + 1 := ⟨f - 1, by simp [Ty.enc] at h; omega⟩
    simp [Ty.enc, tyOf.rd]
  | fn a b iha ihb | pair a b iha ihb =>
    intro f r h
    obtain ⟨f, rfl⟩ : ∃ k, f = k + 1 := ⟨f - 1, by simp [Ty.enc] at h; omega⟩
    simp [Ty.enc] at h
    simp [Ty.enc, tyOf.rd, iha f (b.enc ++ r) (by omega), ihb f r (by omega)]
  | list a iha | box a iha =>
    intro f r h
    obtain ⟨f, rfl⟩ : ∃ k, f = k + 1 := ⟨f - 1, by simp [Ty.enc] at h; omega⟩
    simp [Ty.enc] at h
    simp [Ty.enc, tyOf.rd, iha f r (by omega)]
theorem tyOf_str (t : Ty) (h : t.enc.length ≤ 64) : tyOf t.str = some t := by
  unfold tyOf
  rw [str_list, isTy_enc t h, if_pos rfl]
  unfold tyOf.tyRead
  have := rd_enc t t.enc.length [] (Nat.le_refl _)
  simp at this
  rw [this]; rfl

/-- What is asked of a node ahead of its kids: the fault's number, if one. -/
def wordsM (x : Nd) (binders : Nat) : Option Int :=
  if x.kind = 2 then (if x.s.size ≤ 64 then none else some 10)
  else if x.kind = 3 then (if x.n = 0 ∨ x.n = 1 then none else some 13)
  else if x.kind = 4 then (if 0 ≤ x.n ∧ x.n < (binders : Int) then none else some 22)
  else if x.kind = 21 then (match tyOf x.t with | some _ => none | none => some 20)
  else if x.kind = 5 ∨ x.kind = 6 then (match tyOf x.t, tyOf x.u with | some _, some _ => none | _, _ => some 20)
  else if x.kind = 30 then (match tyOf x.t, tyOf x.u with
    | some a, some b => if cons a b then (if 1 ≤ x.n ∧ x.n ≤ 2147483647 then none else some 13) else some 23
    | _, _ => some 20)
  else none

/-- A type that is made, if it is not too long. -/
def madeM (t : Ty) : Except Int Ty := if t.enc.length ≤ 64 then .ok t else .error 21
/-- Must be. -/
def needM (b : Bool) (e : Int) (t : Ty) : Except Int Ty := if b then .ok t else .error e

/-- The type of a node by those of its kids. -/
def ruleM (x : Nd) (ks : List Ty) : Except Int Ty :=
  if x.kind = 1 then .ok .int
  else if x.kind = 2 then .ok .text
  else if x.kind = 3 then .ok .bool
  else if x.kind = 30 then (match ks, tyOf x.t, tyOf x.u with | [a], some s, some t => needM (a == s) 23 t | _, _, _ => .error 0)
  else if x.kind = 7 then (match ks with | [.fn a b, c] => needM (a == c) 23 b | _ => .error 23)
  else if x.kind = 9 then (match ks with | [a, b, c] => needM (a == .bool && b == c) 23 b | _ => .error 23)
  else if x.kind = 10 ∨ x.kind = 11 ∨ x.kind = 12 ∨ x.kind = 16 then needM (ks.all (· == .int)) 23 .int
  else if x.kind = 14 ∨ x.kind = 15 then needM (ks.all (· == .int)) 23 .bool
  else if x.kind = 13 then needM (ks.all (· == .text)) 23 .text
  else if x.kind = 17 then needM (ks.all (· == .text)) 23 .int
  else if x.kind = 18 then (match ks with | [a, b] => madeM (.pair a b) | _ => .error 0)
  else if x.kind = 19 then (match ks with | [.pair a _] => .ok a | _ => .error 23)
  else if x.kind = 20 then (match ks with | [.pair _ b] => .ok b | _ => .error 23)
  else if x.kind = 21 then (match tyOf x.t with | some s => if ks.all (· == s) then madeM (.list s) else .error 23 | none => .error 0)
  else if x.kind = 22 then (match ks with | [.list a] => .ok a | _ => .error 23)
  else if x.kind = 23 then (match ks with | [.list a] => .ok (.list a) | _ => .error 23)
  else if x.kind = 24 then (match ks with | [.list _] => .ok .bool | _ => .error 23)
  else if x.kind = 25 then (match ks with | [a, b] => needM (b == .list a) 23 b | _ => .error 0)
  else if x.kind = 26 then (match ks with | [a] => madeM (.box a) | _ => .error 0)
  else if x.kind = 27 then (match ks with | [.box a] => .ok a | _ => .error 23)
  else if x.kind = 28 then (match ks with | [a, b] => needM (a == .box b) 23 b | _ => .error 0)
  else .error 0

/-- So many kids' types. -/
def kidsM (g : Nat → Except Flt (Ty × Nat)) : Nat → Nat → Except Flt (List Ty × Nat)
  | 0, p => .ok ([], p)
  | n + 1, p => match g p with
    | .error e => .error e
    | .ok (t, q) => match kidsM g n q with
      | .error e => .error e
      | .ok (ts, r) => .ok (t :: ts, r)

/-- A fault of a node. -/
def atM {α : Type} (p : Nat) : Except Int α → Except Flt α
  | .ok a => .ok a
  | .error e => .error (e, p)

/-- The body of a function, under its binders: its type must be the one that was told. -/
def bodyM (p : Nat) (f u : Ty) : Except Flt (Ty × Nat) → Except Flt (Ty × Nat)
  | .error e => .error e
  | .ok (a, q) => if a = u then .ok (f, q) else .error (23, p)

/-- The type of the node at a place, under binders; the fuel is how deep it may still be. -/
def typedM (T : List Nd) : Nat → List Ty → Nat → Except Flt (Ty × Nat)
  | 0, _, p => .error (0, p)
  | f + 1, env, p => match T[p]? with
    | none => .error (0, p)
    | some x => match wordsM x env.length with
      | some e => .error (e, p)
      | none =>
        if x.kind = 4 then (match env[x.n.toNat]? with | some t => .ok (t, p + 1) | none => .error (0, p))
        else if x.kind = 5 then (match tyOf x.t, tyOf x.u with
          | some a, some u => (match atM p (madeM (.fn a u)) with | .error e => .error e | .ok g => bodyM p g u (typedM T f (a :: env) (p + 1)))
          | _, _ => .error (0, p))
        else if x.kind = 6 then (match tyOf x.t, tyOf x.u with
          | some a, some u => (match atM p (madeM (.fn a u)) with | .error e => .error e | .ok g => bodyM p g u (typedM T f (a :: g :: env) (p + 1)))
          | _, _ => .error (0, p))
        else if x.kind = 8 then (match typedM T f env (p + 1) with
          | .error e => .error e
          | .ok (a, q) => typedM T f (a :: env) q)
        else match kidsM (typedM T f env) x.kids.toNat (p + 1) with
          | .error e => .error e
          | .ok (ks, q) => (match ruleM x ks with | .error e => .error (e, p) | .ok t => .ok (t, q))

/-- P10.1: the type, or the fault and its place. -/
def checkM (T : List Nd) : Except Flt Ty :=
  if 16384 < T.length then .error (17, 0)
  else match shapeM T 1024 0 with
    | .error e => .error e
    | .ok q => if q = T.length then (match typedM T 1024 [] 0 with | .error e => .error e | .ok (t, _) => .ok t) else .error (18, q)
end Culp

/- Plain facts on sources and their tokens: no program in sight. -/
namespace Culp.Tx
set_option linter.unusedSimpArgs false
set_option linter.unusedVariables false

def letter (c : UInt8) : Bool := decide (97 ≤ c.toNat ∧ c.toNat ≤ 122 ∨ 65 ≤ c.toNat ∧ c.toNat ≤ 90)
def digit (c : UInt8) : Bool := decide (48 ≤ c.toNat ∧ c.toNat ≤ 57)
def inner (c : UInt8) : Bool := letter c || digit c || decide (c.toNat = 95)
def blank (c : UInt8) : Bool := decide (c.toNat = 32 ∨ c.toNat = 9 ∨ c.toNat = 13 ∨ c.toNat = 10)

/-- How many bytes of blanks and remarks stand first; the first argument: are we in a remark? -/
def behind : Bool → List UInt8 → Nat
  | _, [] => 0
  | true, c :: l => 1 + behind (decide (c.toNat ≠ 10)) l
  | false, c :: l => if c.toNat = 35 then 1 + behind true l else if blank c = true then 1 + behind false l else 0

/-- A place: line and column. -/
def step (p : Nat × Nat) (c : UInt8) : Nat × Nat := if c.toNat = 10 then (p.1 + 1, 1) else (p.1, p.2 + 1)
def further (p : Nat × Nat) (l : List UInt8) : Nat × Nat := l.foldl step p

/-- A token: its kind, its number, its text. -/
structure Tk where
  kind : Nat
  n : Nat
  s : List UInt8
deriving DecidableEq

def words : List (List UInt8) := [[109,111,100,117,108,101], [105,109,112,111,114,116], [101,120,112,111,114,116], [108,101,116], [114,101,99], [105,110], [105,102], [116,104,101,110], [101,108,115,101], [102,110],
  [116,114,117,101], [102,97,108,115,101], [105,110,116], [98,111,111,108], [116,101,120,116], [98,111,120], [102,105,114,115,116], [115,101,99,111,110,100], [104,101,97,100], [116,97,105,108], [101,109,112,116,121], [99,111,110,115], [115,105,122,101]]
def isWord (s : List UInt8) : Bool := decide (s ∈ words)
def isName (s : List UInt8) : Bool := decide (s ≠ []) && decide (s.length ≤ 32) && (s.head?.map letter).getD false && !isWord s && s.all inner

def run (l : List UInt8) : List UInt8 := l.takeWhile inner
def value (l : List UInt8) : Nat := l.foldl (fun n c => 10 * n + (c.toNat - 48)) 0
def worth (l : List UInt8) : Option Nat := if l.head? = some 48 ∧ 1 < l.length then none else if l.all digit = true then (if value l ≤ 9223372036854775807 then some (value l) else none) else none

/-- A text's token, behind its first quote: what it stands for, how many bytes it takes. -/
def unq : List UInt8 → Option (List UInt8 × Nat)
  | [] => none
  | [c] => if c.toNat = 34 then some ([], 1) else none
  | c :: d :: l => if c.toNat = 34 then some ([], 1)
      else if c.toNat = 92 then (if d.toNat = 34 ∨ d.toNat = 92 then (unq l).map (fun p => (d :: p.1, p.2 + 2)) else if d.toNat = 110 then (unq l).map (fun p => (10 :: p.1, p.2 + 2)) else none)
      else if c.toNat < 32 ∨ 126 < c.toNat then none else (unq (d :: l)).map (fun p => (c :: p.1, p.2 + 1))

def marks2 : List (List UInt8) := [[45, 62], [61, 62], [58, 61], [61, 61], [43, 43]]
def marks1 : List UInt8 := [40, 41, 91, 93, 123, 125, 44, 58, 59, 46, 61, 60, 43, 45, 42, 63, 33]
def mark : List UInt8 → List UInt8
  | [] => []
  | [c] => if c ∈ marks1 then [c] else []
  | c :: d :: _ => if [c, d] ∈ marks2 then [c, d] else if c ∈ marks1 then [c] else []

/-- The token that stands first, and how many bytes it takes; or what is wrong. -/
def one : List UInt8 → Except Nat (Tk × Nat)
  | [] => .error 11
  | c :: l =>
    if letter c = true then
      if (run (c :: l)).length ≤ 32 then .ok (⟨if isWord (run (c :: l)) = true then 1 else 2, 0, run (c :: l)⟩, (run (c :: l)).length) else .error 12
    else if digit c = true then
      match worth (run (c :: l)) with | some n => .ok (⟨3, n, []⟩, (run (c :: l)).length) | none => .error 13
    else if c.toNat = 34 then
      match unq l with | some (s, k) => if s.length ≤ 64 then .ok (⟨4, 0, s⟩, k + 1) else .error 14 | none => .error 14
    else if mark (c :: l) = [] then .error 11 else .ok (⟨5, 0, mark (c :: l)⟩, (mark (c :: l)).length)

theorem unq_bounds : ∀ (l : List UInt8) (s : List UInt8) (k : Nat), unq l = some (s, k) → 1 ≤ k ∧ k ≤ l.length ∧ s.length + 1 ≤ k
  | [], s, k, h => by simp [unq] at h
  | [c], s, k, h => by
    unfold unq at h
    split at h
    · simp at h; obtain ⟨rfl, rfl⟩ := h; simp
    · cases h
  | c :: d :: l, s, k, h => by
    unfold unq at h
    split at h
    · simp at h; obtain ⟨rfl, rfl⟩ := h; simp
    split at h
    · split at h
      · simp only [Option.map_eq_some_iff, Prod.exists, Prod.mk.injEq] at h
        obtain ⟨a, b, h1, rfl, rfl⟩ := h
        have := unq_bounds l a b h1
        simp; omega
      · split at h
        · simp only [Option.map_eq_some_iff, Prod.exists, Prod.mk.injEq] at h
          obtain ⟨a, b, h1, rfl, rfl⟩ := h
          have := unq_bounds l a b h1
          simp; omega
        · cases h
    · split at h
      · cases h
      · simp only [Option.map_eq_some_iff, Prod.exists, Prod.mk.injEq] at h
        obtain ⟨a, b, h1, rfl, rfl⟩ := h
        have := unq_bounds (d :: l) a b h1
        simp at this ⊢; omega

theorem mark_len : ∀ l : List UInt8, (mark l).length ≤ l.length ∧ (mark l).length ≤ 2
  | [] => by simp [mark]
  | [c] => by rw [mark]; split <;> simp
  | c :: d :: l => by
    rw [mark]
    split
    · simp
    · split <;> simp

theorem run_len (l : List UInt8) : (run l).length ≤ l.length := (List.takeWhile_sublist _).length_le

theorem one_bounds {l : List UInt8} {t : Tk} {k : Nat} (h : one l = .ok (t, k)) : 1 ≤ k ∧ k ≤ l.length := by
  cases l with
  | nil => simp [one] at h
  | cons c l =>
    rw [one] at h
    have hr := run_len (c :: l)
    have hm := mark_len (c :: l)
    have ht : ∀ c : UInt8, ∀ l, inner c = true → 1 ≤ (run (c :: l)).length := fun c l hc => by unfold run; rw [List.takeWhile_cons, if_pos hc]; simp
    split at h
    · rename_i hl
      split at h
      · injection h with h; injection h with h1 h2; subst h2
        exact ⟨ht _ _ (by unfold inner; rw [hl]; rfl), hr⟩
      · cases h
    split at h
    · rename_i hl hd
      split at h
      · injection h with h; injection h with h1 h2; subst h2
        exact ⟨ht _ _ (by unfold inner; rw [hd]; simp), hr⟩
      · cases h
    split at h
    · split at h
      · rename_i s k' hu
        split at h
        · injection h with h; injection h with h1 h2; subst h2
          have := unq_bounds _ _ _ hu
          simp; omega
        · cases h
      · cases h
    · split at h
      · cases h
      · rename_i hn
        injection h with h; injection h with h1 h2; subst h2
        refine ⟨?_, hm.1⟩
        have := List.length_pos_iff.2 hn
        omega

theorem behind_le : ∀ (b : Bool) (l : List UInt8), behind b l ≤ l.length
  | _, [] => by simp [behind]
  | true, c :: l => by unfold behind; have := behind_le (decide (c.toNat ≠ 10)) l; simp at this ⊢; omega
  | false, c :: l => by
    unfold behind
    have h1 := behind_le true l
    have h2 := behind_le false l
    split
    · simp; omega
    split <;> (simp; try omega)

/-- The tokens behind a place, or the fault and where it stands. -/
def toksF : Nat → Nat × Nat → List UInt8 → Except (Nat × (Nat × Nat)) (List (Tk × (Nat × Nat)))
  | 0, _, _ => .ok []
  | f + 1, p, l =>
    if behind false l = l.length then .ok []
    else match one (l.drop (behind false l)) with
      | .error e => .error (e, further p (l.take (behind false l)))
      | .ok (t, n) => match toksF f (further p (l.take (behind false l + n))) (l.drop (behind false l + n)) with
        | .error e => .error e
        | .ok r => .ok ((t, further p (l.take (behind false l))) :: r)
theorem toksF_more : ∀ (f g : Nat) (p : Nat × Nat) (l : List UInt8), l.length < f → l.length < g → toksF f p l = toksF g p l
  | 0, _, _, _, h, _ => by omega
  | _, 0, _, _, _, h => by omega
  | f + 1, g + 1, p, l, hf, hg => by
    unfold toksF
    split
    · rfl
    · split
      · rfl
      · rename_i t n h1
        have hb := one_bounds h1
        have hl := behind_le false l
        have : (l.drop (behind false l + n)).length < f ∧ (l.drop (behind false l + n)).length < g := by
          simp at hb ⊢; omega
        rw [toksF_more f g _ _ this.1 this.2]
def toksAt (p : Nat × Nat) (l : List UInt8) := toksF (l.length + 1) p l
theorem toksAt_eq (p : Nat × Nat) (l : List UInt8) : toksAt p l =
    if behind false l = l.length then .ok []
    else match one (l.drop (behind false l)) with
      | .error e => .error (e, further p (l.take (behind false l)))
      | .ok (t, n) => match toksAt (further p (l.take (behind false l + n))) (l.drop (behind false l + n)) with
        | .error e => .error e
        | .ok r => .ok ((t, further p (l.take (behind false l))) :: r) := by
  unfold toksAt
  rw [toksF]
  split
  · rfl
  · split
    · rfl
    · rename_i t n h1
      have hb := one_bounds h1
      have hl := behind_le false l
      rw [toksF_more l.length ((l.drop (behind false l + n)).length + 1) _ _ (by simp at hb ⊢; omega) (by omega)]
/-- All tokens of a source. -/
def toks (l : List UInt8) : Except (Nat × (Nat × Nat)) (List (Tk × (Nat × Nat))) := if 65536 < l.length then .error (10, (0, 0)) else toksAt (1, 1) l

/-- A text's token written. -/
def esc (c : UInt8) : Option (List UInt8) := if c.toNat = 10 then some [92, 110] else if c.toNat < 32 ∨ 126 < c.toNat then none else if c.toNat = 34 ∨ c.toNat = 92 then some [92, c] else some [c]
def escs : List UInt8 → Option (List UInt8)
  | [] => some []
  | c :: l => match esc c, escs l with | some a, some b => some (a ++ b) | _, _ => none
def quote (s : List UInt8) : Option (List UInt8) := if 64 < s.length then none else (escs s).map (fun m => 34 :: m ++ [34])
end Culp.Tx

/- What follows for sources and their tokens: cut, written anew, quoted; no program in sight. -/
namespace Culp.Tx
set_option linter.unusedSimpArgs false
set_option linter.unusedVariables false

theorem letter_inner {c : UInt8} (h : letter c = true) : inner c = true := by unfold inner; rw [h]; rfl
theorem digit_inner {c : UInt8} (h : digit c = true) : inner c = true := by unfold inner; rw [h]; simp
theorem not_both {c : UInt8} (h : letter c = true) : digit c = false := by
  unfold letter at h; unfold digit
  simp only [decide_eq_true_eq] at h
  simp only [decide_eq_false_iff_not]; omega

/-- A list of bytes with which a next piece may begin behind a token. -/
def Stop (z : List UInt8) : Prop := z = [] ∨ ∃ c r, z = c :: r ∧ (blank c = true ∨ c.toNat = 35)
theorem stop_inner {c : UInt8} (h : blank c = true ∨ c.toNat = 35) : inner c = false := by
  unfold inner letter digit
  unfold blank at h
  simp only [decide_eq_true_eq] at h
  simp only [Bool.or_eq_false_iff, decide_eq_false_iff_not]
  omega
theorem run_all : ∀ {r : List UInt8}, r.all inner = true → run r = r
  | [], _ => rfl
  | c :: r, h => by
    simp only [List.all_cons, Bool.and_eq_true] at h
    have := run_all (r := r) h.2
    unfold run at this ⊢
    rw [List.takeWhile_cons, if_pos h.1, this]
theorem run_app : ∀ {r z : List UInt8}, r.all inner = true → (z = [] ∨ ∃ c y, z = c :: y ∧ inner c = false) → run (r ++ z) = r
  | [], z, _, hz => by
    rcases hz with rfl | ⟨c, y, rfl, hc⟩
    · rfl
    · unfold run; simp [List.takeWhile_cons, hc]
  | c :: r, z, h, hz => by
    simp only [List.all_cons, Bool.and_eq_true] at h
    have := run_app (r := r) (z := z) h.2 hz
    unfold run at this ⊢
    rw [List.cons_append, List.takeWhile_cons, if_pos h.1, this]
theorem run_inner : ∀ l : List UInt8, (run l).all inner = true
  | [] => rfl
  | c :: l => by
    have := run_inner l
    unfold run at this ⊢
    rw [List.takeWhile_cons]
    split
    · rename_i h; rw [List.all_cons, h, this]; rfl
    · rfl
theorem run_take : ∀ l : List UInt8, l.take (run l).length = run l
  | [] => rfl
  | c :: l => by
    have := run_take l
    unfold run at this ⊢
    rw [List.takeWhile_cons]
    split
    · simp [this]
    · rfl
theorem run_of_take : ∀ (l : List UInt8) (j : Nat), run (l.take j) = (run l).take j
  | [], j => by simp [run]
  | c :: l, 0 => by simp [run]
  | c :: l, j + 1 => by
    have := run_of_take l j
    unfold run at this ⊢
    rw [List.take_succ_cons, List.takeWhile_cons, List.takeWhile_cons]
    split
    · simp [this]
    · simp

theorem unq_stable : ∀ (l : List UInt8) (s : List UInt8) (k : Nat), unq l = some (s, k) → ∀ z, unq (l.take k ++ z) = some (s, k)
  | [], s, k, h, _ => by simp [unq] at h
  | [c], s, k, h, z => by
    unfold unq at h
    split at h
    · rename_i hc
      simp at h; obtain ⟨rfl, rfl⟩ := h
      cases z with
      | nil => simp [unq, hc]
      | cons d z => simp [unq, hc]
    · cases h
  | c :: d :: l, s, k, h, z => by
    unfold unq at h
    split at h
    · rename_i hc
      simp at h; obtain ⟨rfl, rfl⟩ := h
      cases z with
      | nil => simp [unq, hc]
      | cons d z => simp [unq, hc]
    rename_i hc
    split at h
    · rename_i h92
      split at h
      · rename_i hd
        simp only [Option.map_eq_some_iff, Prod.exists, Prod.mk.injEq] at h
        obtain ⟨a, b, h1, rfl, rfl⟩ := h
        have := unq_stable l a b h1 z
        simp only [List.take_succ_cons, List.cons_append]
        rw [unq, if_neg hc, if_pos h92, if_pos hd, this]; rfl
      · rename_i hd
        split at h
        · rename_i hn
          simp only [Option.map_eq_some_iff, Prod.exists, Prod.mk.injEq] at h
          obtain ⟨a, b, h1, rfl, rfl⟩ := h
          have := unq_stable l a b h1 z
          simp only [List.take_succ_cons, List.cons_append]
          rw [unq, if_neg hc, if_pos h92, if_neg hd, if_pos hn, this]; rfl
        · cases h
    · rename_i h92
      split at h
      · cases h
      · rename_i hr
        simp only [Option.map_eq_some_iff, Prod.exists, Prod.mk.injEq] at h
        obtain ⟨a, b, h1, rfl, rfl⟩ := h
        have := unq_stable (d :: l) a b h1 z
        have hb := unq_bounds _ _ _ h1
        obtain ⟨b', rfl⟩ : ∃ b', b = b' + 1 := ⟨b - 1, by omega⟩
        simp only [List.take_succ_cons, List.cons_append] at this ⊢
        rw [unq, if_neg hc, if_neg h92, if_neg hr, this]; rfl
/-- Cut ahead of its end it is none. -/
theorem unq_cut : ∀ (l : List UInt8) (s : List UInt8) (k : Nat), unq l = some (s, k) → ∀ j, j < k → unq (l.take j) = none
  | [], s, k, h, _, _ => by simp [unq] at h
  | c :: l, s, k, h, 0, _ => by simp [unq]
  | [c], s, k, h, j + 1, hj => by
    have := unq_bounds _ _ _ h
    simp at this; omega
  | c :: d :: l, s, k, h, j + 1, hj => by
    unfold unq at h
    split at h
    · simp at h; obtain ⟨rfl, rfl⟩ := h; omega
    rename_i hc
    cases j with
    | zero => simp [unq, hc]
    | succ j =>
    simp only [List.take_succ_cons]
    split at h
    · rename_i h92
      split at h
      · rename_i hd
        simp only [Option.map_eq_some_iff, Prod.exists, Prod.mk.injEq] at h
        obtain ⟨a, b, h1, rfl, rfl⟩ := h
        have := unq_cut l a b h1 j (by omega)
        rw [unq, if_neg hc, if_pos h92, if_pos hd, this]; rfl
      · rename_i hd
        split at h
        · rename_i hn
          simp only [Option.map_eq_some_iff, Prod.exists, Prod.mk.injEq] at h
          obtain ⟨a, b, h1, rfl, rfl⟩ := h
          have := unq_cut l a b h1 j (by omega)
          rw [unq, if_neg hc, if_pos h92, if_neg hd, if_pos hn, this]; rfl
        · cases h
    · rename_i h92
      split at h
      · cases h
      · rename_i hr
        simp only [Option.map_eq_some_iff, Prod.exists, Prod.mk.injEq] at h
        obtain ⟨a, b, h1, rfl, rfl⟩ := h
        have := unq_cut (d :: l) a b h1 (j + 1) (by omega)
        simp only [List.take_succ_cons] at this
        rw [unq, if_neg hc, if_neg h92, if_neg hr, this]; rfl
/-- What it stands for, written anew, is the same. -/
theorem unq_escs : ∀ (l : List UInt8) (s : List UInt8) (k : Nat), unq l = some (s, k) → escs s = some (l.take (k - 1)) ∧ l.take k = l.take (k - 1) ++ [34]
  | [], s, k, h => by simp [unq] at h
  | [c], s, k, h => by
    unfold unq at h
    split at h
    · rename_i hc
      simp at h; obtain ⟨rfl, rfl⟩ := h
      have : c = 34 := UInt8.toNat_inj.1 hc
      subst this; exact ⟨rfl, rfl⟩
    · cases h
  | c :: d :: l, s, k, h => by
    unfold unq at h
    split at h
    · rename_i hc
      simp at h; obtain ⟨rfl, rfl⟩ := h
      have : c = 34 := UInt8.toNat_inj.1 hc
      subst this; exact ⟨rfl, rfl⟩
    rename_i hc
    split at h
    · rename_i h92
      have e92 : c = 92 := UInt8.toNat_inj.1 h92
      subst e92
      split at h
      · rename_i hd
        simp only [Option.map_eq_some_iff, Prod.exists, Prod.mk.injEq] at h
        obtain ⟨a, b, h1, rfl, rfl⟩ := h
        obtain ⟨i1, i2⟩ := unq_escs l a b h1
        have hb := unq_bounds _ _ _ h1
        obtain ⟨b', rfl⟩ : ∃ b', b = b' + 1 := ⟨b - 1, by omega⟩
        have e1 : b' + 1 + 2 - 1 = (b' + 1 - 1) + 2 := by omega
        rw [e1]
        simp only [List.take_succ_cons, List.cons_append, i2, and_true]
        unfold escs
        have : esc d = some [92, d] := by unfold esc; rw [if_neg (by omega), if_neg (by omega), if_pos hd]
        rw [this, i1]; rfl
      · rename_i hd
        split at h
        · rename_i hn
          simp only [Option.map_eq_some_iff, Prod.exists, Prod.mk.injEq] at h
          obtain ⟨a, b, h1, rfl, rfl⟩ := h
          obtain ⟨i1, i2⟩ := unq_escs l a b h1
          have hb := unq_bounds _ _ _ h1
          obtain ⟨b', rfl⟩ : ∃ b', b = b' + 1 := ⟨b - 1, by omega⟩
          have e1 : b' + 1 + 2 - 1 = (b' + 1 - 1) + 2 := by omega
          rw [e1]
          have ed : d = 110 := UInt8.toNat_inj.1 hn
          subst ed
          simp only [List.take_succ_cons, List.cons_append, i2, and_true]
          unfold escs
          rw [show esc 10 = some [92, 110] from rfl, i1]; rfl
        · cases h
    · rename_i h92
      split at h
      · cases h
      · rename_i hr
        simp only [Option.map_eq_some_iff, Prod.exists, Prod.mk.injEq] at h
        obtain ⟨a, b, h1, rfl, rfl⟩ := h
        obtain ⟨i1, i2⟩ := unq_escs (d :: l) a b h1
        have hb := unq_bounds _ _ _ h1
        obtain ⟨b', rfl⟩ : ∃ b', b = b' + 1 := ⟨b - 1, by omega⟩
        have e1 : b' + 1 + 1 - 1 = (b' + 1 - 1) + 1 := by omega
        rw [e1]
        rw [List.take_succ_cons, List.take_succ_cons, i2, List.cons_append]
        refine ⟨?_, rfl⟩
        unfold escs
        have : esc c = some [c] := by unfold esc; rw [if_neg (by omega), if_neg hr, if_neg (by omega)]
        rw [this, i1]; rfl

theorem mark_head {c : UInt8} {l : List UInt8} (h : mark (c :: l) ≠ []) : c ∈ marks1 := by
  cases l with
  | nil =>
    rw [mark] at h
    split at h
    · assumption
    · simp at h
  | cons d l =>
    rw [mark] at h
    split at h
    · rename_i h2
      simp only [marks2, List.mem_cons, List.cons.injEq, List.not_mem_nil, or_false, and_true] at h2
      rcases h2 with ⟨rfl, rfl⟩ | ⟨rfl, rfl⟩ | ⟨rfl, rfl⟩ | ⟨rfl, rfl⟩ | ⟨rfl, rfl⟩ <;> decide
    · split at h
      · assumption
      · simp at h
theorem mark_take : ∀ l : List UInt8, l.take (mark l).length = mark l
  | [] => rfl
  | [c] => by rw [mark]; split <;> rfl
  | c :: d :: l => by
    rw [mark]
    split
    · rfl
    · split <;> rfl
theorem mark_one {c : UInt8} {l : List UInt8} (h : mark (c :: l) = [c]) : ∀ d, l.head? = some d → [c, d] ∉ marks2 := by
  intro d hd h2
  cases l with
  | nil => simp at hd
  | cons x l =>
    simp at hd; subst hd
    rw [mark, if_pos h2] at h
    simp at h
theorem mark_stable {l z : List UInt8} (hz : Stop z) (h : mark l ≠ []) : mark (mark l ++ z) = mark l := by
  match l with
  | [] => simp [mark] at h
  | [c] =>
    have hc := mark_head h
    have e : mark [c] = [c] := by rw [mark, if_pos hc]
    rw [e]
    rcases hz with rfl | ⟨d, r, rfl, hd⟩
    · exact e
    · rw [List.cons_append, List.nil_append, mark, if_neg, if_pos hc]
      intro h2
      simp only [marks2, List.mem_cons, List.cons.injEq, List.not_mem_nil, or_false, and_true] at h2
      unfold blank at hd
      simp only [decide_eq_true_eq] at hd
      rcases h2 with ⟨rfl, rfl⟩ | ⟨rfl, rfl⟩ | ⟨rfl, rfl⟩ | ⟨rfl, rfl⟩ | ⟨rfl, rfl⟩ <;> simp at hd
  | c :: d :: l =>
    have hc := mark_head h
    by_cases h2 : [c, d] ∈ marks2
    · have e : mark (c :: d :: l) = [c, d] := by rw [mark, if_pos h2]
      rw [e]
      show mark (c :: d :: z) = _
      rw [mark, if_pos h2]
    · have e : mark (c :: d :: l) = [c] := by rw [mark, if_neg h2, if_pos hc]
      rw [e]
      rcases hz with rfl | ⟨d, r, rfl, hd⟩
      · rw [List.append_nil, mark, if_pos hc]
      · rw [List.cons_append, List.nil_append, mark, if_neg, if_pos hc]
        intro h2
        simp only [marks2, List.mem_cons, List.cons.injEq, List.not_mem_nil, or_false, and_true] at h2
        unfold blank at hd
        simp only [decide_eq_true_eq] at hd
        rcases h2 with ⟨rfl, rfl⟩ | ⟨rfl, rfl⟩ | ⟨rfl, rfl⟩ | ⟨rfl, rfl⟩ | ⟨rfl, rfl⟩ <;> simp at hd

/-- The kinds of a token that stands first. -/
theorem one_cases {c : UInt8} {l : List UInt8} {t : Tk} {k : Nat} (h : one (c :: l) = .ok (t, k)) :
    (letter c = true ∧ (run (c :: l)).length ≤ 32 ∧ t = ⟨if isWord (run (c :: l)) = true then 1 else 2, 0, run (c :: l)⟩ ∧ k = (run (c :: l)).length) ∨
    (letter c = false ∧ digit c = true ∧ ∃ n, worth (run (c :: l)) = some n ∧ t = ⟨3, n, []⟩ ∧ k = (run (c :: l)).length) ∨
    (letter c = false ∧ digit c = false ∧ c.toNat = 34 ∧ ∃ s j, unq l = some (s, j) ∧ s.length ≤ 64 ∧ t = ⟨4, 0, s⟩ ∧ k = j + 1) ∨
    (letter c = false ∧ digit c = false ∧ c.toNat ≠ 34 ∧ mark (c :: l) ≠ [] ∧ t = ⟨5, 0, mark (c :: l)⟩ ∧ k = (mark (c :: l)).length) := by
  rw [one] at h
  split at h
  · rename_i hl
    split at h
    · injection h with h; injection h with h1 h2
      exact .inl ⟨hl, by assumption, h1.symm, h2.symm⟩
    · cases h
  rename_i hl
  simp at hl
  split at h
  · rename_i hd
    split at h
    · injection h with h; injection h with h1 h2
      exact .inr (.inl ⟨hl, hd, _, by assumption, h1.symm, h2.symm⟩)
    · cases h
  rename_i hd
  simp at hd
  split at h
  · rename_i hq
    split at h
    · rename_i s j hu
      split at h
      · injection h with h; injection h with h1 h2
        exact .inr (.inr (.inl ⟨hl, hd, hq, s, j, hu, by assumption, h1.symm, h2.symm⟩))
      · cases h
    · cases h
  · rename_i hq
    split at h
    · cases h
    · injection h with h; injection h with h1 h2
      exact .inr (.inr (.inr ⟨hl, hd, hq, by assumption, h1.symm, h2.symm⟩))
theorem one_word {c : UInt8} {l : List UInt8} (hl : letter c = true) (h : (run (c :: l)).length ≤ 32) : one (c :: l) = .ok (⟨if isWord (run (c :: l)) = true then 1 else 2, 0, run (c :: l)⟩, (run (c :: l)).length) := by
  rw [one, if_pos hl, if_pos h]
theorem one_num {c : UInt8} {l : List UInt8} {n : Nat} (hd : digit c = true) (h : worth (run (c :: l)) = some n) : one (c :: l) = .ok (⟨3, n, []⟩, (run (c :: l)).length) := by
  have hl : ¬ letter c = true := fun hl => by rw [not_both hl] at hd; cases hd
  rw [one, if_neg hl, if_pos hd, h]
theorem one_text {c : UInt8} {l : List UInt8} {s : List UInt8} {j : Nat} (hc : c.toNat = 34) (h : unq l = some (s, j)) (hs : s.length ≤ 64) : one (c :: l) = .ok (⟨4, 0, s⟩, j + 1) := by
  have hl : ¬ letter c = true := by unfold letter; simp only [decide_eq_true_eq]; omega
  have hd : ¬ digit c = true := by unfold digit; simp only [decide_eq_true_eq]; omega
  rw [one, if_neg hl, if_neg hd, if_pos hc, h]; simp [hs]
theorem one_text_no {c : UInt8} {l : List UInt8} (hc : c.toNat = 34) (h : unq l = none) : one (c :: l) = .error 14 := by
  have hl : ¬ letter c = true := by unfold letter; simp only [decide_eq_true_eq]; omega
  have hd : ¬ digit c = true := by unfold digit; simp only [decide_eq_true_eq]; omega
  rw [one, if_neg hl, if_neg hd, if_pos hc, h]
theorem one_mark {c : UInt8} {l : List UInt8} (hl : letter c = false) (hd : digit c = false) (hq : c.toNat ≠ 34) (h : mark (c :: l) ≠ []) : one (c :: l) = .ok (⟨5, 0, mark (c :: l)⟩, (mark (c :: l)).length) := by
  rw [one, if_neg (by rw [hl]; simp), if_neg (by rw [hd]; simp), if_neg hq, if_neg h]

/-- A token by itself, and what may stand behind. -/
theorem one_stable {l : List UInt8} {t : Tk} {k : Nat} (h : one l = .ok (t, k)) {z : List UInt8} (hz : Stop z) : one (l.take k ++ z) = .ok (t, k) := by
  cases l with
  | nil => simp [one] at h
  | cons c l =>
    have hz' : z = [] ∨ ∃ c y, z = c :: y ∧ inner c = false := by
      rcases hz with rfl | ⟨c, r, rfl, hc⟩
      · exact .inl rfl
      · exact .inr ⟨c, r, rfl, stop_inner hc⟩
    have hk := (one_bounds h).1
    obtain ⟨k', rfl⟩ : ∃ k', k = k' + 1 := ⟨k - 1, by omega⟩
    rcases one_cases h with ⟨hl, h32, rfl, hk2⟩ | ⟨hl, hd, n, hw, rfl, hk2⟩ | ⟨hl, hd, hq, s, j, hu, hs, rfl, hk2⟩ | ⟨hl, hd, hq, hm, rfl, hk2⟩
    · have e : (c :: l).take (k' + 1) = run (c :: l) := by rw [hk2, run_take]
      have hr : run (run (c :: l) ++ z) = run (c :: l) := run_app (run_inner _) hz'
      rw [e, hk2]
      obtain ⟨r, hr0⟩ : ∃ r, run (c :: l) = c :: r := ⟨_, by rw [← e, List.take_succ_cons]⟩
      rw [hr0] at hr h32 ⊢
      rw [List.cons_append] at hr ⊢
      have := one_word (l := r ++ z) hl (by rw [hr]; exact h32)
      rw [hr] at this
      exact this
    · have e : (c :: l).take (k' + 1) = run (c :: l) := by rw [hk2, run_take]
      have hr : run (run (c :: l) ++ z) = run (c :: l) := run_app (run_inner _) hz'
      rw [e, hk2]
      obtain ⟨r, hr0⟩ : ∃ r, run (c :: l) = c :: r := ⟨_, by rw [← e, List.take_succ_cons]⟩
      rw [hr0] at hr hw ⊢
      rw [List.cons_append] at hr ⊢
      have := one_num (l := r ++ z) hd (by rw [hr]; exact hw)
      rw [hr] at this
      exact this
    · injection hk2 with hk2; subst hk2
      rw [List.take_succ_cons, List.cons_append]
      exact one_text hq (unq_stable _ _ _ hu z) hs
    · have e : (c :: l).take (k' + 1) = mark (c :: l) := by rw [hk2, mark_take]
      have hr : mark (mark (c :: l) ++ z) = mark (c :: l) := mark_stable hz hm
      rw [e, hk2]
      obtain ⟨r, hr0⟩ : ∃ r, mark (c :: l) = c :: r := ⟨_, by rw [← e, List.take_succ_cons]⟩
      rw [hr0] at hr hm ⊢
      rw [List.cons_append] at hr ⊢
      have := one_mark (l := r ++ z) hl hd hq (by rw [hr]; exact hm)
      rw [hr] at this
      exact this
theorem one_take {l : List UInt8} {t : Tk} {k : Nat} (h : one l = .ok (t, k)) {j : Nat} (hj : k ≤ j) : one (l.take j) = .ok (t, k) := by
  cases l with
  | nil => simp [one] at h
  | cons c l =>
    have hk := (one_bounds h).1
    obtain ⟨j', rfl⟩ : ∃ j', j = j' + 1 := ⟨j - 1, by omega⟩
    rw [List.take_succ_cons]
    rcases one_cases h with ⟨hl, h32, rfl, hk2⟩ | ⟨hl, hd, n, hw, rfl, hk2⟩ | ⟨hl, hd, hq, s, i, hu, hs, rfl, hk2⟩ | ⟨hl, hd, hq, hm, rfl, hk2⟩
    · have e : run (c :: l.take j') = run (c :: l) := by rw [← List.take_succ_cons, run_of_take, List.take_of_length_le (by omega)]
      rw [hk2, ← e]
      rw [← e] at h32
      exact one_word hl h32
    · have e : run (c :: l.take j') = run (c :: l) := by rw [← List.take_succ_cons, run_of_take, List.take_of_length_le (by omega)]
      rw [hk2, ← e]
      rw [← e] at hw
      exact one_num hd hw
    · subst hk2
      refine one_text hq ?_ hs
      have := unq_stable _ _ _ hu ((l.drop i).take (j' - i))
      rw [← this]
      have : l.take j' = l.take i ++ (l.drop i).take (j' - i) := by
        rw [← List.take_add]; congr 1; omega
      rw [this]
    · have e : mark (c :: l.take j') = mark (c :: l) := by
        cases l with
        | nil => simp
        | cons d l =>
          cases j' with
          | zero =>
            have hm1 : (mark (c :: d :: l)).length = 1 := by
              have := List.length_pos_iff.2 hm; omega
            by_cases h2 : [c, d] ∈ marks2
            · rw [mark, if_pos h2] at hm1; simp at hm1
            · rw [List.take_zero, mark, mark, if_neg h2]
          | succ j => rw [List.take_succ_cons, mark, mark]
      rw [hk2, ← e]
      rw [← e] at hm
      exact one_mark hl hd hq hm
theorem value_snoc (l : List UInt8) (c : UInt8) : value (l ++ [c]) = 10 * value l + (c.toNat - 48) := by unfold value; simp
theorem value_take_le : ∀ (l : List UInt8) (n : Nat), n ≤ l.foldl (fun n c => 10 * n + (c.toNat - 48)) n
  | [], n => Nat.le_refl _
  | c :: l, n => by
    rw [List.foldl_cons]
    exact Nat.le_trans (by omega) (value_take_le l _)
theorem value_pre (l : List UInt8) (j : Nat) : value (l.take j) ≤ value l := by
  have : l = l.take j ++ l.drop j := (List.take_append_drop j l).symm
  unfold value
  conv => rhs; rw [this, List.foldl_append]
  exact value_take_le _ _
theorem worth_some {l : List UInt8} {n : Nat} (h : worth l = some n) : ¬ (l.head? = some 48 ∧ 1 < l.length) ∧ l.all digit = true ∧ value l ≤ 9223372036854775807 ∧ n = value l := by
  unfold worth at h
  split at h
  · cases h
  rename_i h0
  split at h
  · rename_i h1
    split at h
    · injection h with h
      exact ⟨h0, h1, by assumption, h.symm⟩
    · cases h
  · cases h
theorem worth_mk {l : List UInt8} (h0 : ¬ (l.head? = some 48 ∧ 1 < l.length)) (h1 : l.all digit = true) (h2 : value l ≤ 9223372036854775807) : worth l = some (value l) := by
  unfold worth; rw [if_neg h0, if_pos h1, if_pos h2]
/-- A token that is cut. -/
theorem one_cut {l : List UInt8} {t : Tk} {k : Nat} (h : one l = .ok (t, k)) {j : Nat} (h0 : 0 < j) (hj : j < k) : (∃ t', one (l.take j) = .ok (t', j)) ∨ one (l.take j) = .error 14 := by
  cases l with
  | nil => simp [one] at h
  | cons c l =>
    have hkb := (one_bounds h).2
    obtain ⟨j', rfl⟩ : ∃ j', j = j' + 1 := ⟨j - 1, by omega⟩
    rw [List.take_succ_cons]
    rcases one_cases h with ⟨hl, h32, rfl, hk2⟩ | ⟨hl, hd, n, hw, rfl, hk2⟩ | ⟨hl, hd, hq, s, i, hu, hs, rfl, hk2⟩ | ⟨hl, hd, hq, hm, rfl, hk2⟩
    · have e : run (c :: l.take j') = (run (c :: l)).take (j' + 1) := by rw [← List.take_succ_cons, run_of_take]
      have e2 : (run (c :: l.take j')).length = j' + 1 := by rw [e, List.length_take]; omega
      have := one_word (l := l.take j') hl (by omega)
      rw [e2] at this
      exact .inl ⟨_, this⟩
    · have e : run (c :: l.take j') = (run (c :: l)).take (j' + 1) := by rw [← List.take_succ_cons, run_of_take]
      have e2 : (run (c :: l.take j')).length = j' + 1 := by rw [e, List.length_take]; omega
      obtain ⟨w1, w2, w3, _⟩ := worth_some hw
      have hw' : worth (run (c :: l.take j')) = some (value (run (c :: l.take j'))) := by
        refine worth_mk ?_ ?_ ?_
        · rintro ⟨a, b⟩
          refine w1 ⟨?_, by omega⟩
          rw [e, List.head?_take] at a
          simpa using a
        · rw [e]
          rw [List.all_eq_true] at w2 ⊢
          exact fun x hx => w2 x (List.mem_of_mem_take hx)
        · rw [e]
          exact Nat.le_trans (value_pre _ _) w3
      have := one_num hd hw'
      rw [e2] at this
      exact .inl ⟨_, this⟩
    · subst hk2
      exact .inr (one_text_no hq (unq_cut _ _ _ hu j' (by omega)))
    · have hlen := (mark_len (c :: l)).2
      have hj0 : j' = 0 := by omega
      subst hj0
      have hc := mark_head hm
      have e : mark [c] = [c] := by rw [mark, if_pos hc]
      have := one_mark (l := []) hl hd hq (by rw [e]; simp)
      rw [e] at this
      exact .inl ⟨_, this⟩
end Culp.Tx

/- Sources cut, spread, written anew: the tokens of what comes of it; no program in sight. -/
namespace Culp.Tx
set_option linter.unusedSimpArgs false
set_option linter.unusedVariables false

theorem behind_take : ∀ (b : Bool) (l : List UInt8) (n : Nat), behind b (l.take n) = min (behind b l) n
  | b, [], n => by cases b <;> simp [behind]
  | b, c :: l, 0 => by cases b <;> simp [behind]
  | true, c :: l, n + 1 => by
    rw [List.take_succ_cons, behind, behind, behind_take]; omega
  | false, c :: l, n + 1 => by
    rw [List.take_succ_cons, behind, behind, behind_take, behind_take]
    split
    · omega
    · split <;> omega
/-- Blanks and whole remarks. -/
def Clean (z : List UInt8) : Prop := ∀ l, behind false (z ++ l) = z.length + behind false l
theorem Clean.nil : Clean [] := fun l => by simp
theorem Clean.app {a b : List UInt8} (ha : Clean a) (hb : Clean b) : Clean (a ++ b) := fun l => by rw [List.append_assoc, ha, hb]; simp; omega
theorem Clean.blank {c : UInt8} (h : blank c = true) : Clean [c] := fun l => by
  have : ¬ c.toNat = 35 := by unfold Tx.blank at h; simp only [decide_eq_true_eq] at h; omega
  rw [List.singleton_append, behind, if_neg this, if_pos h]; simp
theorem Clean.rep {c : UInt8} (h : Tx.blank c = true) : ∀ n, Clean (List.replicate n c)
  | 0 => Clean.nil
  | n + 1 => by rw [List.replicate_succ]; exact (Clean.blank h).app (Clean.rep h n)
theorem Clean.remark : Clean [35, 108, 101, 116, 32, 34, 10] := fun l => by simp [behind]; omega
theorem behind_zero {l : List UInt8} (h : behind false l < l.length) : behind false (l.drop (behind false l)) = 0 := by
  suffices H : ∀ (b : Bool) (l : List UInt8), behind b l < l.length → behind false (l.drop (behind b l)) = 0 from H false l h
  intro b l
  induction l generalizing b with
  | nil => intro h; cases b <;> simp [behind] at h
  | cons c l ih =>
    intro h
    cases b with
    | true =>
      rw [behind] at h ⊢
      rw [show 1 + behind (decide (c.toNat ≠ 10)) l = behind (decide (c.toNat ≠ 10)) l + 1 by omega, List.drop_succ_cons]
      exact ih _ (by simp at h ⊢; omega)
    | false =>
      rw [behind] at h ⊢
      split at h
      · rename_i h35
        rw [if_pos h35]
        rw [show 1 + behind true l = behind true l + 1 by omega, List.drop_succ_cons]
        exact ih _ (by simp at h ⊢; omega)
      · rename_i h35
        rw [if_neg h35]
        split at h
        · rename_i hb
          rw [if_pos hb]
          rw [show 1 + behind false l = behind false l + 1 by omega, List.drop_succ_cons]
          exact ih _ (by simp at h ⊢; omega)
        · rename_i hb
          rw [if_neg hb, List.drop_zero, behind, if_neg h35, if_neg hb]

theorem toksAt_none {p : Nat × Nat} {l : List UInt8} (h : behind false l = l.length) : toksAt p l = .ok [] := by rw [toksAt_eq, if_pos h]
theorem toksAt_bad {p : Nat × Nat} {l : List UInt8} {e : Nat} (h : behind false l ≠ l.length) (h1 : one (l.drop (behind false l)) = .error e) : toksAt p l = .error (e, further p (l.take (behind false l))) := by
  rw [toksAt_eq, if_neg h, h1]
theorem toksAt_step {p : Nat × Nat} {l : List UInt8} {t : Tk} {n : Nat} {r : List (Tk × (Nat × Nat))} (h : behind false l ≠ l.length) (h1 : one (l.drop (behind false l)) = .ok (t, n))
    (h2 : toksAt (further p (l.take (behind false l + n))) (l.drop (behind false l + n)) = .ok r) : toksAt p l = .ok ((t, further p (l.take (behind false l))) :: r) := by
  rw [toksAt_eq, if_neg h, h1]; simp only [h2]
theorem toksAt_step_bad {p : Nat × Nat} {l : List UInt8} {t : Tk} {n : Nat} {e : Nat × (Nat × Nat)} (h : behind false l ≠ l.length) (h1 : one (l.drop (behind false l)) = .ok (t, n))
    (h2 : toksAt (further p (l.take (behind false l + n))) (l.drop (behind false l + n)) = .error e) : toksAt p l = .error e := by
  rw [toksAt_eq, if_neg h, h1]; simp only [h2]
theorem toksAt_inv {p : Nat × Nat} {l : List UInt8} {L : List (Tk × (Nat × Nat))} (h : toksAt p l = .ok L) :
    (behind false l = l.length ∧ L = []) ∨ (behind false l < l.length ∧ ∃ t n r, one (l.drop (behind false l)) = .ok (t, n) ∧ toksAt (further p (l.take (behind false l + n))) (l.drop (behind false l + n)) = .ok r ∧ L = (t, further p (l.take (behind false l))) :: r) := by
  rw [toksAt_eq] at h
  split at h
  · injection h with h; exact .inl ⟨by assumption, h.symm⟩
  rename_i hne
  have := behind_le false l
  split at h
  · cases h
  · rename_i t n h1
    split at h
    · cases h
    · rename_i r h2
      injection h with h
      exact .inr ⟨by omega, t, n, r, h1, h2, h.symm⟩

/-- A source that is cut: its tokens are the first ones, and perhaps one more; or its fault stands at one of them. -/
theorem toks_cut : ∀ (f : Nat) (l : List UInt8) (p : Nat × Nat) (L : List (Tk × (Nat × Nat))) (n : Nat), l.length ≤ f → toksAt p l = .ok L → n ≤ l.length →
    (∃ A B x, toksAt p (l.take n) = .ok (A ++ x) ∧ L = A ++ B ∧ x.length ≤ 1) ∨ (∃ q, toksAt p (l.take n) = .error (14, q) ∧ ∃ t, (t, q) ∈ L)
  | f, l, p, L, n, hf, h, hn => by
    rcases toksAt_inv h with ⟨h1, rfl⟩ | ⟨h1, t, m, r, h2, h3, rfl⟩
    · exact .inl ⟨[], [], [], toksAt_none (by rw [behind_take, List.length_take, h1, Nat.min_comm]), rfl, by simp⟩
    have hb := one_bounds h2
    rw [List.length_drop] at hb
    by_cases c1 : n ≤ behind false l
    · exact .inl ⟨[], _, [], toksAt_none (by rw [behind_take, List.length_take]; omega), rfl, by simp⟩
    have e1 : behind false (l.take n) = behind false l := by rw [behind_take]; omega
    have e2 : behind false (l.take n) ≠ (l.take n).length := by rw [e1, List.length_take]; omega
    have e3 : (l.take n).drop (behind false (l.take n)) = (l.drop (behind false l)).take (n - behind false l) := by rw [e1, List.drop_take]
    have e4 : (l.take n).take (behind false (l.take n)) = l.take (behind false l) := by rw [e1, List.take_take]; congr 1; omega
    by_cases c2 : behind false l + m ≤ n
    · have e5 : one ((l.take n).drop (behind false (l.take n))) = .ok (t, m) := by rw [e3]; exact one_take h2 (by omega)
      have e6 : (l.take n).drop (behind false (l.take n) + m) = (l.drop (behind false l + m)).take (n - (behind false l + m)) := by rw [e1, List.drop_take]
      have e7 : (l.take n).take (behind false (l.take n) + m) = l.take (behind false l + m) := by rw [e1, List.take_take]; congr 1; omega
      cases f with
      | zero => omega
      | succ f =>
      rcases toks_cut f (l.drop (behind false l + m)) _ r (n - (behind false l + m)) (by rw [List.length_drop]; omega) h3 (by rw [List.length_drop]; omega) with ⟨A, B, x, i1, i2, i3⟩ | ⟨q, i1, t', i2⟩
      · left
        refine ⟨(t, further p (l.take (behind false l))) :: A, B, x, ?_, by rw [i2]; rfl, i3⟩
        have := toksAt_step (p := p) e2 e5 (r := A ++ x) (by rw [e6, e7]; exact i1)
        rw [this, e4]; rfl
      · right
        exact ⟨q, toksAt_step_bad e2 e5 (by rw [e6, e7]; exact i1), t', List.mem_cons_of_mem _ i2⟩
    · rcases one_cut h2 (j := n - behind false l) (by omega) (by omega) with ⟨t', ht⟩ | he
      · left
        refine ⟨[], _, [(t', further p (l.take (behind false l)))], ?_, rfl, by simp⟩
        have := toksAt_step (p := p) (l := l.take n) (t := t') (n := n - behind false l) (r := []) e2 (by rw [e3]; exact ht) (by
          refine toksAt_none ?_
          rw [e1, List.drop_of_length_le (by rw [List.length_take]; omega)]; rfl)
        rw [this, e4]; rfl
      · right
        refine ⟨_, toksAt_bad e2 (by rw [e3]; exact he), t, ?_⟩
        rw [e4]; exact List.mem_cons_self

/-- Pieces with blanks and remarks ahead of each. -/
def spread : List (List UInt8 × List UInt8) → List UInt8
  | [] => []
  | (z, r) :: l => z ++ (r ++ spread l)
/-- Two lists, place by place. -/
inductive All2 {α β : Type} (R : α → β → Prop) : List α → List β → Prop
  | nil : All2 R [] []
  | cons {a : α} {b : β} {l : List α} {m : List β} : R a b → All2 R l m → All2 R (a :: l) (b :: m)
theorem All2.snoc {α β : Type} {R : α → β → Prop} {a : α} {b : β} {l : List α} {m : List β} (h : All2 R l m) (hr : R a b) : All2 R (l ++ [a]) (m ++ [b]) := by
  induction h with
  | nil => exact .cons hr .nil
  | cons h _ ih => exact .cons h ih
/-- What a piece must be: blanks first, then what is read as this token. -/
def Piece (x : List UInt8 × List UInt8) (t : Tk) : Prop := Clean x.1 ∧ (∃ c y, x.1 = c :: y ∧ (blank c = true ∨ c.toNat = 35)) ∧ ∃ l, one l = .ok (t, x.2.length) ∧ l.take x.2.length = x.2
theorem spread_stop : ∀ (l : List (List UInt8 × List UInt8)) (T : List Tk), All2 Piece l T → Stop (spread l)
  | [], _, _ => .inl rfl
  | (z, r) :: l, _ :: _, h => by
    cases h with
    | cons h _ =>
      obtain ⟨_, ⟨c, y, h1, h2⟩, _⟩ := h
      simp at h1
      right
      refine ⟨c, y ++ (r ++ spread l), ?_, h2⟩
      rw [spread, h1]; rfl
theorem snoc_ind {α : Type} {P : List α → Prop} (h0 : P []) (h1 : ∀ l c, P l → P (l ++ [c])) : ∀ l, P l := fun l => by
  rw [← List.reverse_reverse l]
  induction l.reverse with
  | nil => exact h0
  | cons c m ih => rw [List.reverse_cons]; exact h1 _ _ ih
/-- Their tokens. -/
theorem spread_toks : ∀ (l : List (List UInt8 × List UInt8)) (T : List Tk) (p : Nat × Nat), All2 Piece l T → ∃ L, toksAt p (spread l) = .ok L ∧ L.map Prod.fst = T
  | [], [], p, _ => ⟨[], toksAt_none rfl, rfl⟩
  | (z, r) :: l, t :: T, p, h => by
    cases h with
    | cons h hr =>
      obtain ⟨h1, _, l0, h2, h3⟩ := h
      simp only at h1 h2 h3
      have st := spread_stop l T hr
      have ho : one (r ++ spread l) = .ok (t, r.length) := by
        have := one_stable h2 st
        rw [h3] at this; exact this
      have hb := one_bounds ho
      have hz : behind false (r ++ spread l) = 0 := by
        cases hx : r ++ spread l with
        | nil => rw [hx] at ho; simp [one] at ho
        | cons c y =>
          rw [hx] at ho
          rw [behind]
          have : ¬ c.toNat = 35 ∧ ¬ blank c = true := by
            rcases one_cases ho with ⟨hl, _⟩ | ⟨_, hd, _⟩ | ⟨_, _, hq, _⟩ | ⟨_, _, _, hm, _⟩
            · unfold letter at hl; simp only [decide_eq_true_eq] at hl; unfold blank; simp only [decide_eq_true_eq]; omega
            · unfold digit at hd; simp only [decide_eq_true_eq] at hd; unfold blank; simp only [decide_eq_true_eq]; omega
            · unfold blank; simp only [decide_eq_true_eq]; omega
            · have := mark_head hm
              unfold blank; simp only [decide_eq_true_eq]
              simp only [marks1, List.mem_cons, List.not_mem_nil, or_false] at this
              rcases this with rfl | rfl | rfl | rfl | rfl | rfl | rfl | rfl | rfl | rfl | rfl | rfl | rfl | rfl | rfl | rfl | rfl <;> decide
          rw [if_neg this.1, if_neg this.2]
      have hbe : behind false (spread ((z, r) :: l)) = z.length := by rw [spread, h1, hz]; rfl
      obtain ⟨L, i1, i2⟩ := spread_toks l T (further p ((spread ((z, r) :: l)).take (z.length + r.length))) hr
      refine ⟨_, toksAt_step (t := t) (n := r.length) (r := L) ?_ ?_ ?_, ?_⟩
      · rw [hbe, spread]; simp; intro h0; rw [h0] at hb; simp at hb
      · rw [hbe, spread, List.drop_left]; exact ho
      · rw [hbe]
        have : (spread ((z, r) :: l)).drop (z.length + r.length) = spread l := by
          rw [spread, ← List.append_assoc, List.drop_left' (by simp)]
        rw [this]; exact i1
      · rw [List.map_cons, i2]

/-- A number in tens. -/
def tens : Nat → Nat → List UInt8
  | 0, _ => []
  | f + 1, n => if n = 0 then [] else tens f (n / 10) ++ [UInt8.ofNat (48 + n % 10)]
def decimal (n : Nat) : List UInt8 := if n = 0 then [48] else tens 20 n
theorem tens_more : ∀ (f g n : Nat), n < 10 ^ f → n < 10 ^ g → tens f n = tens g n
  | 0, 0, _, _, _ => rfl
  | 0, g + 1, n, h, _ => by
    have : n = 0 := by simp at h; omega
    subst this; simp [tens]
  | f + 1, 0, n, _, h => by
    have : n = 0 := by simp at h; omega
    subst this; simp [tens]
  | f + 1, g + 1, n, hf, hg => by
    rw [tens, tens]
    split
    · rfl
    · rw [tens_more f g (n / 10) (by rw [Nat.pow_succ] at hf; omega) (by rw [Nat.pow_succ] at hg; omega)]
theorem tens_value : ∀ (f : Nat) (l : List UInt8), l.all digit = true → l.length ≤ f → (∀ c, l.head? = some c → c.toNat ≠ 48) → tens f (value l) = l := by
  intro f
  induction f with
  | zero => intro l _ h _; have : l = [] := List.eq_nil_of_length_eq_zero (by omega); subst this; rfl
  | succ f ih =>
    intro l hd hl hh
    rcases List.eq_nil_or_concat l with rfl | ⟨m, c, rfl⟩
    · simp [tens, value]
    · rw [List.concat_eq_append] at *
      rw [List.all_append, Bool.and_eq_true] at hd
      obtain ⟨hd1, hd2⟩ := hd
      simp only [List.all_cons, List.all_nil, Bool.and_true] at hd2
      unfold digit at hd2
      simp only [decide_eq_true_eq] at hd2
      rw [value_snoc]
      have hm : tens f (value m) = m := by
        refine ih m hd1 (by simp at hl; omega) fun x hx => hh x ?_
        cases m with
        | nil => simp at hx
        | cons y m => simpa using hx
      have hnz : ¬ (10 * value m + (c.toNat - 48) = 0) := by
        intro h0
        have hv : value m = 0 := by omega
        have hc : c.toNat = 48 := by omega
        rw [hv] at hm
        have hm0 : m = [] := by
          cases f with
          | zero => simpa [tens] using hm.symm
          | succ f => simpa [tens] using hm.symm
        subst hm0
        exact hh c rfl hc
      rw [tens, if_neg hnz]
      have e1 : (10 * value m + (c.toNat - 48)) / 10 = value m := by omega
      have e2 : 48 + (10 * value m + (c.toNat - 48)) % 10 = c.toNat := by omega
      rw [e1, e2, hm, UInt8.ofNat_toNat]
theorem value_zero : ∀ (l : List UInt8), l.all digit = true → value l = 0 → ∀ c ∈ l, c.toNat = 48 := by
  refine snoc_ind ?_ ?_
  · intro _ _ c hc; cases hc
  · intro l c ih hd hv x hx
    rw [List.all_append, Bool.and_eq_true] at hd
    obtain ⟨hd1, hd2⟩ := hd
    simp only [List.all_cons, List.all_nil, Bool.and_true] at hd2
    unfold digit at hd2
    simp only [decide_eq_true_eq] at hd2
    rw [value_snoc] at hv
    rcases List.mem_append.1 hx with h | h
    · exact ih hd1 (by omega) x h
    · simp at h; subst h; omega
theorem value_ge : ∀ (l : List UInt8), l.all digit = true → (∀ c, l.head? = some c → c.toNat ≠ 48) → l ≠ [] → 10 ^ (l.length - 1) ≤ value l := by
  refine snoc_ind ?_ ?_
  · intro _ _ h; exact absurd rfl h
  · intro l c ih hd hh _
    rw [List.all_append, Bool.and_eq_true] at hd
    obtain ⟨hd1, hd2⟩ := hd
    simp only [List.all_cons, List.all_nil, Bool.and_true] at hd2
    unfold digit at hd2
    simp only [decide_eq_true_eq] at hd2
    rw [value_snoc]
    cases l with
    | nil =>
      have := hh c rfl
      simp; omega
    | cons y m =>
      have := ih hd1 (fun x hx => hh x (by simpa using hx)) (by simp)
      simp only [List.length_append, List.length_cons, List.length_nil] at this ⊢
      have e : m.length + 1 + (0 + 1) - 1 = (m.length + 1 - 1) + 1 := by omega
      rw [e, Nat.pow_succ]; omega
/-- How a token is written. -/
def said (t : Tk) : List UInt8 := if t.kind = 4 then (quote t.s).getD [] else if t.kind = 3 then decimal t.n else t.s
theorem worth_decimal {l : List UInt8} {n : Nat} (h : worth l = some n) (hl : l ≠ []) : decimal n = l := by
  obtain ⟨h0, h1, h2, rfl⟩ := worth_some h
  unfold decimal
  by_cases hz : l.head? = some 48
  · have hl1 : l.length = 1 := by
      have := List.length_pos_iff.2 hl
      have : ¬ 1 < l.length := fun h => h0 ⟨hz, h⟩
      omega
    match l, hl1 with
    | [c], _ => simp at hz; subst hz; rfl
  · have hh : ∀ c, l.head? = some c → c.toNat ≠ 48 := fun c hc h48 => hz (by rw [hc]; congr 1; exact UInt8.toNat_inj.1 h48)
    have hge := value_ge l h1 hh hl
    have hv : value l ≠ 0 := by
      have : 0 < 10 ^ (l.length - 1) := Nat.pow_pos (by omega)
      omega
    rw [if_neg hv]
    refine tens_value 20 l h1 ?_ hh
    by_cases h20 : l.length ≤ 20
    · exact h20
    · have : 10 ^ 20 ≤ 10 ^ (l.length - 1) := Nat.pow_le_pow_right (by omega) (by omega)
      omega
theorem said_raw {l : List UInt8} {t : Tk} {k : Nat} (h : one l = .ok (t, k)) : said t = l.take k := by
  cases l with
  | nil => simp [one] at h
  | cons c l =>
    rcases one_cases h with ⟨hl, h32, rfl, rfl⟩ | ⟨hl, hd, n, hw, rfl, rfl⟩ | ⟨hl, hd, hq, s, j, hu, hs, rfl, rfl⟩ | ⟨hl, hd, hq, hm, rfl, rfl⟩
    · rw [run_take]; unfold said
      have hk : ∀ b : Bool, ¬ (if b = true then 1 else 2) = 4 ∧ ¬ (if b = true then 1 else 2) = 3 := by decide
      simp only
      rw [if_neg (hk _).1, if_neg (hk _).2]
    · rw [run_take]; unfold said
      simp only
      rw [if_neg (by omega), if_pos trivial]
      refine worth_decimal hw ?_
      unfold run; rw [List.takeWhile_cons, if_pos (digit_inner hd)]; simp
    · unfold said
      obtain ⟨u1, u2⟩ := unq_escs _ _ _ hu
      have hc : c = 34 := UInt8.toNat_inj.1 hq
      simp only [if_true]
      unfold quote
      rw [if_neg (by omega), u1, List.take_succ_cons, u2, hc]
      rfl
    · rw [mark_take]; unfold said
      simp
end Culp.Tx

/- Words, names, quotes, limits: their tokens; no program in sight. -/
namespace Culp.Tx
set_option linter.unusedSimpArgs false
set_option linter.unusedVariables false

theorem words_short : ∀ s ∈ words, 2 ≤ s.length ∧ s.length ≤ 6 ∧ s.all inner = true ∧ (s.head?.map letter).getD false = true := by decide
theorem isWord_mem {s : List UInt8} (h : isWord s = true) : s ∈ words := by unfold isWord at h; simpa using h
theorem behind_letter {c : UInt8} {l : List UInt8} (h : letter c = true) : behind false (c :: l) = 0 := by
  unfold letter at h; simp only [decide_eq_true_eq] at h
  rw [behind, if_neg (by omega), if_neg]
  unfold blank; simp only [decide_eq_true_eq]; omega
theorem letter_toks {c : UInt8} {l : List UInt8} (h : letter c = true) (ha : (c :: l).all inner = true) (hl : (c :: l).length ≤ 32) :
    toks (c :: l) = .ok [(⟨if isWord (c :: l) = true then 1 else 2, 0, c :: l⟩, (1, 1))] := by
  unfold toks
  rw [if_neg (by omega)]
  have hr := run_all ha
  have h1 := one_word (l := l) h (by rw [hr]; exact hl)
  rw [hr] at h1
  have := toksAt_step (p := (1, 1)) (l := c :: l) (r := []) (by rw [behind_letter h]; simp) (by rw [behind_letter h]; exact h1) (by
    refine toksAt_none ?_
    rw [behind_letter h, List.drop_of_length_le (by simp)]; rfl)
  rw [this, behind_letter h]; rfl
theorem name_toks {s : List UInt8} (h : isName s = true) : toks s = .ok [(⟨2, 0, s⟩, (1, 1))] := by
  unfold isName at h
  simp only [Bool.and_eq_true, decide_eq_true_eq, Bool.not_eq_true'] at h
  obtain ⟨⟨⟨⟨h1, h2⟩, h3⟩, h4⟩, h5⟩ := h
  cases s with
  | nil => exact absurd rfl h1
  | cons c l =>
    have := letter_toks (by simpa using h3) h5 h2
    rw [h4] at this; simpa using this
theorem word_toks {s : List UInt8} (h : isWord s = true) : toks s = .ok [(⟨1, 0, s⟩, (1, 1))] := by
  obtain ⟨_, h2, h5, h3⟩ := words_short s (isWord_mem h)
  cases s with
  | nil => simp at h3
  | cons c l =>
    have := letter_toks (by simpa using h3) h5 (by omega)
    rw [h] at this; simpa using this
theorem toks_small {s : List UInt8} {L : List (Tk × (Nat × Nat))} (h : toks s = .ok L) : s.length ≤ 65536 ∧ toksAt (1, 1) s = .ok L := by
  unfold toks at h
  split at h
  · cases h
  · exact ⟨by omega, h⟩
theorem toks_alone {s : List UInt8} {t : Tk} {q : Nat × Nat} (h : toks s = .ok [(t, q)]) (hs : t.s = s) : (t.kind = 2 → isName s = true) ∧ (t.kind = 1 → isWord s = true) := by
  have hk : ∀ b : Bool, ¬ (if b = true then 1 else 2) = 4 := by decide
  rcases toksAt_inv (toks_small h).2 with ⟨_, h1⟩ | ⟨h0, t', n, r, h2, _, h1⟩
  · cases h1
  · injection h1 with h1; injection h1 with h1; subst h1
    cases hd : s.drop (behind false s) with
    | nil => rw [hd] at h2; simp [one] at h2
    | cons c l =>
      rw [hd] at h2
      rcases one_cases h2 with ⟨hl, h32, rfl, _⟩ | ⟨_, _, n, _, rfl, _⟩ | ⟨_, _, _, a, j, _, _, rfl, _⟩ | ⟨_, _, _, _, rfl, _⟩
      · simp only at hs ⊢
        have e : s = c :: l := by
          have h3 := run_len (c :: l)
          rw [hs, ← hd, List.length_drop] at h3
          have : behind false s = 0 := by omega
          rw [this] at hd; exact hd
        rw [hs] at h32 ⊢
        have hi := run_inner (c :: l)
        rw [hs] at hi
        cases hw : isWord s with
        | true => simp
        | false =>
          simp only [if_neg Bool.false_ne_true, forall_const]
          refine ⟨?_, by omega⟩
          unfold isName
          rw [hw, hi]
          simp only [Bool.and_eq_true, decide_eq_true_eq]
          refine ⟨⟨⟨⟨?_, h32⟩, ?_⟩, rfl⟩, trivial⟩
          · rw [e]; simp
          · rw [e]; simpa using hl
      all_goals simp
/-- A text that is quoted. -/
theorem escs_unq : ∀ (s m : List UInt8), escs s = some m → m.length ≤ 2 * s.length ∧ ∀ z, unq (m ++ 34 :: z) = some (s, m.length + 1)
  | [], m, h => by
    simp [escs] at h; subst h
    refine ⟨by simp, fun z => ?_⟩
    cases z <;> simp [unq]
  | c :: s, m, h => by
    unfold escs at h
    split at h
    · rename_i a b h1 h2
      injection h with h; subst h
      obtain ⟨i1, i2⟩ := escs_unq s b h2
      unfold esc at h1
      split at h1
      · rename_i hc
        injection h1 with h1; subst h1
        have ec : c = 10 := UInt8.toNat_inj.1 hc
        subst ec
        refine ⟨by simp; omega, fun z => ?_⟩
        have := i2 z
        simp only [List.cons_append, List.nil_append, List.length_cons]
        rw [unq, this]; rfl
      rename_i h10
      split at h1
      · cases h1
      rename_i hr
      split at h1
      · rename_i hq
        injection h1 with h1; subst h1
        refine ⟨by simp; omega, fun z => ?_⟩
        have := i2 z
        simp only [List.cons_append, List.nil_append, List.length_cons]
        rw [unq, if_neg (by decide), if_pos (by decide), if_pos hq, this]; rfl
      · rename_i hq
        injection h1 with h1; subst h1
        refine ⟨by simp; omega, fun z => ?_⟩
        have := i2 z
        simp only [List.cons_append, List.nil_append, List.length_cons]
        cases hb : b ++ 34 :: z with
        | nil => simp at hb
        | cons d y =>
          rw [hb] at this
          rw [unq, if_neg (by omega), if_neg (by omega), if_neg hr, this]; rfl
    · cases h
theorem quote_some {s q : List UInt8} (h : quote s = some q) : ∃ m, escs s = some m ∧ q = 34 :: m ++ [34] ∧ s.length ≤ 64 ∧ q.length ≤ 130 := by
  unfold quote at h
  split at h
  · cases h
  · simp only [Option.map_eq_some_iff] at h
    obtain ⟨m, h1, rfl⟩ := h
    have := (escs_unq s m h1).1
    exact ⟨m, h1, rfl, by omega, by simp; omega⟩
theorem quote_toks {s q : List UInt8} (h : quote s = some q) : toks q = .ok [(⟨4, 0, s⟩, (1, 1))] := by
  obtain ⟨m, h1, rfl, h2, h3⟩ := quote_some h
  have hu := (escs_unq s m h1).2 []
  unfold toks
  rw [if_neg (by omega)]
  have hb : behind false (34 :: m ++ [34]) = 0 := by
    rw [List.cons_append, behind, if_neg (by decide), if_neg (by decide)]
  have ho : one (34 :: m ++ [34]) = .ok (⟨4, 0, s⟩, m.length + 1 + 1) := one_text rfl hu h2
  have := toksAt_step (p := (1, 1)) (l := 34 :: m ++ [34]) (r := []) (by rw [hb]; simp) (by rw [hb]; exact ho) (by
    refine toksAt_none ?_
    rw [hb, List.drop_of_length_le (by simp)]; rfl)
  rw [this, hb]; rfl
theorem blanks_toks : ∀ n, n ≤ 65536 → toks (List.replicate n 32) = .ok [] := fun n h => by
  unfold toks
  rw [if_neg (by simp; omega)]
  refine toksAt_none ?_
  have := Clean.rep (c := 32) (by decide) n []
  simpa [behind] using this
theorem long_toks {l : List UInt8} (h : 65536 < l.length) : toks l = .error (10, (0, 0)) := by unfold toks; rw [if_pos h]
/-- The limits. -/
theorem lim1 : toks (List.replicate 32 97) = .ok [(⟨2, 0, List.replicate 32 97⟩, (1, 1))] := name_toks (by decide)
theorem lim2 : toks (List.replicate 33 97) = .error (12, (1, 1)) := by rfl
theorem lim3 : toks [57,50,50,51,51,55,50,48,51,54,56,53,52,55,55,53,56,48,55] = .ok [(⟨3, 9223372036854775807, []⟩, (1, 1))] := by rfl
theorem lim4 : toks [57,50,50,51,51,55,50,48,51,54,56,53,52,55,55,53,56,48,56] = .error (13, (1, 1)) := by rfl
theorem lim5 : toks [57,50,50,51,51,55,50,48,51,54,56,53,52,55,55,53,56,48,55,48] = .error (13, (1, 1)) := by rfl
def newlines (n : Nat) : List UInt8 := (List.replicate n [92, 110]).flatten
set_option maxRecDepth 100000 in
theorem lim6 : toks (34 :: newlines 64 ++ [34]) = .ok [(⟨4, 0, List.replicate 64 10⟩, (1, 1))] := by rfl
set_option maxRecDepth 100000 in
theorem lim7 : toks (34 :: newlines 64 ++ [120, 34]) = .error (14, (1, 1)) := by rfl
/-- How many first ones are the same. -/
def same {α : Type} [DecidableEq α] : List α → List α → Nat
  | a :: l, b :: m => if a = b then 1 + same l m else 0
  | _, _ => 0
theorem same_app {α : Type} [DecidableEq α] : ∀ (A x B : List α), A.length ≤ same (A ++ x) (A ++ B)
  | [], _, _ => by simp
  | a :: A, x, B => by
    have := same_app A x B
    simp only [List.cons_append, same, if_true, List.length_cons]; omega
theorem same_stop {α : Type} [DecidableEq α] : ∀ (k : Nat) (l m : List α), (∀ i, i < k → l[i]? = m[i]?) → k ≤ l.length → (k < l.length → k < m.length → l[k]? ≠ m[k]?) → k ≤ m.length → same l m = k
  | 0, l, m, _, _, h, _ => by
    cases l with
    | nil => simp [same]
    | cons a l =>
      cases m with
      | nil => simp [same]
      | cons b m =>
        have := h (by simp) (by simp)
        simp at this
        simp [same, this]
  | k + 1, l, m, h0, h1, h, h2 => by
    cases l with
    | nil => simp at h1
    | cons a l =>
      cases m with
      | nil => simp at h2
      | cons b m =>
        have := h0 0 (by omega)
        simp at this
        subst this
        have := same_stop k l m (fun i hi => by have := h0 (i + 1) (by omega); simpa using this) (by simpa using h1) (fun a b => by have := h (by simp; omega) (by simp; omega); simpa using this) (by simpa using h2)
        simp only [same, if_true]; omega
end Culp.Tx

/- Plain: trees: which lists may be, what the program and the document answer of them. -/
namespace Culp.Tr
set_option linter.unusedSimpArgs false
set_option linter.unusedVariables false
open Culp

/-- How many kids a kind has: -1: any number; -2: it is none. -/
def arit (k : Int) : Int :=
  if k = 1 ∨ k = 2 ∨ k = 3 ∨ k = 4 then 0
  else if k = 5 ∨ k = 6 ∨ k = 29 ∨ k = 30 ∨ k = 16 ∨ k = 17 ∨ k = 19 ∨ k = 20 ∨ k = 22 ∨ k = 23 ∨ k = 24 ∨ k = 26 ∨ k = 27 then 1
  else if k = 8 ∨ k = 7 ∨ k = 10 ∨ k = 11 ∨ k = 12 ∨ k = 13 ∨ k = 14 ∨ k = 15 ∨ k = 18 ∨ k = 25 ∨ k = 28 then 2
  else if k = 9 then 3
  else if k = 21 then -1
  else -2
theorem arit_bounds (k : Int) : -2 ≤ arit k ∧ arit k ≤ 3 := by
  unfold arit
  split
  · omega
  split
  · omega
  split
  · omega
  split
  · omega
  split <;> omega
/-- An annotation, or none. -/
def note (t : List UInt8) : Bool := decide (t = []) || isTy t
/-- A text parted at its first blank. -/
def two : List UInt8 → Option (List UInt8 × List UInt8)
  | [] => none
  | c :: l => if c.toNat = 32 then some ([], l) else (two l).map fun x => (c :: x.1, x.2)
def twoOk (s : List UInt8) : Bool := match two s with
  | none => false
  | some (a, b) => Tx.isName a && Tx.isName b
/-- What a node's kind lets it bear. -/
def nOk (x : Nd) : Bool := if x.kind = 1 then decide (0 ≤ x.n) else if x.kind = 3 then decide (x.n = 0) || decide (x.n = 1) else decide (x.n = 0)
def sOk (k : Int) (s : List UInt8) : Bool := if k = 2 then (Tx.quote s).isSome else if k = 4 ∨ k = 5 ∨ k = 8 then Tx.isName s else if k = 6 then twoOk s else decide (s = [])
def tOk (k : Int) (t : List UInt8) : Bool := if k = 5 ∨ k = 6 ∨ k = 8 then note t else if k = 29 then isTy t else decide (t = [])
def uOk (k : Int) (u : List UInt8) : Bool := if k = 5 ∨ k = 6 then note u else decide (u = [])
def kOk (x : Nd) : Bool := decide (x.kind ≠ 30) && decide (0 ≤ x.kids) && (decide (arit x.kind = -1) || decide (arit x.kind = x.kids))
/-- May a node stand in a source's tree? -/
def may (x : Nd) : Bool := kOk x && nOk x && sOk x.kind x.s.data.toList && tOk x.kind x.t.data.toList && uOk x.kind x.u.data.toList
theorem may_kids {x : Nd} (h : may x = true) : 0 ≤ x.kids := by
  unfold may kOk at h
  simp only [Bool.and_eq_true, decide_eq_true_eq] at h
  exact h.1.1.1.1.1.2

/-- The open parts, the innermost first: those that are full are left. -/
def pop (S : List Int) : List Int := S.dropWhile (· == 0)
theorem pop_sum : ∀ S : List Int, (pop S).sum = S.sum
  | [] => rfl
  | c :: S => by
    unfold pop
    rw [List.dropWhile_cons]
    split
    · rename_i h
      have hc : c = 0 := by simpa using h
      have := pop_sum S
      unfold pop at this
      rw [this, hc]; simp
    · rfl
theorem pop_head {S : List Int} {c : Int} {r : List Int} (h : pop S = c :: r) : c ≠ 0 := by
  intro hc
  have := List.head_dropWhile_not (p := (· == (0 : Int))) (l := S) (by unfold pop at h; rw [h]; simp)
  unfold pop at h
  simp [h, hc] at this
theorem pop_mem {S : List Int} {n : Int} (h : n ∈ pop S) : n ∈ S := (List.dropWhile_sublist _).subset h
theorem sum_nonneg : ∀ S : List Int, (∀ n ∈ S, 0 ≤ n) → 0 ≤ S.sum
  | [], _ => by simp
  | c :: S, h => by
    have h1 := h c List.mem_cons_self
    have h2 := sum_nonneg S fun n hn => h n (List.mem_cons_of_mem _ hn)
    rw [List.sum_cons]; omega
theorem pop_nil {S : List Int} (h0 : ∀ n ∈ S, 0 ≤ n) : pop S = [] ↔ S.sum = 0 := by
  constructor
  · intro h
    rw [← pop_sum, h]; rfl
  · intro h
    cases hp : pop S with
    | nil => rfl
    | cons c r =>
      have h1 := pop_head hp
      have h2 := h0 c (pop_mem (by rw [hp]; exact List.mem_cons_self))
      have h3 := sum_nonneg r fun n hn => h0 n (pop_mem (by rw [hp]; exact List.mem_cons_of_mem _ hn))
      have h4 := pop_sum S
      rw [hp, List.sum_cons] at h4
      omega
theorem any_pos {S : List Int} (h0 : ∀ n ∈ S, 0 ≤ n) : S.any (fun n => decide (0 < n)) = decide (0 < S.sum) := by
  induction S with
  | nil => rfl
  | cons c S ih =>
    have h1 := h0 c List.mem_cons_self
    have h2 := sum_nonneg S fun n hn => h0 n (List.mem_cons_of_mem _ hn)
    rw [List.any_cons, ih fun n hn => h0 n (List.mem_cons_of_mem _ hn), List.sum_cons, Bool.eq_iff_iff]
    simp only [Bool.or_eq_true, decide_eq_true_eq]
    omega
/-- The rest of a list, as the program looks at it. -/
def scan : List Nd → List Int → Nat → Option Nat → Nat × Nat
  | [], S, i, d => if S.any (fun n => decide (0 < n)) = true then (18, i) else match d with | some j => (16, j) | none => (0, 0)
  | x :: l, S, i, d => match pop S with
    | [] => (18, i)
    | c :: r => if may x = true then scan l (x.kids :: (c - 1) :: r) (i + 1) (if d.isNone = true ∧ 64 < r.length + 1 then some i else d) else (18, i)
theorem scan_nil (S : List Int) (i : Nat) (d : Option Nat) : scan [] S i d = if S.any (fun n => decide (0 < n)) = true then (18, i) else match d with | some j => (16, j) | none => (0, 0) := rfl
theorem scan_cons (x : Nd) (l : List Nd) (S : List Int) (i : Nat) (d : Option Nat) : scan (x :: l) S i d = match pop S with
    | [] => (18, i)
    | c :: r => if may x = true then scan l (x.kids :: (c - 1) :: r) (i + 1) (if d.isNone = true ∧ 64 < r.length + 1 then some i else d) else (18, i) := rfl
/-- What the checker answers: the fault, and the node. -/
def check (T : List Nd) : Nat × Nat := if T.length = 0 ∨ 4096 < T.length then (17, 0) else scan T [1] 0 none
/-- The depths of the nodes, as far as parts are open. -/
def deps : List Nd → List Int → List Nat
  | [], _ => []
  | x :: l, S => match pop S with
    | [] => []
    | c :: r => (r.length + 1) :: deps l (max x.kids 0 :: (c - 1) :: r)
/-- How many nodes so many parts have. -/
def beh (N : Nat) : List Nd → Int → Option Nat
  | [], left => if left ≤ 0 then some 0 else none
  | x :: l, left => if left ≤ 0 then some 0 else if x.kids < 0 ∨ (N : Int) < x.kids then none else (beh N l (left - 1 + x.kids)).map (· + 1)
def behind (T : List Nd) (a : Int) : Nat := if a < 0 ∨ (T.length : Int) ≤ a then 0 else match beh T.length (T.drop a.toNat) 1 with
  | some k => a.toNat + k
  | none => 0
def firstBad (n : Nat) : List Nd → Nat → Option Nat
  | [], _ => none
  | x :: l, i => if may x = true ∧ i < n then firstBad n l (i + 1) else some i
def firstDeep : List Nat → Nat → Option Nat
  | [], _ => none
  | d :: l, i => if 64 < d then some i else firstDeep l (i + 1)
theorem beh_left (N : Nat) : ∀ (l : List Nd) (left : Int), beh N l left = some l.length → left ≤ l.length
  | [], left, h => by
    unfold beh at h
    split at h
    · simpa using (by assumption)
    · cases h
  | x :: l, left, h => by
    unfold beh at h
    split at h
    · rw [List.length_cons]; omega
    split at h
    · cases h
    · rename_i h1 h2
      simp only [Option.map_eq_some_iff] at h
      obtain ⟨k, hk, he⟩ := h
      rw [List.length_cons] at he ⊢
      have hkl : k = l.length := by omega
      subst hkl
      have := beh_left N l _ hk
      omega
theorem scan_eq (N : Nat) : ∀ (l : List Nd) (S : List Int) (i : Nat) (d : Option Nat), (∀ n ∈ S, 0 ≤ n) → l.length ≤ N →
    scan l S i d = match firstBad (i + (deps l S).length) l i with
      | some j => (18, j)
      | none => if beh N l S.sum = some l.length then (match d.or (firstDeep (deps l S) i) with | some j => (16, j) | none => (0, 0)) else (18, i + l.length)
  | [], S, i, d, h0, _ => by
    have hs := sum_nonneg S h0
    rw [scan_nil, any_pos h0]
    simp only [beh, deps, firstDeep, firstBad, List.length_nil, decide_eq_true_eq]
    by_cases h : 0 < S.sum
    · rw [if_pos h, if_neg (by rw [if_neg (by omega)]; simp)]; simp
    · rw [if_neg h, if_pos (by rw [if_pos (by omega)])]
      cases d <;> rfl
  | x :: l, S, i, d, h0, hN => by
    rw [scan_cons, deps, firstBad]
    cases hp : pop S with
    | nil => simp
    | cons c r =>
      simp only
      by_cases hm : may x = true
      · have hk := may_kids hm
        have h1 := pop_head hp
        have h2 := h0 c (pop_mem (by rw [hp]; exact List.mem_cons_self))
        have hr : ∀ n ∈ r, 0 ≤ n := fun n hn => h0 n (pop_mem (by rw [hp]; exact List.mem_cons_of_mem _ hn))
        have h3 := sum_nonneg r hr
        have h4 := pop_sum S
        rw [hp, List.sum_cons] at h4
        have hmax : max x.kids 0 = x.kids := by omega
        rw [List.length_cons] at hN
        have ih := scan_eq N l (x.kids :: (c - 1) :: r) (i + 1) (if d.isNone = true ∧ 64 < r.length + 1 then some i else d) (by
          intro n hn
          rcases List.mem_cons.1 hn with rfl | hn
          · exact hk
          rcases List.mem_cons.1 hn with rfl | hn
          · omega
          · exact hr n hn) (by omega)
        rw [if_pos hm, ih, hmax]
        have e1 : i + ((r.length + 1) :: deps l (x.kids :: (c - 1) :: r)).length = i + 1 + (deps l (x.kids :: (c - 1) :: r)).length := by rw [List.length_cons]; omega
        rw [e1, if_pos (show may x = true ∧ i < i + 1 + (deps l (x.kids :: (c - 1) :: r)).length from ⟨hm, by omega⟩)]
        cases firstBad (i + 1 + (deps l (x.kids :: (c - 1) :: r)).length) l (i + 1) with
        | some j => rfl
        | none =>
          simp only
          have e2 : (x.kids :: (c - 1) :: r).sum = S.sum - 1 + x.kids := by rw [List.sum_cons, List.sum_cons]; omega
          have e3 : beh N (x :: l) S.sum = some (x :: l).length ↔ beh N l (S.sum - 1 + x.kids) = some l.length := by
            rw [beh, if_neg (by omega)]
            by_cases hkN : (N : Int) < x.kids
            · rw [if_pos (.inr hkN)]
              constructor
              · intro h; cases h
              · intro h
                have := beh_left N l _ h
                omega
            · rw [if_neg (by omega), List.length_cons]
              simp
          have e4 : i + 1 + l.length = i + (x :: l).length := by rw [List.length_cons]; omega
          rw [e2, e4]
          simp only [e3]
          split
          · rw [firstDeep]
            cases d with
            | some j => simp
            | none =>
              by_cases hd : 64 < r.length + 1
              · rw [if_pos ⟨rfl, hd⟩, if_pos hd]; rfl
              · rw [if_neg (by simp [hd]), if_neg hd]
          · rfl
      · rw [if_neg hm, if_neg (by simp [hm])]
/-- What the document answers. -/
def refCheck (T : List Nd) : Nat × Nat := if T.length = 0 ∨ 4096 < T.length then (17, 0) else match firstBad (deps T [1]).length T 0 with
  | some j => (18, j)
  | none => if behind T 0 = T.length then (match firstDeep (deps T [1]) 0 with | some j => (16, j) | none => (0, 0)) else (18, T.length)
theorem check_eq (T : List Nd) : refCheck T = check T := by
  unfold refCheck check
  split
  · rfl
  · rename_i h
    rw [scan_eq T.length T [1] 0 none (by simp) (Nat.le_refl _), Nat.zero_add]
    cases firstBad (deps T [1]).length T 0 with
    | some j => rfl
    | none =>
      simp only
      have e : behind T 0 = T.length ↔ beh T.length T [1].sum = some T.length := by
        unfold behind
        rw [if_neg (by omega)]
        show (match beh T.length T 1 with | some k => 0 + k | none => 0) = T.length ↔ beh T.length T 1 = some T.length
        cases beh T.length T 1 with
        | none => simp; omega
        | some k => simp
      simp only [e, Nat.zero_add]
      rfl
end Culp.Tr

/- Memory: lists of nodes, environments; what a call may change beside what it makes. No program in sight. -/
namespace Culp
set_option linter.unusedSimpArgs false
set_option linter.unusedVariables false
open Go Go.RowKit

/-- A node's cells. -/
def Nd.cells (x : Nd) : List Value := [.int .i8 x.kind, .int .i64 x.kids, .int .i64 x.n, .string x.s, .string x.t, .string x.u, .int .i64 x.line, .int .i64 x.col]
def Nd.val (x : Nd) : Value := .agg x.cells.toArray

/-- Nodes lie from a place of a block on. -/
def NodesAt (w : World) (b off : Nat) (l : List Nd) : Prop := ∀ i x, l[i]? = some x → ∀ j u, x.cells[j]? = some u → w.cell? ⟨b, off + i * 8 + j, none⟩ = some u
/-- A slice that reads as nodes. -/
def Nodes (w : World) (v : Value) (l : List Nd) : Prop := ∃ A c, v = .slice A l.length c ∧ l.length ≤ c ∧ (0 < l.length → ∃ b off, A = some ⟨b, off, none⟩ ∧ NodesAt w b off l)
/-- A slice of types' texts. -/
def Tys (w : World) (v : Value) (l : List Ty) : Prop := (l = [] ∧ v = .slice none 0 0) ∨ ∃ g c, v = .slice (some ⟨g, 0, none⟩) l.length c ∧ ∀ i (h : i < l.length), w.cell? ⟨g, i, none⟩ = some (.string (l[i]).str)

/-- A block of three cells. -/
def Trio (g : Nat) (t : TypeId) (x y z : Value) (w : World) : Prop := w.heap[g]? = some (.cells #[x, y, z] t (0, 0))
section
variable {g : Nat} {t : TypeId} {x y z : Value} {w w' : World}
theorem Trio.lt (h : Trio g t x y z w) : g < w.heap.size := by
  rcases Nat.lt_or_ge g w.heap.size with hlt | hge
  · exact hlt
  · unfold Trio at h; rw [Array.getElem?_eq_none hge] at h; cases h
theorem Trio.c0 (h : Trio g t x y z w) : w.cell? ⟨g, 0, none⟩ = some x := by unfold Trio at h; simp [World.cell?, h]
theorem Trio.c1 (h : Trio g t x y z w) : w.cell? ⟨g, 1, none⟩ = some y := by unfold Trio at h; simp [World.cell?, h]
theorem Trio.c2 (h : Trio g t x y z w) : w.cell? ⟨g, 2, none⟩ = some z := by unfold Trio at h; simp [World.cell?, h]
theorem Trio.free (h : Trio g t x y z w) (i : Nat) : w.frozen? ⟨g, i, none⟩ = false := by unfold Trio at h; simp [World.frozen?, h]
theorem Trio.later (h : Trio g t x y z w) (hb : Below w.heap.size w w') : Trio g t x y z w' := (hb.block g h.lt).trans h
theorem Trio.set1 (h : Trio g t x y z w) (u : Value) : Trio g t x u z (w.setCell ⟨g, 1, none⟩ u) := by
  unfold Trio at h ⊢
  simp [World.setCell, Array.getElem?_modify, h]
/-- Whatever else is read lies elsewhere. -/
theorem Trio.ne_ (h : Trio g t x y z w) {b i : Nat} {u : Value} (hu : w.cell? ⟨b, i, none⟩ = some u) (h0 : u ≠ x) (h1 : u ≠ y) (h2 : u ≠ z) : b ≠ g := by
  rintro rfl
  unfold Trio at h
  simp only [World.cell?, h] at hu
  match i, hu with
  | 0, hu => simp at hu; exact h0 hu.symm
  | 1, hu => simp at hu; exact h1 hu.symm
  | 2, hu => simp at hu; exact h2 hu.symm
  | i + 3, hu => simp at hu
end

/-- What is read beside a checker's block, whose cells are a slice, an int and a map: numbers of eight bits and texts tell that they lie elsewhere. -/
theorem Tys.keep {g : Nat} {t : TypeId} {x z : Value} {p : Int} {w w' : World} {v : Value} {l : List Ty} (h : Tys w v l) (hk : Keep g w w') (ht : Trio g t x (.int .i64 p) z w) (hx : ∀ s, x ≠ .string s) (hz : ∀ s, z ≠ .string s) : Tys w' v l := by
  rcases h with h | ⟨b, c, hv, hc⟩
  · exact .inl h
  · exact .inr ⟨b, c, hv, fun i hi => hk.cell (hc i hi) (ht.ne_ (hc i hi) (fun e => hx _ e.symm) (by simp) (fun e => hz _ e.symm))⟩
theorem Tys.later {w w' : World} {v : Value} {l : List Ty} (h : Tys w v l) (hb : Below w.heap.size w w') : Tys w' v l := by
  rcases h with h | ⟨b, c, hv, hc⟩
  · exact .inl h
  · exact .inr ⟨b, c, hv, fun i hi => cell_later hb (hc i hi)⟩
/-- A row of the call's own reads so. -/
theorem Tys.own {w : World} {base : Nat} {e : TypeId} {v : Value} {n : Nat} {l : List Ty} (h : w.ownsRow base e 1 v n (l.map fun t => .string t.str)) : Tys w v l := by
  have hl : n = l.length := by have := h.1; simp at this; omega
  subst hl
  rcases h.2 with ⟨rfl, h0⟩ | ⟨g, cap, cur, rfl, hb, hh, hc, _, hsz, htk⟩
  · exact .inl ⟨List.eq_nil_of_length_eq_zero h0, rfl⟩
  · refine .inr ⟨g, cap, rfl, fun i hi => ?_⟩
    rw [h.cellAt i (by omega)]
    simp [hi]
theorem NodesAt.later {w w' : World} {b off : Nat} {l : List Nd} (h : NodesAt w b off l) (hb : Below w.heap.size w w') : NodesAt w' b off l := fun i x hx j u hu => cell_later hb (h i x hx j u hu)
theorem Nodes.later {w w' : World} {v : Value} {l : List Nd} (h : Nodes w v l) (hb : Below w.heap.size w w') : Nodes w' v l := by
  obtain ⟨A, c, hv, hl, hh⟩ := h
  refine ⟨A, c, hv, hl, fun h0 => ?_⟩
  obtain ⟨b, off, hA, hc⟩ := hh h0
  exact ⟨b, off, hA, hc.later hb⟩
theorem Nodes.keep {g : Nat} {t : TypeId} {x z : Value} {p : Int} {w w' : World} {v : Value} {l : List Nd} (h : Nodes w v l) (hk : Keep g w w') (ht : Trio g t x (.int .i64 p) z w)
    (hx : ∀ k n, x ≠ .int k n) (hz : ∀ k n, z ≠ .int k n) : Nodes w' v l := by
  obtain ⟨A, c, hv, hl, hh⟩ := h
  refine ⟨A, c, hv, hl, fun h0 => ?_⟩
  obtain ⟨b, off, hA, hc⟩ := hh h0
  refine ⟨b, off, hA, fun i y hy j u hu => hk.cell (hc i y hy j u hu) ?_⟩
  have h8 := hc i y hy 0 _ rfl
  exact ht.ne_ h8 (fun e => hx _ _ e.symm) (by simp) (fun e => hz _ _ e.symm)
/-- The cells of the node at a place. -/
theorem NodesAt.at_ {w : World} {b off : Nat} {l : List Nd} (h : NodesAt w b off l) {i : Nat} {x : Nd} (hx : l[i]? = some x) :
    w.cell? ⟨b, off + i * 8, none⟩ = some (.int .i8 x.kind) ∧ w.cell? ⟨b, off + i * 8 + 1, none⟩ = some (.int .i64 x.kids) ∧ w.cell? ⟨b, off + i * 8 + 2, none⟩ = some (.int .i64 x.n) ∧ w.cell? ⟨b, off + i * 8 + 3, none⟩ = some (.string x.s) ∧
    w.cell? ⟨b, off + i * 8 + 4, none⟩ = some (.string x.t) ∧ w.cell? ⟨b, off + i * 8 + 5, none⟩ = some (.string x.u) ∧ w.cell? ⟨b, off + i * 8 + 6, none⟩ = some (.int .i64 x.line) ∧ w.cell? ⟨b, off + i * 8 + 7, none⟩ = some (.int .i64 x.col) :=
  ⟨h i x hx 0 _ rfl, h i x hx 1 _ rfl, h i x hx 2 _ rfl, h i x hx 3 _ rfl, h i x hx 4 _ rfl, h i x hx 5 _ rfl, h i x hx 6 _ rfl, h i x hx 7 _ rfl⟩
end Culp

/- Memory: a block, whole. No program in sight. -/
namespace Culp
set_option linter.unusedSimpArgs false
set_option linter.unusedVariables false
open Go Go.RowKit
/-- A block, whole. -/
def Blk (g : Nat) (cs : Array Value) (t : TypeId) (w : World) : Prop := w.heap[g]? = some (.cells cs t (0, 0))
section
variable {g i : Nat} {cs : Array Value} {t : TypeId} {w w' : World} {v : Value}
theorem Blk.lt (h : Blk g cs t w) : g < w.heap.size := (Array.getElem?_eq_some_iff.1 h).1
theorem Blk.later (h : Blk g cs t w) (hb : Below w.heap.size w w') : Blk g cs t w' := (hb.block g h.lt).trans h
theorem Blk.cell (h : Blk g cs t w) (hv : cs[i]? = some v) : w.cell? ⟨g, i, none⟩ = some v := by
  unfold Blk at h
  simp [World.cell?, h, hv]
theorem Blk.free (h : Blk g cs t w) (i : Nat) : w.frozen? ⟨g, i, none⟩ = false := by
  unfold Blk at h
  simp [World.frozen?, h]
theorem Blk.alloc (w : World) (cs : Array Value) (t : TypeId) : Blk w.heap.size cs t (w.alloc (.cells cs t)) := (MapKept.heap_alloc w _).1
theorem Blk.alloc2 (w : World) (a : Obj) (cs : Array Value) (t : TypeId) : Blk (w.heap.size + 1) cs t ((w.alloc a).alloc (.cells cs t)) := by
  have h := Blk.alloc (w.alloc a) cs t
  rwa [show (w.alloc a).heap.size = w.heap.size + 1 by simp] at h
end
end Culp

/- Walks of the reference's types as texts (culpritref04), and of culpritref00.Deep. -/
namespace Go.Proofs.YtnhdbjhdmdefmaaDoor
set_option linter.unusedSimpArgs false
set_option linter.unusedVariables false
open Go.RowKit Culp

theorem byte_cases (c : UInt8) : c = 105 ∨ c = 98 ∨ c = 116 ∨ c = 63 ∨ c = 108 ∨ c = 120 ∨ c = 62 ∨ c = 44 ∨
    (ari c = none ∧ ((c.toNat : Int) == 105) = false ∧ ((c.toNat : Int) == 98) = false ∧ ((c.toNat : Int) == 116) = false ∧ ((c.toNat : Int) == 63) = false ∧
      ((c.toNat : Int) == 108) = false ∧ ((c.toNat : Int) == 120) = false ∧ ((c.toNat : Int) == 62) = false ∧ ((c.toNat : Int) == 44) = false) := by
  by_cases h1 : c = 105; · exact .inl h1
  by_cases h2 : c = 98; · exact .inr (.inl h2)
  by_cases h3 : c = 116; · exact .inr (.inr (.inl h3))
  by_cases h4 : c = 63; · exact .inr (.inr (.inr (.inl h4)))
  by_cases h5 : c = 108; · exact .inr (.inr (.inr (.inr (.inl h5))))
  by_cases h6 : c = 120; · exact .inr (.inr (.inr (.inr (.inr (.inl h6)))))
  by_cases h7 : c = 62; · exact .inr (.inr (.inr (.inr (.inr (.inr (.inl h7))))))
  by_cases h8 : c = 44; · exact .inr (.inr (.inr (.inr (.inr (.inr (.inr (.inl h8)))))))
  refine .inr (.inr (.inr (.inr (.inr (.inr (.inr (.inr ⟨?_, ?_⟩)))))))
  · simp [ari, h1, h2, h3, h4, h5, h6, h7, h8]
  · have e := fun n => u8_eq_iff c n
    have a1 := e 105; have a2 := e 98; have a3 := e 116; have a4 := e 63; have a5 := e 108; have a6 := e 120; have a7 := e 62; have a8 := e 44
    simp at a1 a2 a3 a4 a5 a6 a7 a8
    refine ⟨?_, ?_, ?_, ?_, ?_, ?_, ?_, ?_⟩ <;> rw [beq_eq_false_iff_ne] <;> simp_all

/-- What Behind answers. -/
def behindI (s : ByteArray) (k : Nat) : Int := match eatAt s k 1 with | some r => ((s.size - r.length : Nat) : Int) | none => -1
theorem behind_some {s : ByteArray} {k j : Nat} (hj : j ≤ s.size) (h : eatAt s k 1 = some (s.data.toList.drop j)) : behindI s k = j := by
  unfold behindI
  rw [h]
  have : s.data.toList.length = s.size := by simp
  simp only [List.length_drop, this]
  omega
theorem behind_none {s : ByteArray} {k : Nat} (h : eatAt s k 1 = none) : behindI s k = -1 := by unfold behindI; rw [h]





end Go.Proofs.YtnhdbjhdmdefmaaDoor
