
/- Plain: the grammar over tokens: types, expressions. No program in sight. -/
import Derived.Test.YtnhdbjhdmdefmaaDoorFq
import Derived.Test.YtnhdbjhdmdefmaaDoorR4W
namespace Culp.Gr
set_option linter.unusedSimpArgs false
set_option linter.unusedVariables false
open Culp Culp.Tr
abbrev Tok := Tx.Tk × (Nat × Nat)
def by_ (l : List UInt8) : ByteArray := ⟨l.toArray⟩
/-- One behind the other; the first that fails ends it. -/
def bnd {α β : Type} (x : Except Nat α) (f : α → Except Nat β) : Except Nat β := match x with
  | .error j => .error j
  | .ok a => f a
@[simp] theorem bnd_error {α β : Type} (j : Nat) (f : α → Except Nat β) : bnd (.error j) f = .error j := rfl
@[simp] theorem bnd_ok {α β : Type} (a : α) (f : α → Except Nat β) : bnd (.ok a) f = f a := rfl
theorem bnd_inv {α β : Type} {x : Except Nat α} {f : α → Except Nat β} {b : β} (h : bnd x f = .ok b) : ∃ a, x = .ok a ∧ f a = .ok b := by
  cases x with
  | error j => cases h
  | ok a => exact ⟨a, rfl, h⟩
def sInt : List UInt8 := [105, 110, 116]
def sBool : List UInt8 := [98, 111, 111, 108]
def sText : List UInt8 := [116, 101, 120, 116]
def sBox : List UInt8 := [98, 111, 120]
def sFn : List UInt8 := [102, 110]
def sRec : List UInt8 := [114, 101, 99]
def sLet : List UInt8 := [108, 101, 116]
def sIf : List UInt8 := [105, 102]
def sIn : List UInt8 := [105, 110]
def sThen : List UInt8 := [116, 104, 101, 110]
def sElse : List UInt8 := [101, 108, 115, 101]
def sTrue : List UInt8 := [116, 114, 117, 101]
def sFalse : List UInt8 := [102, 97, 108, 115, 101]
def sModule : List UInt8 := [109, 111, 100, 117, 108, 101]
def sImport : List UInt8 := [105, 109, 112, 111, 114, 116]
def sExport : List UInt8 := [101, 120, 112, 111, 114, 116]
def sArrow : List UInt8 := [45, 62]
def sTo : List UInt8 := [61, 62]
def sSet : List UInt8 := [58, 61]
/-- What stands ahead of brackets. -/
def applied (s : List UInt8) : Nat :=
  if s = [98, 111, 120] then 26 else if s = [115, 105, 122, 101] then 17 else if s = [102, 105, 114, 115, 116] then 19 else if s = [115, 101, 99, 111, 110, 100] then 20
  else if s = [104, 101, 97, 100] then 22 else if s = [116, 97, 105, 108] then 23 else if s = [101, 109, 112, 116, 121] then 24 else if s = [99, 111, 110, 115] then 25 else 0
/-- Marks of two sides: the kind, and the rank from 1 on; 0: it is none. -/
def ranked (s : List UInt8) : Nat × Nat :=
  if s = [61, 61] then (14, 1) else if s = [60] then (15, 1) else if s = [43] then (10, 2) else if s = [45] then (11, 2) else if s = [43, 43] then (13, 2) else if s = [42] then (12, 3) else (0, 0)
section
variable (L : List Tok)
def isM (s : List UInt8) (i : Nat) : Bool := match L[i]? with
  | some (t, _) => (t.kind == 1 || t.kind == 5) && t.s == s
  | none => false
def isK (k i : Nat) : Bool := match L[i]? with
  | some (t, _) => t.kind == k
  | none => false
def txt (i : Nat) : List UInt8 := match L[i]? with
  | some (t, _) => t.s
  | none => []
def num (i : Nat) : Nat := match L[i]? with
  | some (t, _) => t.n
  | none => 0
def pl (i : Nat) : Nat × Nat := match L[i]? with
  | some (_, p) => p
  | none => (0, 0)
def want (s : List UInt8) (i : Nat) : Except Nat Nat := if isM L s i then .ok (i + 1) else .error i
def name (i : Nat) : Except Nat Nat := if isK L 2 i then .ok (i + 1) else .error i
/-- A type; the flag: may arrows divide it? -/
def ty : Nat → Bool → Nat → Except Nat (List UInt8 × Nat)
  | 0, _, i => .error i
  | n + 1, true, i => bnd (ty n false i) fun r => if isM L sArrow r.2 then bnd (ty n true (r.2 + 1)) fun q => .ok (62 :: (r.1 ++ q.1), q.2) else .ok r
  | n + 1, false, i =>
    if isK L 1 i && (txt L i == sInt || txt L i == sBool || txt L i == sText) then .ok ((txt L i).take 1, i + 1)
    else if isK L 1 i && txt L i == sBox then bnd (ty n false (i + 1)) fun r => .ok (120 :: r.1, r.2)
    else if isK L 5 i && txt L i == [63] then .ok ([63], i + 1)
    else if isK L 5 i && txt L i == [91] then bnd (ty n true (i + 1)) fun r => bnd (want L [93] r.2) fun k => .ok (108 :: r.1, k)
    else if isK L 5 i && txt L i == [40] then bnd (ty n true (i + 1)) fun r => if isM L [44] r.2 then bnd (ty n true (r.2 + 1)) fun q => bnd (want L [41] q.2) fun k => .ok (44 :: (r.1 ++ q.1), k) else bnd (want L [41] r.2) fun k => .ok (r.1, k)
    else .error i
def whole (i : Nat) (lg : List Nat) : Except Nat (List UInt8 × Nat × List Nat) := bnd (ty L (2 * L.length + 4) true i) fun r => .ok (r.1, r.2, if 64 < r.1.length then lg ++ [i] else lg)
def note (i : Nat) (lg : List Nat) : Except Nat (List UInt8 × Nat × List Nat) := if isM L [58] i then whole L (i + 1) lg else .ok ([], i, lg)
/-- A parameter in its brackets, its note, the result's note. -/
def param (i : Nat) (lg : List Nat) : Except Nat ((List UInt8 × List UInt8 × List UInt8) × Nat × List Nat) :=
  bnd (want L [40] i) fun a => bnd (name L a) fun b => bnd (note L b lg) fun r => bnd (want L [41] r.2.1) fun c => bnd (note L c r.2.2) fun q => bnd (want L sTo q.2.1) fun d => .ok ((txt L a, r.1, q.1), d, q.2.2)
end
/-- Forests, one behind the other. -/
def cat : F → F → F
  | .nil, g => g
  | .cons x ks r, g => .cons x ks (cat r g)
theorem cat_flat : ∀ f g : F, (cat f g).flat = f.flat ++ g.flat
  | .nil, g => rfl
  | .cons x ks r, g => by simp only [cat, F.flat, cat_flat r g, List.cons_append, List.append_assoc]
theorem cat_cnt : ∀ f g : F, (cat f g).cnt = f.cnt + g.cnt
  | .nil, g => by simp [cat, F.cnt]
  | .cons x ks r, g => by simp only [cat, F.cnt, cat_cnt r g]; omega
def mkNd (kind : Nat) (p : Nat × Nat) (k : Nat) (n : Nat) (s t u : List UInt8) : Nd := ⟨kind, k, n, by_ s, by_ t, by_ u, p.1, p.2⟩
def mk (kind : Nat) (p : Nat × Nat) (ks : F) (n : Nat) (s t u : List UInt8) : F := .cons (mkNd kind p ks.cnt n s t u) ks .nil
/-- What is read. -/
inductive NT where
  | expr
  | bin (r : Nat)
  | binl (r : Nat) (l : F)
  | factor
  | calls (l : F)
  | atom
  | items (l : F)
abbrev Res := Except Nat (F × Nat × List Nat)
section
variable (L : List Tok)
def px : Nat → NT → Nat → List Nat → Res
  | 0, _, i, _ => .error i
  | n + 1, .expr, i, lg =>
    if isK L 1 i && txt L i == sFn then bnd (param L (i + 1) lg) fun r => bnd (px n .expr r.2.1 r.2.2) fun e => .ok (mk 5 (pl L i) e.1 0 r.1.1 r.1.2.1 r.1.2.2, e.2)
    else if isK L 1 i && txt L i == sRec then bnd (name L (i + 1)) fun a => bnd (param L a lg) fun r => bnd (px n .expr r.2.1 r.2.2) fun e => .ok (mk 6 (pl L i) e.1 0 (txt L (i + 1) ++ 32 :: r.1.1) r.1.2.1 r.1.2.2, e.2)
    else if isK L 1 i && txt L i == sLet then bnd (name L (i + 1)) fun a => bnd (note L a lg) fun r => bnd (want L [61] r.2.1) fun b => bnd (px n .expr b r.2.2) fun e => bnd (want L sIn e.2.1) fun c => bnd (px n .expr c e.2.2) fun g => .ok (mk 8 (pl L i) (cat e.1 g.1) 0 (txt L (i + 1)) r.1 [], g.2)
    else if isK L 1 i && txt L i == sIf then bnd (px n .expr (i + 1) lg) fun e => bnd (want L sThen e.2.1) fun a => bnd (px n .expr a e.2.2) fun g => bnd (want L sElse g.2.1) fun b => bnd (px n .expr b g.2.2) fun h => .ok (mk 9 (pl L i) (cat e.1 (cat g.1 h.1)) 0 [] [] [], h.2)
    else bnd (px n (.bin 0) i lg) fun e => if isM L sSet e.2.1 then bnd (px n .expr (e.2.1 + 1) e.2.2) fun g => .ok (mk 28 (pl L e.2.1) (cat e.1 g.1) 0 [] [] [], g.2) else .ok e
  | n + 1, .bin r, i, lg => if r = 3 then px n .factor i lg else bnd (px n (.bin (r + 1)) i lg) fun e => px n (.binl r e.1) e.2.1 e.2.2
  | n + 1, .binl r l, i, lg =>
    if isK L 5 i && (ranked (txt L i)).2 == r + 1 then bnd (px n (.bin (r + 1)) (i + 1) lg) fun e => if r = 0 then .ok (mk (ranked (txt L i)).1 (pl L i) (cat l e.1) 0 [] [] [], e.2) else px n (.binl r (mk (ranked (txt L i)).1 (pl L i) (cat l e.1) 0 [] [] [])) e.2.1 e.2.2
    else .ok (l, i, lg)
  | n + 1, .factor, i, lg =>
    if isM L [45] i then bnd (px n .factor (i + 1) lg) fun e => .ok (mk 16 (pl L i) e.1 0 [] [] [], e.2)
    else if isM L [33] i then bnd (px n .factor (i + 1) lg) fun e => .ok (mk 27 (pl L i) e.1 0 [] [] [], e.2)
    else bnd (px n .atom i lg) fun e => px n (.calls e.1) e.2.1 e.2.2
  | n + 1, .calls l, i, lg =>
    if isM L [40] i then bnd (px n .expr (i + 1) lg) fun e => bnd (want L [41] e.2.1) fun a => px n (.calls (mk 7 (pl L i) (cat l e.1) 0 [] [] [])) a e.2.2
    else .ok (l, i, lg)
  | n + 1, .atom, i, lg =>
    if isK L 3 i then .ok (mk 1 (pl L i) .nil (num L i) [] [] [], i + 1, lg)
    else if isK L 4 i then .ok (mk 2 (pl L i) .nil 0 (txt L i) [] [], i + 1, lg)
    else if isK L 2 i then .ok (mk 4 (pl L i) .nil 0 (txt L i) [] [], i + 1, lg)
    else if isK L 1 i then
      if txt L i == sTrue then .ok (mk 3 (pl L i) .nil 1 [] [] [], i + 1, lg)
      else if txt L i == sFalse then .ok (mk 3 (pl L i) .nil 0 [] [] [], i + 1, lg)
      else if applied (txt L i) = 0 then .error i
      else bnd (want L [40] (i + 1)) fun a => bnd (px n .expr a lg) fun e =>
        if applied (txt L i) = 25 then bnd (want L [44] e.2.1) fun b => bnd (px n .expr b e.2.2) fun g => bnd (want L [41] g.2.1) fun c => .ok (mk 25 (pl L i) (cat e.1 g.1) 0 [] [] [], c, g.2.2)
        else bnd (want L [41] e.2.1) fun c => .ok (mk (applied (txt L i)) (pl L i) e.1 0 [] [] [], c, e.2.2)
    else if isK L 5 i && txt L i == [40] then
      bnd (px n .expr (i + 1) lg) fun e =>
        if isM L [58] e.2.1 then bnd (whole L (e.2.1 + 1) e.2.2) fun r => bnd (want L [41] r.2.1) fun c => .ok (mk 29 (pl L e.2.1) e.1 0 [] r.1 [], c, r.2.2)
        else if isM L [44] e.2.1 then bnd (px n .expr (e.2.1 + 1) e.2.2) fun g => bnd (want L [41] g.2.1) fun c => .ok (mk 18 (pl L i) (cat e.1 g.1) 0 [] [] [], c, g.2.2)
        else bnd (want L [41] e.2.1) fun c => .ok (e.1, c, e.2.2)
    else if isK L 5 i && txt L i == [91] then
      if isM L [93] (i + 1) then .ok (mk 21 (pl L i) .nil 0 [] [] [], i + 2, lg)
      else bnd (px n .expr (i + 1) lg) fun e => bnd (px n (.items e.1) e.2.1 e.2.2) fun g => .ok (mk 21 (pl L i) g.1 0 [] [] [], g.2)
    else .error i
  | n + 1, .items l, i, lg =>
    if isM L [44] i then bnd (px n .expr (i + 1) lg) fun e => px n (.items (cat l e.1)) e.2.1 e.2.2
    else bnd (want L [93] i) fun a => .ok (l, a, lg)
/-- An expression, whole. -/
def fuel : Nat := 8 * L.length + 16
def expr (i : Nat) (lg : List Nat) : Res := px L (fuel L) .expr i lg
end
section
variable {L : List Tok}
theorem isM_lt {s : List UInt8} {i : Nat} (h : isM L s i = true) : i < L.length := by
  unfold isM at h
  split at h
  · rename_i e; exact (List.getElem?_eq_some_iff.1 e).1
  · cases h
theorem isK_lt {k i : Nat} (h : isK L k i = true) : i < L.length := by
  unfold isK at h
  split at h
  · rename_i e; exact (List.getElem?_eq_some_iff.1 e).1
  · cases h
theorem want_inv {s : List UInt8} {i k : Nat} (h : want L s i = .ok k) : k = i + 1 ∧ i < L.length := by
  unfold want at h
  split at h
  · rename_i e; injection h with h; exact ⟨h.symm, isM_lt e⟩
  · cases h
theorem name_inv {i k : Nat} (h : name L i = .ok k) : k = i + 1 ∧ i < L.length := by
  unfold name at h
  split at h
  · rename_i e; injection h with h; exact ⟨h.symm, isK_lt e⟩
  · cases h
theorem and_l {a b : Bool} (h : (a && b) = true) : a = true := by cases a <;> first | rfl | cases h
/-- Types take tokens. -/
theorem ty_bound : ∀ (n : Nat) (b : Bool) (i : Nat) (r : List UInt8 × Nat), ty L n b i = .ok r → i < r.2 ∧ r.2 ≤ L.length := by
  intro n
  induction n with
  | zero => intro b i r h; cases b <;> cases h
  | succ n ih =>
    intro b i r h
    cases b with
    | true =>
      rw [ty] at h
      obtain ⟨r1, h1, h⟩ := bnd_inv h
      have b1 := ih _ _ _ h1
      split at h
      · obtain ⟨q, h2, h⟩ := bnd_inv h
        have b2 := ih _ _ _ h2
        injection h with h; subst h
        exact ⟨by show i < q.2; omega, b2.2⟩
      · injection h with h; subst h; exact b1
    | false =>
      rw [ty] at h
      split at h
      · rename_i e
        have := isK_lt (and_l e)
        injection h with h; subst h
        exact ⟨Nat.lt_succ_self i, this⟩
      split at h
      · obtain ⟨q, h2, h⟩ := bnd_inv h
        have b2 := ih _ _ _ h2
        injection h with h; subst h
        exact ⟨by show i < q.2; omega, b2.2⟩
      split at h
      · rename_i e
        have := isK_lt (and_l e)
        injection h with h; subst h
        exact ⟨Nat.lt_succ_self i, this⟩
      split at h
      · obtain ⟨q, h2, h⟩ := bnd_inv h
        have b2 := ih _ _ _ h2
        obtain ⟨k, h3, h⟩ := bnd_inv h
        obtain ⟨rfl, b3⟩ := want_inv h3
        injection h with h; subst h
        exact ⟨by show i < q.2 + 1; omega, b3⟩
      split at h
      · obtain ⟨q, h2, h⟩ := bnd_inv h
        have b2 := ih _ _ _ h2
        split at h
        · obtain ⟨q', h4, h⟩ := bnd_inv h
          have b4 := ih _ _ _ h4
          obtain ⟨k, h3, h⟩ := bnd_inv h
          obtain ⟨rfl, b3⟩ := want_inv h3
          injection h with h; subst h
          exact ⟨by show i < q'.2 + 1; omega, b3⟩
        · obtain ⟨k, h3, h⟩ := bnd_inv h
          obtain ⟨rfl, b3⟩ := want_inv h3
          injection h with h; subst h
          exact ⟨by show i < q.2 + 1; omega, b3⟩
      · cases h
theorem whole_bound {i : Nat} {lg : List Nat} {r : List UInt8 × Nat × List Nat} (h : whole L i lg = .ok r) : i < r.2.1 ∧ r.2.1 ≤ L.length := by
  obtain ⟨q, h1, h⟩ := bnd_inv h
  injection h with h; subst h
  exact ty_bound _ _ _ _ h1
theorem note_bound {i : Nat} {lg : List Nat} {r : List UInt8 × Nat × List Nat} (h : note L i lg = .ok r) (hi : i ≤ L.length) : i ≤ r.2.1 ∧ r.2.1 ≤ L.length := by
  unfold note at h
  split at h
  · have := whole_bound h; omega
  · injection h with h; subst h; exact ⟨Nat.le_refl _, hi⟩
theorem param_bound {i : Nat} {lg : List Nat} {r : (List UInt8 × List UInt8 × List UInt8) × Nat × List Nat} (h : param L i lg = .ok r) : i + 4 ≤ r.2.1 ∧ r.2.1 ≤ L.length := by
  obtain ⟨a, h1, h⟩ := bnd_inv h
  obtain ⟨b, h2, h⟩ := bnd_inv h
  obtain ⟨q, h3, h⟩ := bnd_inv h
  obtain ⟨c, h4, h⟩ := bnd_inv h
  obtain ⟨s, h5, h⟩ := bnd_inv h
  obtain ⟨d, h6, h⟩ := bnd_inv h
  obtain ⟨rfl, b1⟩ := want_inv h1
  obtain ⟨rfl, b2⟩ := name_inv h2
  have b3 := note_bound h3 (by omega)
  obtain ⟨rfl, b4⟩ := want_inv h4
  have b5 := note_bound h5 (by omega)
  obtain ⟨rfl, b6⟩ := want_inv h6
  injection h with h; subst h
  exact ⟨by show i + 4 ≤ s.2.1 + 1; omega, b6⟩
/-- One tree. -/
def One (f : F) : Prop := ∃ x ks, f = .cons x ks .nil
theorem mk_one (kind : Nat) (p : Nat × Nat) (ks : F) (n : Nat) (s t u : List UInt8) : One (mk kind p ks n s t u) := ⟨_, _, rfl⟩
theorem mk_flat (kind : Nat) (p : Nat × Nat) (ks : F) (n : Nat) (s t u : List UInt8) : (mk kind p ks n s t u).flat.length = ks.flat.length + 1 := by simp [mk, F.flat]
theorem One.pos {f : F} (h : One f) : 0 < f.flat.length := by
  obtain ⟨x, ks, rfl⟩ := h
  simp [F.flat]
def NT.acc : NT → F
  | .binl _ l => l
  | .calls l => l
  | .items l => l
  | _ => .nil
def NT.one : NT → Prop
  | .binl _ l => One l
  | .calls l => One l
  | .items _ => False
  | _ => True
/-- What is read takes tokens, at least as many as it has nodes. -/
theorem px_bound : ∀ (n : Nat) (nt : NT) (i : Nat) (lg : List Nat) (r : F × Nat × List Nat), px L n nt i lg = .ok r → i ≤ L.length → r.2.1 ≤ L.length ∧ r.1.flat.length + i ≤ r.2.1 + nt.acc.flat.length ∧ (nt.one → One r.1) := by
  intro n
  induction n with
  | zero => intro nt i lg r h; cases nt <;> cases h
  | succ n ih =>
    intro nt i lg r h hi
    cases nt with
    | expr =>
      rw [px] at h
      split at h
      · obtain ⟨q, h1, h⟩ := bnd_inv h
        obtain ⟨e, h2, h⟩ := bnd_inv h
        have b1 := param_bound h1
        obtain ⟨b2, b3, -⟩ := ih _ _ _ _ h2 b1.2
        simp only [NT.acc, F.flat, List.length_nil] at b3
        injection h with h; subst h
        refine ⟨b2, ?_, fun _ => mk_one ..⟩
        simp only [mk_flat, NT.acc, F.flat, List.length_nil]; omega
      split at h
      · obtain ⟨a, h0, h⟩ := bnd_inv h
        obtain ⟨rfl, -⟩ := name_inv h0
        obtain ⟨q, h1, h⟩ := bnd_inv h
        obtain ⟨e, h2, h⟩ := bnd_inv h
        have b1 := param_bound h1
        obtain ⟨b2, b3, -⟩ := ih _ _ _ _ h2 b1.2
        simp only [NT.acc, F.flat, List.length_nil] at b3
        injection h with h; subst h
        refine ⟨b2, ?_, fun _ => mk_one ..⟩
        simp only [mk_flat, NT.acc, F.flat, List.length_nil]; omega
      split at h
      · obtain ⟨a, h0, h⟩ := bnd_inv h
        obtain ⟨rfl, b0⟩ := name_inv h0
        obtain ⟨q, h1, h⟩ := bnd_inv h
        have b1 := note_bound h1 (by omega)
        obtain ⟨c, h2, h⟩ := bnd_inv h
        obtain ⟨rfl, b2⟩ := want_inv h2
        obtain ⟨e, h3, h⟩ := bnd_inv h
        obtain ⟨b3, b4, -⟩ := ih _ _ _ _ h3 (by omega)
        obtain ⟨d, h5, h⟩ := bnd_inv h
        obtain ⟨rfl, b5⟩ := want_inv h5
        obtain ⟨g, h6, h⟩ := bnd_inv h
        obtain ⟨b6, b7, -⟩ := ih _ _ _ _ h6 (by omega)
        simp only [NT.acc, F.flat, List.length_nil] at b4 b7
        injection h with h; subst h
        refine ⟨b6, ?_, fun _ => mk_one ..⟩
        simp only [mk_flat, cat_flat, List.length_append, NT.acc, F.flat, List.length_nil]; omega
      split at h
      · rename_i e0
        have hlt := isK_lt (and_l e0)
        obtain ⟨e, h3, h⟩ := bnd_inv h
        obtain ⟨b3, b4, -⟩ := ih _ _ _ _ h3 (by omega)
        obtain ⟨d, h5, h⟩ := bnd_inv h
        obtain ⟨rfl, b5⟩ := want_inv h5
        obtain ⟨g, h6, h⟩ := bnd_inv h
        obtain ⟨b6, b7, -⟩ := ih _ _ _ _ h6 (by omega)
        obtain ⟨d2, h8, h⟩ := bnd_inv h
        obtain ⟨rfl, b8⟩ := want_inv h8
        obtain ⟨g2, h9, h⟩ := bnd_inv h
        obtain ⟨b9, b10, -⟩ := ih _ _ _ _ h9 (by omega)
        simp only [NT.acc, F.flat, List.length_nil] at b4 b7 b10
        injection h with h; subst h
        refine ⟨b9, ?_, fun _ => mk_one ..⟩
        simp only [mk_flat, cat_flat, List.length_append, NT.acc, F.flat, List.length_nil]; omega
      · obtain ⟨e, h3, h⟩ := bnd_inv h
        obtain ⟨b3, b4, b5⟩ := ih _ _ _ _ h3 hi
        simp only [NT.acc, F.flat, List.length_nil] at b4
        split at h
        · rename_i e0
          have hlt := isM_lt e0
          obtain ⟨g, h6, h⟩ := bnd_inv h
          obtain ⟨b6, b7, -⟩ := ih _ _ _ _ h6 (by omega)
          simp only [NT.acc, F.flat, List.length_nil] at b7
          injection h with h; subst h
          refine ⟨b6, ?_, fun _ => mk_one ..⟩
          simp only [mk_flat, cat_flat, List.length_append, NT.acc, F.flat, List.length_nil]; omega
        · injection h with h; subst h
          exact ⟨b3, b4, fun _ => b5 trivial⟩
    | bin q =>
      rw [px] at h
      split at h
      · obtain ⟨b3, b4, b5⟩ := ih _ _ _ _ h hi
        exact ⟨b3, b4, fun _ => b5 trivial⟩
      · obtain ⟨e, h3, h⟩ := bnd_inv h
        obtain ⟨b3, b4, b5⟩ := ih _ _ _ _ h3 hi
        obtain ⟨b6, b7, b8⟩ := ih _ _ _ _ h b3
        simp only [NT.acc, F.flat, List.length_nil] at b4 b7 ⊢
        exact ⟨b6, by omega, fun _ => b8 (b5 trivial)⟩
    | binl q l =>
      rw [px] at h
      split at h
      · rename_i e0
        have hlt := isK_lt (and_l e0)
        obtain ⟨e, h3, h⟩ := bnd_inv h
        obtain ⟨b3, b4, b5⟩ := ih _ _ _ _ h3 (by omega)
        simp only [NT.acc, F.flat, List.length_nil] at b4 ⊢
        split at h
        · injection h with h; subst h
          refine ⟨b3, ?_, fun _ => mk_one ..⟩
          simp only [mk_flat, cat_flat, List.length_append]; omega
        · obtain ⟨b6, b7, b8⟩ := ih _ _ _ _ h b3
          simp only [NT.acc, mk_flat, cat_flat, List.length_append] at b7
          exact ⟨b6, by omega, fun _ => b8 (mk_one ..)⟩
      · injection h with h; subst h
        exact ⟨hi, by simp only [NT.acc]; omega, fun h => h⟩
    | factor =>
      rw [px] at h
      split at h
      · rename_i e0
        have hlt := isM_lt e0
        obtain ⟨e, h3, h⟩ := bnd_inv h
        obtain ⟨b3, b4, -⟩ := ih _ _ _ _ h3 (by omega)
        simp only [NT.acc, F.flat, List.length_nil] at b4 ⊢
        injection h with h; subst h
        exact ⟨b3, by simp only [mk_flat]; omega, fun _ => mk_one ..⟩
      split at h
      · rename_i e0
        have hlt := isM_lt e0
        obtain ⟨e, h3, h⟩ := bnd_inv h
        obtain ⟨b3, b4, -⟩ := ih _ _ _ _ h3 (by omega)
        simp only [NT.acc, F.flat, List.length_nil] at b4 ⊢
        injection h with h; subst h
        exact ⟨b3, by simp only [mk_flat]; omega, fun _ => mk_one ..⟩
      · obtain ⟨e, h3, h⟩ := bnd_inv h
        obtain ⟨b3, b4, b5⟩ := ih _ _ _ _ h3 hi
        obtain ⟨b6, b7, b8⟩ := ih _ _ _ _ h b3
        simp only [NT.acc, F.flat, List.length_nil] at b4 b7 ⊢
        exact ⟨b6, by omega, fun _ => b8 (b5 trivial)⟩
    | calls l =>
      rw [px] at h
      split at h
      · rename_i e0
        have hlt := isM_lt e0
        obtain ⟨e, h3, h⟩ := bnd_inv h
        obtain ⟨b3, b4, -⟩ := ih _ _ _ _ h3 (by omega)
        obtain ⟨a, h5, h⟩ := bnd_inv h
        obtain ⟨rfl, b5⟩ := want_inv h5
        obtain ⟨b6, b7, b8⟩ := ih _ _ _ _ h b5
        simp only [NT.acc, F.flat, List.length_nil, mk_flat, cat_flat, List.length_append] at b4 b7 ⊢
        exact ⟨b6, by omega, fun _ => b8 (mk_one ..)⟩
      · injection h with h; subst h
        exact ⟨hi, by simp only [NT.acc]; omega, fun h => h⟩
    | atom =>
      rw [px] at h
      simp only [NT.acc, F.flat, List.length_nil]
      split at h
      · rename_i e0
        have hlt := isK_lt e0
        injection h with h; subst h
        exact ⟨hlt, by simp only [mk_flat, F.flat, List.length_nil]; omega, fun _ => mk_one ..⟩
      split at h
      · rename_i e0
        have hlt := isK_lt e0
        injection h with h; subst h
        exact ⟨hlt, by simp only [mk_flat, F.flat, List.length_nil]; omega, fun _ => mk_one ..⟩
      split at h
      · rename_i e0
        have hlt := isK_lt e0
        injection h with h; subst h
        exact ⟨hlt, by simp only [mk_flat, F.flat, List.length_nil]; omega, fun _ => mk_one ..⟩
      split at h
      · rename_i e0
        have hlt := isK_lt e0
        split at h
        · injection h with h; subst h
          exact ⟨hlt, by simp only [mk_flat, F.flat, List.length_nil]; omega, fun _ => mk_one ..⟩
        split at h
        · injection h with h; subst h
          exact ⟨hlt, by simp only [mk_flat, F.flat, List.length_nil]; omega, fun _ => mk_one ..⟩
        split at h
        · cases h
        · obtain ⟨a, h1, h⟩ := bnd_inv h
          obtain ⟨rfl, b1⟩ := want_inv h1
          obtain ⟨e, h3, h⟩ := bnd_inv h
          obtain ⟨b3, b4, -⟩ := ih _ _ _ _ h3 (by omega)
          simp only [NT.acc, F.flat, List.length_nil] at b4
          split at h
          · obtain ⟨b, h5, h⟩ := bnd_inv h
            obtain ⟨rfl, b5⟩ := want_inv h5
            obtain ⟨g, h6, h⟩ := bnd_inv h
            obtain ⟨b6, b7, -⟩ := ih _ _ _ _ h6 (by omega)
            obtain ⟨c, h8, h⟩ := bnd_inv h
            obtain ⟨rfl, b8⟩ := want_inv h8
            simp only [NT.acc, F.flat, List.length_nil] at b7
            injection h with h; subst h
            exact ⟨b8, by simp only [mk_flat, cat_flat, List.length_append]; omega, fun _ => mk_one ..⟩
          · obtain ⟨c, h8, h⟩ := bnd_inv h
            obtain ⟨rfl, b8⟩ := want_inv h8
            injection h with h; subst h
            exact ⟨b8, by simp only [mk_flat]; omega, fun _ => mk_one ..⟩
      split at h
      · rename_i e0
        have hlt := isK_lt (and_l e0)
        obtain ⟨e, h3, h⟩ := bnd_inv h
        obtain ⟨b3, b4, b5⟩ := ih _ _ _ _ h3 (by omega)
        simp only [NT.acc, F.flat, List.length_nil] at b4
        split at h
        · obtain ⟨q, h6, h⟩ := bnd_inv h
          have b6 := whole_bound h6
          obtain ⟨c, h8, h⟩ := bnd_inv h
          obtain ⟨rfl, b8⟩ := want_inv h8
          injection h with h; subst h
          exact ⟨b8, by simp only [mk_flat]; omega, fun _ => mk_one ..⟩
        split at h
        · rename_i e1
          have hl1 := isM_lt e1
          obtain ⟨g, h6, h⟩ := bnd_inv h
          obtain ⟨b6, b7, -⟩ := ih _ _ _ _ h6 (by omega)
          obtain ⟨c, h8, h⟩ := bnd_inv h
          obtain ⟨rfl, b8⟩ := want_inv h8
          simp only [NT.acc, F.flat, List.length_nil] at b7
          injection h with h; subst h
          exact ⟨b8, by simp only [mk_flat, cat_flat, List.length_append]; omega, fun _ => mk_one ..⟩
        · obtain ⟨c, h8, h⟩ := bnd_inv h
          obtain ⟨rfl, b8⟩ := want_inv h8
          injection h with h; subst h
          exact ⟨b8, by show e.1.flat.length + i ≤ e.2.1 + 1 + 0; omega, fun _ => b5 trivial⟩
      split at h
      · rename_i e0
        have hlt := isK_lt (and_l e0)
        split at h
        · rename_i e1
          have hl1 := isM_lt e1
          injection h with h; subst h
          exact ⟨hl1, by simp only [mk_flat, F.flat, List.length_nil]; omega, fun _ => mk_one ..⟩
        · obtain ⟨e, h3, h⟩ := bnd_inv h
          obtain ⟨b3, b4, -⟩ := ih _ _ _ _ h3 (by omega)
          obtain ⟨g, h6, h⟩ := bnd_inv h
          obtain ⟨b6, b7, -⟩ := ih _ _ _ _ h6 b3
          simp only [NT.acc, F.flat, List.length_nil] at b4 b7
          injection h with h; subst h
          exact ⟨b6, by simp only [mk_flat]; omega, fun _ => mk_one ..⟩
      · cases h
    | items l =>
      rw [px] at h
      simp only [NT.acc, NT.one]
      split at h
      · rename_i e0
        have hlt := isM_lt e0
        obtain ⟨e, h3, h⟩ := bnd_inv h
        obtain ⟨b3, b4, -⟩ := ih _ _ _ _ h3 (by omega)
        obtain ⟨b6, b7, -⟩ := ih _ _ _ _ h b3
        simp only [NT.acc, F.flat, List.length_nil, cat_flat, List.length_append] at b4 b7
        exact ⟨b6, by omega, fun h => h.elim⟩
      · obtain ⟨a, h5, h⟩ := bnd_inv h
        obtain ⟨rfl, b5⟩ := want_inv h5
        injection h with h; subst h
        exact ⟨b5, by show l.flat.length + i ≤ i + 1 + l.flat.length; omega, fun h => h.elim⟩
end
end Culp.Gr

/- Memory: lists of structs that lie in memory, modules, and what holds of them later. No program in sight. -/
namespace Culp
set_option linter.unusedSimpArgs false
set_option linter.unusedVariables false
open Go Go.RowKit

/-- A slice whose elements are structs of so many cells each. -/
def RowsV {α : Type} (sz : Nat) (R : World → α → List Value → Prop) (w : World) (v : Value) (l : List α) : Prop :=
  ∃ A c, v = .slice A l.length c ∧ l.length ≤ c ∧ (0 < l.length → ∃ b off, A = some ⟨b, off, none⟩ ∧ ∀ i x, l[i]? = some x → ∃ cs, R w x cs ∧ cs.length = sz ∧ ∀ j u, cs[j]? = some u → w.cell? ⟨b, off + i * sz + j, none⟩ = some u)
theorem RowsV.later {α : Type} {sz : Nat} {R : World → α → List Value → Prop} {w w' : World} {v : Value} {l : List α} (h : RowsV sz R w v l) (hb : Below w.heap.size w w') (hR : ∀ x ∈ l, ∀ cs, R w x cs → R w' x cs) : RowsV sz R w' v l := by
  obtain ⟨A, c, h1, h2, h3⟩ := h
  refine ⟨A, c, h1, h2, fun h0 => ?_⟩
  obtain ⟨b, off, hA, hc⟩ := h3 h0
  refine ⟨b, off, hA, fun i x hx => ?_⟩
  obtain ⟨cs, k1, k2, k3⟩ := hc i x hx
  exact ⟨cs, hR x (List.mem_of_getElem? hx) cs k1, k2, fun j u hu => cell_later hb (k3 j u hu)⟩
theorem RowsV.nil {α : Type} {sz : Nat} {R : World → α → List Value → Prop} {w : World} : RowsV sz R w (.slice none 0 0) ([] : List α) := ⟨none, 0, rfl, Nat.le_refl _, fun h => absurd h (Nat.lt_irrefl _)⟩

/-- An import. -/
structure Im where
  src : ByteArray
  name : ByteArray
  t : ByteArray
  line : Int
  col : Int
/-- A def. -/
structure Df where
  name : ByteArray
  out : Bool
  t : ByteArray
  tree : List Nd
  line : Int
  col : Int
/-- A module. -/
structure Md where
  name : ByteArray
  imps : List Im
  defs : List Df
  line : Int
  col : Int
def Im.cells (x : Im) : List Value := [.string x.src, .string x.name, .string x.t, .int .i64 x.line, .int .i64 x.col]
def Df.cells (x : Df) (tv : Value) : List Value := [.string x.name, .bool x.out, .string x.t, tv, .int .i64 x.line, .int .i64 x.col]
def Md.cells (x : Md) (iv dv : Value) : List Value := [.string x.name, iv, dv, .int .i64 x.line, .int .i64 x.col]
def ImR (_ : World) (x : Im) (cs : List Value) : Prop := cs = x.cells
def Imps (w : World) (v : Value) (l : List Im) : Prop := RowsV 5 ImR w v l
def DfR (w : World) (x : Df) (cs : List Value) : Prop := ∃ tv, cs = x.cells tv ∧ Nodes w tv x.tree
def Defs (w : World) (v : Value) (l : List Df) : Prop := RowsV 6 DfR w v l
def MdR (w : World) (x : Md) (cs : List Value) : Prop := ∃ iv dv, cs = x.cells iv dv ∧ Imps w iv x.imps ∧ Defs w dv x.defs
def Mods (w : World) (v : Value) (l : List Md) : Prop := RowsV 5 MdR w v l
section
variable {w w' : World} {v : Value}
theorem Imps.later {l : List Im} (h : Imps w v l) (hb : Below w.heap.size w w') : Imps w' v l := RowsV.later h hb fun _ _ _ h => h
theorem DfR.later {x : Df} {cs : List Value} (h : DfR w x cs) (hb : Below w.heap.size w w') : DfR w' x cs := by
  obtain ⟨tv, h1, h2⟩ := h
  exact ⟨tv, h1, h2.later hb⟩
theorem Defs.later {l : List Df} (h : Defs w v l) (hb : Below w.heap.size w w') : Defs w' v l := RowsV.later h hb fun _ _ _ h => h.later hb
theorem MdR.later {x : Md} {cs : List Value} (h : MdR w x cs) (hb : Below w.heap.size w w') : MdR w' x cs := by
  obtain ⟨iv, dv, h1, h2, h3⟩ := h
  exact ⟨iv, dv, h1, h2.later hb, h3.later hb⟩
theorem Mods.later {l : List Md} (h : Mods w v l) (hb : Below w.heap.size w w') : Mods w' v l := RowsV.later h hb fun _ _ _ h => h.later hb
/-- The slice itself, and where its elements lie. -/
theorem Imps.form {l : List Im} (h : Imps w v l) : ∃ A c, v = .slice A l.length c := by
  obtain ⟨A, c, h1, _⟩ := h
  exact ⟨A, c, h1⟩
theorem Defs.form {l : List Df} (h : Defs w v l) : ∃ A c, v = .slice A l.length c := by
  obtain ⟨A, c, h1, _⟩ := h
  exact ⟨A, c, h1⟩
theorem Mods.form {l : List Md} (h : Mods w v l) : ∃ A c, v = .slice A l.length c := by
  obtain ⟨A, c, h1, _⟩ := h
  exact ⟨A, c, h1⟩
theorem Nodes.form {l : List Nd} (h : Nodes w v l) : ∃ A c, v = .slice A l.length c := by
  obtain ⟨A, c, h1, _⟩ := h
  exact ⟨A, c, h1⟩
/-- The cells of one import. -/
def ImAt (w : World) (b o : Nat) (x : Im) : Prop := w.cell? ⟨b, o, none⟩ = some (.string x.src) ∧ w.cell? ⟨b, o + 1, none⟩ = some (.string x.name) ∧ w.cell? ⟨b, o + 2, none⟩ = some (.string x.t) ∧ w.cell? ⟨b, o + 3, none⟩ = some (.int .i64 x.line) ∧ w.cell? ⟨b, o + 4, none⟩ = some (.int .i64 x.col)
/-- The cells of one def. -/
def DfAt (w : World) (b o : Nat) (x : Df) (tv : Value) : Prop := w.cell? ⟨b, o, none⟩ = some (.string x.name) ∧ w.cell? ⟨b, o + 1, none⟩ = some (.bool x.out) ∧ w.cell? ⟨b, o + 2, none⟩ = some (.string x.t) ∧ w.cell? ⟨b, o + 3, none⟩ = some tv ∧ w.cell? ⟨b, o + 4, none⟩ = some (.int .i64 x.line) ∧ w.cell? ⟨b, o + 5, none⟩ = some (.int .i64 x.col)
/-- The cells of one module. -/
def MdAt (w : World) (b o : Nat) (x : Md) (iv dv : Value) : Prop := w.cell? ⟨b, o, none⟩ = some (.string x.name) ∧ w.cell? ⟨b, o + 1, none⟩ = some iv ∧ w.cell? ⟨b, o + 2, none⟩ = some dv ∧ w.cell? ⟨b, o + 3, none⟩ = some (.int .i64 x.line) ∧ w.cell? ⟨b, o + 4, none⟩ = some (.int .i64 x.col)
theorem Imps.at_ {l : List Im} {A : Option Addr} {n c i : Nat} (h : Imps w (.slice A n c) l) (hi : i < l.length) : ∃ b off, A = some ⟨b, off, none⟩ ∧ ImAt w b (off + i * 5) l[i] := by
  obtain ⟨A, c, h1, h2, h3⟩ := h
  simp only [Value.slice.injEq] at h1
  obtain ⟨rfl, _, rfl⟩ := h1
  obtain ⟨b, off, rfl, hc⟩ := h3 (by omega)
  obtain ⟨cs, rfl, k2, k3⟩ := hc i _ (List.getElem?_eq_getElem hi)
  exact ⟨b, off, rfl, k3 0 _ rfl, k3 1 _ rfl, k3 2 _ rfl, k3 3 _ rfl, k3 4 _ rfl⟩
theorem Defs.at_ {l : List Df} {A : Option Addr} {n c i : Nat} (h : Defs w (.slice A n c) l) (hi : i < l.length) : ∃ b off tv, A = some ⟨b, off, none⟩ ∧ DfAt w b (off + i * 6) l[i] tv ∧ Nodes w tv l[i].tree := by
  obtain ⟨A, c, h1, h2, h3⟩ := h
  simp only [Value.slice.injEq] at h1
  obtain ⟨rfl, _, rfl⟩ := h1
  obtain ⟨b, off, rfl, hc⟩ := h3 (by omega)
  obtain ⟨cs, ⟨tv, rfl, kt⟩, k2, k3⟩ := hc i _ (List.getElem?_eq_getElem hi)
  exact ⟨b, off, tv, rfl, ⟨k3 0 _ rfl, k3 1 _ rfl, k3 2 _ rfl, k3 3 _ rfl, k3 4 _ rfl, k3 5 _ rfl⟩, kt⟩
theorem Mods.at_ {l : List Md} {A : Option Addr} {n c i : Nat} (h : Mods w (.slice A n c) l) (hi : i < l.length) : ∃ b off iv dv, A = some ⟨b, off, none⟩ ∧ MdAt w b (off + i * 5) l[i] iv dv ∧ Imps w iv l[i].imps ∧ Defs w dv l[i].defs := by
  obtain ⟨A, c, h1, h2, h3⟩ := h
  simp only [Value.slice.injEq] at h1
  obtain ⟨rfl, _, rfl⟩ := h1
  obtain ⟨b, off, rfl, hc⟩ := h3 (by omega)
  obtain ⟨cs, ⟨iv, dv, rfl, ki, kd⟩, k2, k3⟩ := hc i _ (List.getElem?_eq_getElem hi)
  exact ⟨b, off, iv, dv, rfl, ⟨k3 0 _ rfl, k3 1 _ rfl, k3 2 _ rfl, k3 3 _ rfl, k3 4 _ rfl⟩, ki, kd⟩
end
end Culp

/- Plain: the grammar over tokens: modules, limits, whole sources. No program in sight. -/
namespace Culp.Gr
set_option linter.unusedSimpArgs false
set_option linter.unusedVariables false
open Culp Culp.Tr
section
variable (L : List Tok)
def imps : Nat → Nat → List Nat → List Im → Except Nat (List Im × Nat × List Nat)
  | 0, i, _, _ => .error i
  | n + 1, i, lg, acc =>
    if isM L sImport i then bnd (name L (i + 1)) fun a => bnd (want L [46] a) fun b => bnd (name L b) fun c => bnd (note L c lg) fun r => bnd (want L [59] r.2.1) fun d =>
      imps n d r.2.2 (acc ++ [⟨by_ (txt L (i + 1)), by_ (txt L b), by_ r.1, (pl L b).1, (pl L b).2⟩])
    else .ok (acc, i, lg)
def defs : Nat → Nat → List Nat → List Df → Except Nat (List Df × Nat × List Nat)
  | 0, i, _, _ => .error i
  | n + 1, i, lg, acc =>
    if isM L [125] i then .ok (acc, i + 1, lg)
    else bnd (want L sLet (if isM L sExport i then i + 1 else i)) fun a => bnd (name L a) fun b => bnd (note L b lg) fun r => bnd (want L [61] r.2.1) fun c => bnd (expr L c r.2.2) fun e => bnd (want L [59] e.2.1) fun d =>
      defs n d e.2.2 (acc ++ [⟨by_ (txt L a), isM L sExport i, by_ r.1, e.1.flat, (pl L a).1, (pl L a).2⟩])
def module (i : Nat) (lg : List Nat) : Except Nat (Md × Nat × List Nat) :=
  bnd (want L sModule i) fun a => bnd (name L a) fun b => bnd (want L [123] b) fun c => bnd (imps L (L.length + 1) c lg []) fun r => bnd (defs L (L.length + 1) r.2.1 r.2.2 []) fun q =>
    .ok (⟨by_ (txt L a), r.1, q.1, (pl L a).1, (pl L a).2⟩, q.2)
def mods : Nat → Nat → List Nat → List Md → Except Nat (List Md × Nat × List Nat)
  | 0, i, _, _ => .error i
  | n + 1, i, lg, acc => if i < L.length then bnd (module L i lg) fun r => mods n r.2.1 r.2.2 (acc ++ [r.1]) else .ok (acc, i, lg)
/-- Where a token stands that is refused; the end's place. -/
def here (e : Nat × Nat) (i : Nat) : Nat × Nat := match L[i]? with
  | some (_, p) => p
  | none => e
/-- What was read is all there is, and no type of it is too long. -/
def fin {α : Type} (e : Nat × Nat) : Except Nat (α × Nat × List Nat) → Except (Nat × (Nat × Nat)) α
  | .error j => .error (15, here L e j)
  | .ok (a, i, lg) => if i < L.length then .error (15, here L e i) else match lg with
    | k :: _ => .error (21, pl L k)
    | [] => .ok a
end
/-- The end of a source. -/
def endOf (s : List UInt8) : Nat × Nat := Tx.further (1, 1) s
def tooMany : List Md → Option (Int × Int)
  | [] => none
  | m :: r => match m.imps[64]? with
    | some x => some (x.line, x.col)
    | none => match m.defs[64 - m.imps.length]? with
      | some d => some (d.line, d.col)
      | none => tooMany r
def allDefs (l : List Md) : List Df := l.flatMap Md.defs
def tooLarge : Nat → List Df → Option (Int × Int)
  | _, [] => none
  | n, d :: r => if 4096 < n + d.tree.length then some (d.line, d.col) else tooLarge (n + d.tree.length) r
def tooDeep (dp : List Nd → Int) : List Df → Option (Int × Int)
  | [] => none
  | d :: r => if 64 < dp d.tree then some (d.line, d.col) else tooDeep dp r
def limits (dp : List Nd → Int) (l : List Md) : Option (Nat × (Int × Int)) := match l[8]? with
  | some m => some (17, (m.line, m.col))
  | none => match tooMany l with
    | some p => some (17, p)
    | none => match tooLarge 0 (allDefs l) with
      | some p => some (17, p)
      | none => (tooDeep dp (allDefs l)).map fun p => (16, p)
section
variable {L : List Tok}
theorem imps_bound : ∀ (n i : Nat) (lg : List Nat) (acc : List Im) (r : List Im × Nat × List Nat), imps L n i lg acc = .ok r → i ≤ L.length → i ≤ r.2.1 ∧ r.2.1 ≤ L.length ∧ r.1.length + i ≤ r.2.1 + acc.length := by
  intro n
  induction n with
  | zero => intro i lg acc r h; cases h
  | succ n ih =>
    intro i lg acc r h hi
    rw [imps] at h
    split at h
    · obtain ⟨a, h1, h⟩ := bnd_inv h
      obtain ⟨rfl, b1⟩ := name_inv h1
      obtain ⟨b, h2, h⟩ := bnd_inv h
      obtain ⟨rfl, b2⟩ := want_inv h2
      obtain ⟨c, h3, h⟩ := bnd_inv h
      obtain ⟨rfl, b3⟩ := name_inv h3
      obtain ⟨q, h4, h⟩ := bnd_inv h
      have b4 := note_bound h4 (by omega)
      obtain ⟨d, h5, h⟩ := bnd_inv h
      obtain ⟨rfl, b5⟩ := want_inv h5
      obtain ⟨b6, b7, b8⟩ := ih _ _ _ _ h b5
      rw [List.length_append, List.length_singleton] at b8
      exact ⟨by omega, b7, by omega⟩
    · injection h with h; subst h
      exact ⟨Nat.le_refl _, hi, by show acc.length + i ≤ i + acc.length; omega⟩
theorem expr_bound {i : Nat} {lg : List Nat} {r : F × Nat × List Nat} (h : expr L i lg = .ok r) (hi : i ≤ L.length) : r.2.1 ≤ L.length ∧ r.1.flat.length + i ≤ r.2.1 ∧ One r.1 := by
  obtain ⟨a, b, c⟩ := px_bound _ _ _ _ _ h hi
  exact ⟨a, by simpa [NT.acc, F.flat] using b, c trivial⟩
theorem defs_bound : ∀ (n i : Nat) (lg : List Nat) (acc : List Df) (r : List Df × Nat × List Nat), defs L n i lg acc = .ok r → i ≤ L.length → i < r.2.1 ∧ r.2.1 ≤ L.length ∧ r.1.length + i ≤ r.2.1 + acc.length := by
  intro n
  induction n with
  | zero => intro i lg acc r h; cases h
  | succ n ih =>
    intro i lg acc r h hi
    rw [defs] at h
    split at h
    · rename_i e
      have := isM_lt e
      injection h with h; subst h
      exact ⟨Nat.lt_succ_self i, this, by show acc.length + i ≤ i + 1 + acc.length; omega⟩
    · obtain ⟨a, h1, h⟩ := bnd_inv h
      obtain ⟨rfl, b1⟩ := want_inv h1
      have b0 : i ≤ (if isM L sExport i then i + 1 else i) := by split <;> omega
      obtain ⟨b, h2, h⟩ := bnd_inv h
      obtain ⟨rfl, b2⟩ := name_inv h2
      obtain ⟨q, h4, h⟩ := bnd_inv h
      have b4 := note_bound h4 (by omega)
      obtain ⟨c, h3, h⟩ := bnd_inv h
      obtain ⟨rfl, b3⟩ := want_inv h3
      obtain ⟨e, h5, h⟩ := bnd_inv h
      obtain ⟨b5, b6, -⟩ := expr_bound h5 (by omega)
      obtain ⟨d, h7, h⟩ := bnd_inv h
      obtain ⟨rfl, b7⟩ := want_inv h7
      obtain ⟨b8, b9, b10⟩ := ih _ _ _ _ h b7
      rw [List.length_append, List.length_singleton] at b10
      exact ⟨by omega, b9, by omega⟩
theorem module_bound {i : Nat} {lg : List Nat} {r : Md × Nat × List Nat} (h : module L i lg = .ok r) : i + 4 ≤ r.2.1 ∧ r.2.1 ≤ L.length := by
  obtain ⟨a, h1, h⟩ := bnd_inv h
  obtain ⟨rfl, b1⟩ := want_inv h1
  obtain ⟨b, h2, h⟩ := bnd_inv h
  obtain ⟨rfl, b2⟩ := name_inv h2
  obtain ⟨c, h3, h⟩ := bnd_inv h
  obtain ⟨rfl, b3⟩ := want_inv h3
  obtain ⟨q, h4, h⟩ := bnd_inv h
  obtain ⟨b4, b5, -⟩ := imps_bound _ _ _ _ _ h4 (by omega)
  obtain ⟨s, h6, h⟩ := bnd_inv h
  obtain ⟨b6, b7, -⟩ := defs_bound _ _ _ _ _ h6 b5
  injection h with h; subst h
  exact ⟨by show i + 4 ≤ s.2.1; omega, b7⟩
end
end Culp.Gr
