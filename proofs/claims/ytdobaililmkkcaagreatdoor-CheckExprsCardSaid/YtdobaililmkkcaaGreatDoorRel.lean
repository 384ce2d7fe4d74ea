
/- Plain: consistent types, and more precise ones. -/
import Derived.Test.YtdobaililmkkcaaGreatDoorTyp
namespace Culp
set_option linter.unusedSimpArgs false
set_option linter.unusedVariables false
def cons : Ty → Ty → Bool
  | .dyn, _ => true
  | _, .dyn => true
  | .fn a b, .fn c d => cons a c && cons b d
  | .pair a b, .pair c d => cons a c && cons b d
  | .list a, .list c => cons a c
  | .box a, .box c => cons a c
  | .int, .int => true | .bool, .bool => true | .text, .text => true
  | _, _ => false
def prec : Ty → Ty → Bool
  | _, .dyn => true
  | .fn a b, .fn c d => prec a c && prec b d
  | .pair a b, .pair c d => prec a c && prec b d
  | .list a, .list c => prec a c
  | .box a, .box c => prec a c
  | .int, .int => true | .bool, .bool => true | .text, .text => true
  | _, _ => false
/-- Part by part. -/
def allK (f : Ty → Ty → Bool) : List Ty → List Ty → Bool
  | a :: as, b :: bs => f a b && allK f as bs
  | _, _ => true
@[simp] theorem cons_dyn (s : Ty) : cons s .dyn = true := by cases s <;> rfl
@[simp] theorem dyn_cons (s : Ty) : cons .dyn s = true := by cases s <;> rfl
@[simp] theorem prec_dyn (s : Ty) : prec s .dyn = true := by cases s <;> rfl
theorem cons_head {s t : Ty} (hs : s ≠ .dyn) (ht : t ≠ .dyn) (h : s.hd ≠ t.hd) : cons s t = false := by
  cases s <;> cases t <;> first | rfl | (exact absurd rfl h) | (exact absurd rfl hs) | (exact absurd rfl ht)
theorem prec_head {s t : Ty} (ht : t ≠ .dyn) (h : s.hd ≠ t.hd) : prec s t = false := by
  cases s <;> cases t <;> first | rfl | (exact absurd rfl h) | (exact absurd rfl ht)
theorem cons_same {s t : Ty} (h : s.hd = t.hd) : cons s t = allK cons s.kids t.kids := by
  cases s <;> cases t <;> simp [Ty.hd] at h <;> simp [cons, allK, Ty.kids]
theorem prec_same {s t : Ty} (h : s.hd = t.hd) : prec s t = allK prec s.kids t.kids := by
  cases s <;> cases t <;> simp [Ty.hd] at h <;> simp [prec, allK, Ty.kids]
theorem kids_same {s t : Ty} (h : s.hd = t.hd) : s.kids.length = t.kids.length := by
  cases s <;> cases t <;> simp [Ty.hd] at h <;> rfl
theorem allK_step (f : Ty → Ty → Bool) (ks ls : List Ty) (k : Nat) (h : k < ks.length) (h' : k < ls.length) :
    allK f (ks.drop k) (ls.drop k) = (f ks[k] ls[k] && allK f (ks.drop (k + 1)) (ls.drop (k + 1))) := by
  rw [List.drop_eq_getElem_cons h, List.drop_eq_getElem_cons h']; rfl
theorem allK_end (f : Ty → Ty → Bool) (ks ls : List Ty) (k : Nat) (h : ks.length ≤ k) : allK f (ks.drop k) (ls.drop k) = true := by
  rw [List.drop_eq_nil_of_le h]; rfl
end Culp
