/- Plain: which casts can be blamed, on types as trees. -/
import Derived.Test.YtebnlpiadddikaaTyp
namespace Culp
set_option linter.unusedSimpArgs false
set_option linter.unusedVariables false

/-- Both sides at once, with fuel: true: the positive side. -/
def sd : Nat → Bool → Ty → Ty → Bool
  | 0, _, _, _ => false
  | _ + 1, true, _, .dyn => true
  | _ + 1, false, .dyn, _ => true
  | n + 1, p, .fn a b, .fn c d => sd n (!p) c a && sd n p b d
  | n + 1, p, .pair a b, .pair c d => sd n p a c && sd n p b d
  | n + 1, p, .list a, .list c => sd n p a c
  | n + 1, p, .box a, .box c => sd n p a c && sd n (!p) c a
  | n + 1, false, .fn a b, .dyn => sd n true .dyn a && sd n false b .dyn
  | n + 1, false, .pair a b, .dyn => sd n false a .dyn && sd n false b .dyn
  | n + 1, false, .list a, .dyn => sd n false a .dyn
  | n + 1, false, .box a, .dyn => sd n false a .dyn && sd n true .dyn a
  | _ + 1, true, .int, .int => true
  | _ + 1, true, .bool, .bool => true
  | _ + 1, true, .text, .text => true
  | _ + 1, true, _, _ => false
  | _ + 1, false, _, _ => true

theorem sd_more (n : Nat) : ∀ (m : Nat) (p : Bool) (s t : Ty), s.sz + t.sz ≤ n → n ≤ m → sd m p s t = sd n p s t := by
  induction n with
  | zero => intro m p s t h; have := s.sz_pos; omega
  | succ n ih =>
    intro m p s t h hm
    obtain ⟨m, rfl⟩ : ∃ k, m = k + 1 := ⟨m - 1, by omega⟩
    have key : ∀ p s t, s.sz + t.sz ≤ n → sd m p s t = sd n p s t := fun p s t h => ih m p s t h (by omega)
    cases p <;> cases s <;> cases t <;> simp only [sd] <;> simp only [Ty.sz] at h <;>
      first | (apply key; first | omega | (simp only [Ty.sz]; omega)) | (congr 1 <;> apply key <;> (first | omega | (simp only [Ty.sz]; omega)))

/-- The positive side, the negative side. -/
def sp (s t : Ty) : Bool := sd (s.sz + t.sz) true s t
def sm (s t : Ty) : Bool := sd (s.sz + t.sz) false s t
theorem sp_of {n : Nat} {s t : Ty} (h : s.sz + t.sz ≤ n) : sd n true s t = sp s t := sd_more _ _ _ _ _ (Nat.le_refl _) h
theorem sm_of {n : Nat} {s t : Ty} (h : s.sz + t.sz ≤ n) : sd n false s t = sm s t := sd_more _ _ _ _ _ (Nat.le_refl _) h

@[simp] theorem sp_dyn (s : Ty) : sp s .dyn = true := by
  unfold sp; obtain ⟨k, hk⟩ : ∃ k, s.sz + Ty.dyn.sz = k + 1 := ⟨s.sz, by simp [Ty.sz]⟩
  rw [hk]; cases s <;> rfl
@[simp] theorem sm_dyn (t : Ty) : sm .dyn t = true := by
  unfold sm; obtain ⟨k, hk⟩ : ∃ k, Ty.dyn.sz + t.sz = k + 1 := ⟨t.sz, by simp [Ty.sz]; omega⟩
  rw [hk]; cases t <;> rfl
theorem sp_fn (a b c d : Ty) : sp (.fn a b) (.fn c d) = (sm c a && sp b d) := by
  unfold sp; rw [show (Ty.fn a b).sz + (Ty.fn c d).sz = (1 + a.sz + b.sz + c.sz + d.sz) + 1 by simp [Ty.sz]; omega]
  simp only [sd, Bool.not_true]; rw [sm_of (by omega), sp_of (by omega)]; rfl
theorem sm_fn (a b c d : Ty) : sm (.fn a b) (.fn c d) = (sp c a && sm b d) := by
  unfold sm; rw [show (Ty.fn a b).sz + (Ty.fn c d).sz = (1 + a.sz + b.sz + c.sz + d.sz) + 1 by simp [Ty.sz]; omega]
  simp only [sd, Bool.not_false]; rw [sm_of (by omega), sp_of (by omega)]; rfl
theorem sp_pair (a b c d : Ty) : sp (.pair a b) (.pair c d) = (sp a c && sp b d) := by
  unfold sp; rw [show (Ty.pair a b).sz + (Ty.pair c d).sz = (1 + a.sz + b.sz + c.sz + d.sz) + 1 by simp [Ty.sz]; omega]
  simp only [sd]; rw [sp_of (by omega), sp_of (by omega)]; rfl
theorem sm_pair (a b c d : Ty) : sm (.pair a b) (.pair c d) = (sm a c && sm b d) := by
  unfold sm; rw [show (Ty.pair a b).sz + (Ty.pair c d).sz = (1 + a.sz + b.sz + c.sz + d.sz) + 1 by simp [Ty.sz]; omega]
  simp only [sd]; rw [sm_of (by omega), sm_of (by omega)]; rfl
theorem sp_list (a c : Ty) : sp (.list a) (.list c) = sp a c := by
  unfold sp; rw [show (Ty.list a).sz + (Ty.list c).sz = (1 + a.sz + c.sz) + 1 by simp [Ty.sz]; omega]
  simp only [sd]; rw [sp_of (by omega)]; rfl
theorem sm_list (a c : Ty) : sm (.list a) (.list c) = sm a c := by
  unfold sm; rw [show (Ty.list a).sz + (Ty.list c).sz = (1 + a.sz + c.sz) + 1 by simp [Ty.sz]; omega]
  simp only [sd]; rw [sm_of (by omega)]; rfl
theorem sp_box (a c : Ty) : sp (.box a) (.box c) = (sp a c && sm c a) := by
  unfold sp; rw [show (Ty.box a).sz + (Ty.box c).sz = (1 + a.sz + c.sz) + 1 by simp [Ty.sz]; omega]
  simp only [sd, Bool.not_true]; rw [sm_of (by omega), sp_of (by omega)]; rfl
theorem sm_box (a c : Ty) : sm (.box a) (.box c) = (sm a c && sp c a) := by
  unfold sm; rw [show (Ty.box a).sz + (Ty.box c).sz = (1 + a.sz + c.sz) + 1 by simp [Ty.sz]; omega]
  simp only [sd, Bool.not_false]; rw [sm_of (by omega), sp_of (by omega)]; rfl

theorem sm_gnd (s : Ty) : sm s .dyn = sm s s.gnd := by
  cases s
  case fn a b =>
    unfold sm Ty.gnd
    rw [show (Ty.fn a b).sz + Ty.dyn.sz = (1 + a.sz + b.sz) + 1 by simp [Ty.sz]]
    rw [show (Ty.fn a b).sz + (Ty.fn .dyn .dyn).sz = (3 + a.sz + b.sz) + 1 by simp only [Ty.sz]; omega]
    simp only [sd, Bool.not_false]
    have := a.sz_pos; have := b.sz_pos
    rw [sm_of (by simp only [Ty.sz]; omega), sp_of (by simp only [Ty.sz]; omega), sm_of (by simp only [Ty.sz]; omega), sp_of (by simp only [Ty.sz]; omega)]
  case pair a b =>
    unfold sm Ty.gnd
    rw [show (Ty.pair a b).sz + Ty.dyn.sz = (1 + a.sz + b.sz) + 1 by simp [Ty.sz]]
    rw [show (Ty.pair a b).sz + (Ty.pair .dyn .dyn).sz = (3 + a.sz + b.sz) + 1 by simp only [Ty.sz]; omega]
    simp only [sd]
    have := a.sz_pos; have := b.sz_pos
    rw [sm_of (by simp only [Ty.sz]; omega), sm_of (by simp only [Ty.sz]; omega), sm_of (by simp only [Ty.sz]; omega), sm_of (by simp only [Ty.sz]; omega)]
  case list a =>
    unfold sm Ty.gnd
    rw [show (Ty.list a).sz + Ty.dyn.sz = (1 + a.sz) + 1 by simp [Ty.sz]]
    rw [show (Ty.list a).sz + (Ty.list .dyn).sz = (2 + a.sz) + 1 by simp only [Ty.sz]; omega]
    simp only [sd]
    rw [sm_of (by simp only [Ty.sz]; omega), sm_of (by simp only [Ty.sz]; omega)]
  case box a =>
    unfold sm Ty.gnd
    rw [show (Ty.box a).sz + Ty.dyn.sz = (1 + a.sz) + 1 by simp [Ty.sz]]
    rw [show (Ty.box a).sz + (Ty.box .dyn).sz = (2 + a.sz) + 1 by simp only [Ty.sz]; omega]
    simp only [sd, Bool.not_false]
    rw [sm_of (by simp only [Ty.sz]; omega), sp_of (by simp only [Ty.sz]; omega), sm_of (by simp only [Ty.sz]; omega), sp_of (by simp only [Ty.sz]; omega)]
  all_goals rfl

theorem sp_refl_both (s : Ty) : sp s s = true ∧ sm s s = true := by
  induction s with
  | int | bool | text | dyn => exact ⟨rfl, rfl⟩
  | fn a b iha ihb => rw [sp_fn, sm_fn]; simp [iha, ihb]
  | pair a b iha ihb => rw [sp_pair, sm_pair]; simp [iha, ihb]
  | list a iha => rw [sp_list, sm_list]; exact iha
  | box a iha => rw [sp_box, sm_box]; simp [iha]
theorem sp_succ (s t : Ty) : sp s t = sd (s.sz + t.sz + 1) true s t := (sp_of (by omega)).symm
theorem sm_succ (s t : Ty) : sm s t = sd (s.sz + t.sz + 1) false s t := (sm_of (by omega)).symm
theorem sp_head {s t : Ty} (h : s.hd ≠ t.hd) (ht : t ≠ .dyn) : sp s t = false := by
  rw [sp_succ]
  cases s <;> cases t <;> first | rfl | (exact absurd rfl h) | (exact absurd rfl ht)
theorem sm_head {s t : Ty} (h : s.hd ≠ t.hd) (ht : t ≠ .dyn) : sm s t = true := by
  rw [sm_succ]
  cases s <;> cases t <;> first | rfl | (exact absurd rfl h) | (exact absurd rfl ht)
end Culp
