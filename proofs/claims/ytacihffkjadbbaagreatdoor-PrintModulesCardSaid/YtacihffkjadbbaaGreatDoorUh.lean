
/- The printer: how parts are written by kinds, plain. -/
import Derived.Test.YtacihffkjadbbaaGreatDoorUg
namespace Go.Proofs.YtacihffkjadbbaaGreatDoor
set_option linter.unusedSimpArgs false
set_option linter.unusedVariables false
open Go.RowKit Culp
theorem one_of {ks : Tr.F} (h : ks.cnt = 1) : ∃ y ky, ks = .cons y ky .nil := by
  match ks, h with
  | .cons y ky .nil, _ => exact ⟨y, ky, rfl⟩
  | .cons y ky (.cons z kz r), h => simp [Tr.F.cnt] at h
theorem two_of {ks : Tr.F} (h : ks.cnt = 2) : ∃ y ky z kz, ks = .cons y ky (.cons z kz .nil) := by
  match ks, h with
  | .cons y ky .nil, h => simp [Tr.F.cnt] at h
  | .cons y ky (.cons z kz .nil), _ => exact ⟨y, ky, z, kz, rfl⟩
  | .cons y ky (.cons z kz (.cons u ku r)), h => simp [Tr.F.cnt] at h
theorem three_of {ks : Tr.F} (h : ks.cnt = 3) : ∃ y ky z kz u ku, ks = .cons y ky (.cons z kz (.cons u ku .nil)) := by
  match ks, h with
  | .cons y ky .nil, h => simp [Tr.F.cnt] at h
  | .cons y ky (.cons z kz .nil), h => simp [Tr.F.cnt] at h
  | .cons y ky (.cons z kz (.cons u ku .nil)), _ => exact ⟨y, ky, z, kz, u, ku, rfl⟩
  | .cons y ky (.cons z kz (.cons u ku (.cons t kt r))), h => simp [Tr.F.cnt] at h
theorem kids_cons (x y : Nd) (ky r : Tr.F) (k : Nat) : Pt.kids x k (.cons y ky r) = Pt.sep x k ++ (kidT (Pt.asked x.kind k) y ky ++ Pt.kids x (k + 1) r) := by
  rw [Pt.kids, kidT, Pt.part, List.append_assoc]
theorem kids_commas (x : Nd) (h1 : ∀ k, Pt.sep x k = if k = 0 then [] else [44, 32]) (h2 : ∀ k, Pt.asked x.kind k = 0) : ∀ (ks : Tr.F) (k : Nat), Pt.kids x k ks = commas k ks
  | .nil, k => by rw [Pt.kids, commas]
  | .cons y ky r, k => by rw [kids_cons, commas, h1, h2, kidT_0, kids_commas x h1 h2 r]
theorem kids_one (x y : Nd) (ky : Tr.F) (h : Pt.asked x.kind 0 = 0) : Pt.kids x 0 (.cons y ky .nil) = commas 0 (.cons y ky .nil) := by
  rw [kids_cons, h, kidT_0]
  simp [Pt.kids, commas, Pt.sep]
section
variable {x y z u : Nd} {ky kz ku : Tr.F}
theorem part_call (hk : x.kind = 7) : Pt.part x (.cons y ky (.cons z kz .nil)) = kidT 5 y ky ++ [40] ++ kidT 0 z kz ++ [41] := by
  rw [Pt.part, kids_cons, kids_cons, Pt.kids]
  simp [Pt.pre, Pt.sep, Pt.asked, Pt.post, hk]
theorem part_as (hk : x.kind = 29) : Pt.part x (.cons y ky .nil) = [40] ++ kidT 0 y ky ++ (Pt.note x.t ++ [41]) := by
  rw [Pt.part, kids_cons, Pt.kids]
  simp [Pt.pre, Pt.sep, Pt.asked, Pt.post, hk]
theorem part_let (hk : x.kind = 8) : Pt.part x (.cons y ky (.cons z kz .nil)) = ([108, 101, 116, 32] ++ x.s.data.toList ++ Pt.note x.t ++ [32, 61, 32]) ++ kidT 0 y ky ++ [32, 105, 110, 32] ++ kidT 0 z kz := by
  rw [Pt.part, kids_cons, kids_cons, Pt.kids]
  simp [Pt.pre, Pt.sep, Pt.asked, Pt.post, hk]
theorem part_fn (hk : x.kind = 5) : Pt.part x (.cons y ky .nil) = ([102, 110, 32, 40] ++ x.s.data.toList ++ Pt.note x.t ++ [41] ++ Pt.note x.u ++ [32, 61, 62, 32]) ++ kidT 0 y ky := by
  rw [Pt.part, kids_cons, Pt.kids]
  simp [Pt.pre, Pt.sep, Pt.asked, Pt.post, hk]
theorem part_rec (hk : x.kind = 6) {f a : List UInt8} (h2 : Tr.two x.s.data.toList = some (f, a)) : Pt.part x (.cons y ky .nil) = ([114, 101, 99, 32] ++ f ++ [32, 40] ++ a ++ Pt.note x.t ++ [41] ++ Pt.note x.u ++ [32, 61, 62, 32]) ++ kidT 0 y ky := by
  rw [Pt.part, kids_cons, Pt.kids]
  simp [Pt.pre, Pt.sep, Pt.asked, Pt.post, hk, h2]
theorem part_if (hk : x.kind = 9) : Pt.part x (.cons y ky (.cons z kz (.cons u ku .nil))) = [105, 102, 32] ++ kidT 0 y ky ++ [32, 116, 104, 101, 110, 32] ++ kidT 0 z kz ++ [32, 101, 108, 115, 101, 32] ++ kidT 0 u ku := by
  rw [Pt.part, kids_cons, kids_cons, kids_cons, Pt.kids]
  simp [Pt.pre, Pt.sep, Pt.asked, Pt.post, hk]
theorem part_set (hk : x.kind = 28) : Pt.part x (.cons y ky (.cons z kz .nil)) = kidT 1 y ky ++ ([32] ++ (⟨#[58, 61]⟩ : ByteArray).data.toList ++ [32]) ++ kidT 0 z kz := by
  rw [Pt.part, kids_cons, kids_cons, Pt.kids]
  simp [Pt.pre, Pt.sep, Pt.asked, Pt.post, hk]
theorem part_eq (hk : x.kind = 14) : Pt.part x (.cons y ky (.cons z kz .nil)) = kidT 2 y ky ++ ([32] ++ (⟨#[61, 61]⟩ : ByteArray).data.toList ++ [32]) ++ kidT 2 z kz := by
  rw [Pt.part, kids_cons, kids_cons, Pt.kids]
  simp [Pt.pre, Pt.sep, Pt.asked, Pt.post, hk]
theorem part_less (hk : x.kind = 15) : Pt.part x (.cons y ky (.cons z kz .nil)) = kidT 2 y ky ++ ([32] ++ (⟨#[60]⟩ : ByteArray).data.toList ++ [32]) ++ kidT 2 z kz := by
  rw [Pt.part, kids_cons, kids_cons, Pt.kids]
  simp [Pt.pre, Pt.sep, Pt.asked, Pt.post, hk]
theorem part_add (hk : x.kind = 10) : Pt.part x (.cons y ky (.cons z kz .nil)) = kidT 2 y ky ++ ([32] ++ (⟨#[43]⟩ : ByteArray).data.toList ++ [32]) ++ kidT 3 z kz := by
  rw [Pt.part, kids_cons, kids_cons, Pt.kids]
  simp [Pt.pre, Pt.sep, Pt.asked, Pt.post, hk]
theorem part_sub (hk : x.kind = 11) : Pt.part x (.cons y ky (.cons z kz .nil)) = kidT 2 y ky ++ ([32] ++ (⟨#[45]⟩ : ByteArray).data.toList ++ [32]) ++ kidT 3 z kz := by
  rw [Pt.part, kids_cons, kids_cons, Pt.kids]
  simp [Pt.pre, Pt.sep, Pt.asked, Pt.post, hk]
theorem part_join (hk : x.kind = 13) : Pt.part x (.cons y ky (.cons z kz .nil)) = kidT 2 y ky ++ ([32] ++ (⟨#[43, 43]⟩ : ByteArray).data.toList ++ [32]) ++ kidT 3 z kz := by
  rw [Pt.part, kids_cons, kids_cons, Pt.kids]
  simp [Pt.pre, Pt.sep, Pt.asked, Pt.post, hk]
theorem part_mul (hk : x.kind = 12) : Pt.part x (.cons y ky (.cons z kz .nil)) = kidT 3 y ky ++ ([32] ++ (⟨#[42]⟩ : ByteArray).data.toList ++ [32]) ++ kidT 4 z kz := by
  rw [Pt.part, kids_cons, kids_cons, Pt.kids]
  simp [Pt.pre, Pt.sep, Pt.asked, Pt.post, hk]
theorem part_neg (hk : x.kind = 16) : Pt.part x (.cons y ky .nil) = [45] ++ kidT 4 y ky := by
  rw [Pt.part, kids_cons, Pt.kids]
  simp [Pt.pre, Pt.sep, Pt.asked, Pt.post, hk]
theorem part_get (hk : x.kind = 27) : Pt.part x (.cons y ky .nil) = [33] ++ kidT 4 y ky := by
  rw [Pt.part, kids_cons, Pt.kids]
  simp [Pt.pre, Pt.sep, Pt.asked, Pt.post, hk]
end
theorem part_pair {x : Nd} (hk : x.kind = 18) (ks : Tr.F) : Pt.part x ks = [40] ++ commas 0 ks ++ [41] := by
  rw [← kids_commas x (fun k => by simp [Pt.sep, hk]) (fun k => by simp [Pt.asked, hk])]
  simp [Pt.part, Pt.pre, Pt.post, hk]
theorem part_list {x : Nd} (hk : x.kind = 21) (ks : Tr.F) : Pt.part x ks = [91] ++ commas 0 ks ++ [93] := by
  rw [← kids_commas x (fun k => by simp [Pt.sep, hk]) (fun k => by simp [Pt.asked, hk])]
  simp [Pt.part, Pt.pre, Pt.post, hk]
/-- The word of a kind that is written with brackets. -/
def wordOf (k : Int) : List UInt8 := if k = 26 then [98, 111, 120] else if k = 17 then [115, 105, 122, 101] else if k = 19 then [102, 105, 114, 115, 116] else if k = 20 then [115, 101, 99, 111, 110, 100] else if k = 22 then [104, 101, 97, 100] else if k = 23 then [116, 97, 105, 108] else if k = 24 then [101, 109, 112, 116, 121] else if k = 25 then [99, 111, 110, 115] else []
def Worded (k : Int) : Prop := k = 26 ∨ k = 17 ∨ k = 19 ∨ k = 20 ∨ k = 22 ∨ k = 23 ∨ k = 24 ∨ k = 25
theorem part_word {x : Nd} (hk : Worded x.kind) (ks : Tr.F) (hc : ks.cnt = if x.kind = 25 then 2 else 1) : Pt.part x ks = (wordOf x.kind ++ [40]) ++ commas 0 ks ++ [41] := by
  unfold Worded at hk
  by_cases h25 : x.kind = 25
  · rw [← kids_commas x (fun k => by simp [Pt.sep, h25]) (fun k => by simp [Pt.asked, h25])]
    simp [Pt.part, Pt.pre, Pt.post, h25, wordOf]
  · rw [if_neg h25] at hc
    obtain ⟨y, ky, rfl⟩ := one_of hc
    rw [← kids_one x y ky (by rcases hk with h | h | h | h | h | h | h | h <;> simp [Pt.asked, h])]
    rcases hk with h | h | h | h | h | h | h | h <;> simp [Pt.part, Pt.pre, Pt.post, h, wordOf]
theorem worded_or (k : Int) : k = 26 ∨ k = 17 ∨ k = 19 ∨ k = 20 ∨ k = 22 ∨ k = 23 ∨ k = 24 ∨ k = 25 ∨ (¬ k = 26 ∧ ¬ k = 17 ∧ ¬ k = 19 ∧ ¬ k = 20 ∧ ¬ k = 22 ∧ ¬ k = 23 ∧ ¬ k = 24 ∧ ¬ k = 25) := by omega
set_option maxRecDepth 100000 in
set_option maxHeartbeats 1600000 in
theorem applied_any (k : Int) (w : World) : Calls Tryz.prog 75 #[.int .i8 k] w (Gives (.string ⟨(wordOf k).toArray⟩) w) := by
  rcases worded_or k with rfl | rfl | rfl | rfl | rfl | rfl | rfl | rfl | ⟨h1, h2, h3, h4, h5, h6, h7, h8⟩
  all_goals
    go_enter Tryz.func75, Tryz.ntmps75
    go_wp2_with fail
    go_ret
    first
    | exact Gives.mk rfl
    | exact Gives.mk (str_congr (by simp [wordOf, *]))
end Go.Proofs.YtacihffkjadbbaaGreatDoor
