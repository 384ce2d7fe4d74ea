
/- How modules are written, plain. -/
import Derived.Test.YtacihffkjadbbaaGreatDoorUp
import Derived.Test.YtacihffkjadbbaaGreatDoorVc
namespace Culp.Mo
set_option linter.unusedSimpArgs false
set_option linter.unusedVariables false
theorem firstE_mem : ∀ {l : List Nat}, firstE l = 0 → ∀ e ∈ l, e = 0
  | [], _, e, h => by cases h
  | a :: l, h, e, he => by
    rw [firstE] at h
    split at h
    · rename_i h0
      rcases List.mem_cons.1 he with rfl | he
      · exact h0
      · exact firstE_mem h e he
    · rename_i h0
      exact absurd h h0
end Culp.Mo
namespace Culp.Pt
set_option linter.unusedSimpArgs false
set_option linter.unusedVariables false
open Culp Culp.Tr
def impT (i : Im) : List UInt8 := [32, 32, 105, 109, 112, 111, 114, 116, 32] ++ i.src.data.toList ++ [46] ++ i.name.data.toList ++ note i.t ++ [59, 10]
def expT (d : Df) : List UInt8 := if d.out = true then [101, 120, 112, 111, 114, 116, 32] else []
def defT (g : List Nd → List UInt8) (d : Df) : List UInt8 := [32, 32] ++ expT d ++ ([108, 101, 116, 32] ++ d.name.data.toList ++ note d.t ++ [32, 61, 32]) ++ g d.tree ++ [59, 10]
def modT (g : List Nd → List UInt8) (m : Md) : List UInt8 := ([109, 111, 100, 117, 108, 101, 32] ++ m.name.data.toList ++ [32, 123, 10]) ++ m.imps.flatMap impT ++ m.defs.flatMap (defT g) ++ [125, 10]
def headT (m : Md) : List UInt8 := [109, 111, 100, 117, 108, 101, 32] ++ m.name.data.toList ++ [32, 123, 10]
theorem modT_head (g : List Nd → List UInt8) (m : Md) : modT g m = headT m ++ m.imps.flatMap impT ++ m.defs.flatMap (defT g) ++ [125, 10] := rfl
def modsT (g : List Nd → List UInt8) (L : List Md) : List UInt8 := L.flatMap (modT g)
def NoteOk (t : ByteArray) : Prop := t.size = 0 ∨ isTy t.data.toList = true
def GoodI (i : Im) : Prop := i.src.size ≤ 32 ∧ i.name.size ≤ 32 ∧ NoteOk i.t
def GoodD (g : List Nd → List UInt8) (d : Df) : Prop := d.name.size ≤ 32 ∧ NoteOk d.t ∧ d.tree.length ≤ 4096 ∧ (∀ y ∈ d.tree, may y = true) ∧ ∃ x ks, d.tree = x :: ks.flat ∧ (F.cons x ks .nil).Ok ∧ g d.tree = part x ks
def GoodM (g : List Nd → List UInt8) (m : Md) : Prop := m.name.size ≤ 32 ∧ m.imps.length ≤ 64 ∧ m.defs.length ≤ 64 ∧ (∀ i ∈ m.imps, GoodI i) ∧ ∀ d ∈ m.defs, GoodD g d
theorem tl (s : ByteArray) : s.data.toList.length = s.size := Array.length_toList
theorem impT_len {i : Im} (h : GoodI i) : (impT i).length ≤ 500 := by
  obtain ⟨h1, h2, h3⟩ := h
  have := Go.Proofs.YtacihffkjadbbaaGreatDoor.note_len _ h3
  have a := tl i.src
  have b := tl i.name
  unfold impT
  simp only [List.length_append, List.length_cons, List.length_nil]
  omega
theorem defT_len {g : List Nd → List UInt8} {d : Df} (h : GoodD g d) : (defT g d).length ≤ 6145000 := by
  obtain ⟨h1, h2, h3, h4, x, ks, h5, h6, h7⟩ := h
  have n := Go.Proofs.YtacihffkjadbbaaGreatDoor.note_len _ h2
  have a := tl d.name
  have p := part_len (x := x) (ks := ks) (fun y hy => h4 y (by rw [h5]; exact hy))
  have l : 1 + ks.flat.length ≤ 4096 := by rw [h5] at h3; simp at h3; omega
  have e : (expT d).length ≤ 7 := by unfold expT; split <;> simp
  unfold defT
  rw [h7]
  simp only [List.length_append, List.length_cons, List.length_nil]
  omega
theorem flat_len {α : Type} {f : α → List UInt8} {n : Nat} : ∀ {l : List α}, (∀ x ∈ l, (f x).length ≤ n) → (l.flatMap f).length ≤ n * l.length
  | [], _ => by simp
  | x :: l, h => by
    have h1 := h x (by simp)
    have h2 := flat_len (f := f) (n := n) (l := l) (fun y hy => h y (by simp [hy]))
    simp only [List.flatMap_cons, List.length_append, List.length_cons, Nat.mul_succ]
    omega
theorem modT_len {g : List Nd → List UInt8} {m : Md} (h : GoodM g m) : (modT g m).length ≤ 400000000 := by
  obtain ⟨h1, h2, h3, h4, h5⟩ := h
  have a := tl m.name
  have i := flat_len (f := impT) (n := 500) (fun x hx => impT_len (h4 x hx))
  have d := flat_len (f := defT g) (n := 6145000) (fun x hx => defT_len (h5 x hx))
  unfold modT
  simp only [List.length_append, List.length_cons, List.length_nil]
  omega
theorem modsT_len {g : List Nd → List UInt8} {L : List Md} (h : ∀ m ∈ L, GoodM g m) (h8 : L.length ≤ 8) : (modsT g L).length ≤ 3200000000 := by
  have := flat_len (f := modT g) (n := 400000000) (fun x hx => modT_len (h x hx))
  unfold modsT
  omega
theorem flat_take {α : Type} {f : α → List UInt8} {l : List α} {k : Nat} {x : α} (h : l[k]? = some x) : (l.take (k + 1)).flatMap f = (l.take k).flatMap f ++ f x := by
  rw [List.take_add_one, h, List.flatMap_append]
  simp
theorem flat_pre {α : Type} {f : α → List UInt8} {l : List α} {k : Nat} {x : α} (h : l[k]? = some x) : ((l.take k).flatMap f).length + (f x).length ≤ (l.flatMap f).length := by
  have e : l.flatMap f = (l.take (k + 1)).flatMap f ++ (l.drop (k + 1)).flatMap f := by rw [← List.flatMap_append, List.take_append_drop]
  rw [e, flat_take h]
  simp only [List.length_append]
  omega
/-- Modules that may be. -/
theorem good_of {L : List Md} (h : Mo.mods L = 0) (g : List Nd → List UInt8) (hg : ∀ m ∈ L, ∀ d ∈ m.defs, ∃ x ks, d.tree = x :: ks.flat ∧ (F.cons x ks .nil).Ok ∧ g d.tree = part x ks) : L.length ≤ 8 ∧ ∀ m ∈ L, GoodM g m := by
  unfold Mo.mods at h
  split at h
  · rename_i hf
    split at h
    · rename_i h0
      unfold Mo.few at hf
      simp only [Bool.and_eq_true, decide_eq_true_eq, List.all_eq_true] at hf
      refine ⟨hf.1, fun m hm => ?_⟩
      have hs := hf.2 m hm
      unfold Mo.small at hs
      simp only [decide_eq_true_eq] at hs
      have hE := Mo.firstE_mem h0 (Mo.modE m) (List.mem_map_of_mem hm)
      have hh : Mo.headOk m = true := by
        cases hc : Mo.headOk m with
        | true => rfl
        | false => unfold Mo.modE at hE; rw [hc] at hE; simp at hE
      unfold Mo.modE at hE
      rw [if_pos hh] at hE
      unfold Mo.headOk at hh
      simp only [Bool.and_eq_true, List.all_eq_true] at hh
      refine ⟨by have := name_len32 hh.1; rw [tl] at this; exact this, by omega, by omega, fun i hi => ?_, fun d hd => ?_⟩
      · have := hh.2 i hi
        unfold Mo.impOk at this
        simp only [Bool.and_eq_true] at this
        refine ⟨?_, ?_, note_or this.2⟩
        · have := name_len32 this.1.1; rw [tl] at this; exact this
        · have := name_len32 this.1.2; rw [tl] at this; exact this
      · have hD := Mo.firstE_mem hE (Mo.defE d) (List.mem_map_of_mem hd)
        unfold Mo.defE at hD
        split at hD
        · rename_i hn
          simp only [Bool.and_eq_true] at hn
          obtain ⟨hl, x, ks, he, hO, hmm, _⟩ := F.of_check hD
          exact ⟨by have := name_len32 hn.1; rw [tl] at this; exact this, note_or hn.2, hl, hmm, hg m hm d hd⟩
        · cases hD
    · rename_i h0
      exact absurd h h0
  · cases h
end Culp.Pt
