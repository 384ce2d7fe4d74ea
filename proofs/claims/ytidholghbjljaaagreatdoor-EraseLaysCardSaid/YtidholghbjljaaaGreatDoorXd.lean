
/- What follows of keeping and laying, plain. No program in sight. -/
import Derived.Test.YtidholghbjljaaaGreatDoorWy
import Derived.Test.YtidholghbjljaaaGreatDoorXa
namespace Culp.Er
set_option linter.unusedSimpArgs false
set_option linter.unusedVariables false
open Culp Culp.Tr Culp.Mo
theorem prec_self : ∀ s : Ty, prec s s = true := by
  intro s
  induction s <;> simp_all [prec]
theorem strI {s t : Ty} (h : s.str = t.str) : s = t := enc_inj (by rw [← str_list s, h, str_list])
theorem prec_dyn (t : Ty) : prec t .dyn = true := by cases t <;> rfl
theorem alike_self (a : Md) : alikeM a a := ⟨rfl, rfl, rfl, fun i x y h1 h2 => by rw [h1] at h2; cases h2; exact ⟨rfl, rfl, rfl⟩, fun i x y h1 h2 => by
  rw [h1] at h2
  cases h2
  exact ⟨rfl, rfl, rfl, fun i x y h1 h2 => by rw [h1] at h2; cases h2; exact ⟨rfl, rfl, rfl, rfl, rfl, rfl⟩⟩⟩
theorem alike_refl (A : List Md) : alikeAll A A := ⟨rfl, fun i a b h1 h2 => by rw [h1] at h2; cases h2; exact alike_self a⟩
section
variable {L : List Md} {f g : Pos → ByteArray} {keep : List Bool} {s : Sl}
/-- Only the slots' texts differ. -/
def OffSlots (L : List Md) (f g : Pos → ByteArray) : Prop := ∀ p, Real L p → (∀ s ∈ slots L, s.pos ≠ p) → f p = g p
theorem bare_same (h : OffSlots L f g) : bareL (lay f L) = bareL (lay g L) := by
  unfold bareL
  rw [slots_lay, slots_lay, lay_lay, lay_lay]
  refine lay_congr fun p hp => ?_
  by_cases hs : ∀ s ∈ slots L, s.pos ≠ p
  · rw [bare_off hs, bare_off hs, note_lay f hp, note_lay g hp]
    exact h p hp hs
  · simp only [ne_eq, Classical.not_forall, Decidable.not_not] at hs
    obtain ⟨s, hs, rfl⟩ := hs
    obtain ⟨k, hk⟩ := mem_at.1 hs
    have hl := (List.getElem?_eq_some_iff.1 hk).1
    rw [bare_new (slots_dist L) hk _ hl (Nat.le_refl _), bare_new (slots_dist L) hk _ hl (Nat.le_refl _)]
theorem less_lay (h1 : mods (lay f L) = 0) (h2 : mods (lay g L) = 0) (ho : OffSlots L f g) (h : ∀ s ∈ slots L, known (g s.pos) = known (f s.pos) ∨ known (g s.pos) = dynB) : lessP (lay f L) (lay g L) := by
  refine ⟨h1, h2, by rw [bare_same ho]; exact alike_refl _, fun i s s' hs hs' T T' hT hT' => ?_⟩
  rw [slots_lay] at hs hs'
  rw [hs] at hs'
  cases hs'
  have hr := slots_real (List.mem_of_getElem? hs)
  rw [note_lay f hr] at hT
  rw [note_lay g hr] at hT'
  rcases h s (List.mem_of_getElem? hs) with e | e
  · rw [e, hT] at hT'
    rw [strI hT']
    exact prec_self _
  · rw [e] at hT'
    have : T' = .dyn := (strI (s := .dyn) hT').symm
    rw [this]; exact prec_dyn T
theorem good_blank : good s (laid s no) = true := by
  unfold good laid
  cases s.absent with
  | true => rfl
  | false => rfl
theorem keep_txt (h : TxtOk L f) : ∀ k, TxtOk L (keepAt keep (slots L) f k).2
  | 0 => h
  | k + 1 => by
    cases ha : (slots L)[k]? with
    | none =>
      have hl : (slots L).length ≤ k := List.getElem?_eq_none_iff.1 ha
      have ih := keep_txt h k
      unfold keepAt at ih ⊢
      rw [List.take_of_length_le (by omega)] at ih ⊢
      exact ih
    | some s =>
      have ih := keep_txt h k
      rw [keep_step ha]
      unfold stepK
      split
      · split
        · exact txt_upd ih (List.mem_of_getElem? ha) good_blank
        · exact ih
      · exact ih
/-- The texts behind keeping. -/
def kept (keep : List Bool) (L : List Md) : Pos → ByteArray := (keepAt keep (slots L) (note L) (slots L).length).2
theorem kept_mods (h : mods L = 0) : mods (lay (kept keep L) L) = 0 := by
  have h1 : mods (lay (note L) L) = 0 := by rw [lay_note]; exact h
  exact mods_txt h1 (keep_txt (txt_ok h1) _)
theorem kept_off {p : Pos} (h : ∀ s ∈ slots L, s.pos ≠ p) : kept keep L p = note L p := keep_off h _
theorem kept_at (hs : s ∈ slots L) : kept keep L s.pos = note L s.pos ∨ (isW (note L s.pos) = true ∧ kept keep L s.pos = laid s no) := by
  obtain ⟨k, hk⟩ := mem_at.1 hs
  have := keep_done (keep := keep) (f := note L) (slots_dist L) hk
  unfold kept
  rw [this]
  split
  · rename_i h; exact .inr ⟨h.1, rfl⟩
  · exact .inl rfl
theorem known_blank : known (laid s no) = dynB := by
  unfold laid known
  cases s.absent with
  | true => rfl
  | false => rfl
theorem off_kept : OffSlots L (note L) (kept keep L) := fun p _ h => (kept_off h).symm
theorem less_kept (h : mods L = 0) : lessP L (lay (kept keep L) L) := by
  have h1 : mods (lay (note L) L) = 0 := by rw [lay_note]; exact h
  have := less_lay h1 (kept_mods (keep := keep) h) off_kept fun s hs => by
    rcases kept_at (keep := keep) hs with e | ⟨_, e⟩
    · exact .inl (by rw [e])
    · exact .inr (by rw [e]; exact known_blank)
  rwa [lay_note] at this
end
end Culp.Er

/- Walks of erase: the known modules; no idle program. -/
namespace Culp.Er
set_option linter.unusedSimpArgs false
set_option linter.unusedVariables false
open Culp Culp.Tr Culp.Mo
def bt (l : List UInt8) : ByteArray := ⟨l.toArray⟩
def nodeL (a : ByteArray) (u : ByteArray) : List Nd := [⟨5, 1, 0, bt [121], bt [105], u, 0, 0⟩, ⟨29, 1, 0, bt [], a, bt [], 0, 0⟩, ⟨4, 0, 0, bt [121], bt [], bt [], 0, 0⟩]
/-- A module with four slots. -/
def modL (a u : ByteArray) : List Md := [⟨bt [109], [], [⟨bt [102], false, bt [63], nodeL a u, 0, 0⟩], 0, 0⟩]
def oneL : List Md := modL (bt [105]) (bt [])
theorem one_mods : mods oneL = 0 := by kernel_rfl
theorem one_slots : slots oneL = [⟨(1, 0, 0, 0), bt [109], false, 0, -1, false, true⟩, ⟨(2, 0, 0, 0), bt [109], false, 0, 0, false, true⟩, ⟨(3, 0, 0, 0), bt [109], false, 0, 0, true, true⟩, ⟨(2, 0, 0, 1), bt [109], false, 0, 1, false, false⟩] := by kernel_rfl
theorem one_written : idxW (slots oneL) (note oneL) (slots oneL).length = [1, 3] := by kernel_rfl
theorem one_kept : lay (kept [true, false] oneL) oneL = modL (bt [63]) (bt []) := by kernel_rfl
theorem one_count : (keepAt [true, false] (slots oneL) (note oneL) (slots oneL).length).1 = 2 := by kernel_rfl
theorem one_laid : lay (layTo (slots oneL) (note oneL) 2 (bt [116]) (slots oneL).length) oneL = modL (bt [105]) (bt [116]) := by kernel_rfl
theorem one_static : staticL oneL = false := by kernel_rfl
theorem one_ty : isTy (bt [116]).data.toList = true := by kernel_rfl
theorem one_less : lessP oneL (modL (bt [63]) (bt [])) := by rw [← one_kept]; exact less_kept one_mods
theorem one_more : ¬ lessP (modL (bt [63]) (bt [])) oneL := fun h => by
  have h1 : (slots (modL (bt [63]) (bt [])))[3]? = some ⟨(2, 0, 0, 1), bt [109], false, 0, 1, false, false⟩ := by kernel_rfl
  have h2 : (slots oneL)[3]? = some ⟨(2, 0, 0, 1), bt [109], false, 0, 1, false, false⟩ := by kernel_rfl
  have := h.2.2.2 3 _ _ h1 h2 .dyn .int (by kernel_rfl) (by kernel_rfl)
  cases this
theorem mod_lens (a u : ByteArray) : Lens (modL a u) := ⟨by show (1 : Nat) ≤ _; omega, fun md h => by
  rw [modL, List.mem_singleton] at h
  subst h
  show (0 : Nat) ≤ _; omega, fun md h => by
  rw [modL, List.mem_singleton] at h
  subst h
  show (1 : Nat) ≤ _; omega, fun md h d hd => by
  rw [modL, List.mem_singleton] at h
  subst h
  simp only [List.mem_singleton] at hd
  subst hd
  show (3 : Nat) ≤ _; omega⟩
end Culp.Er
namespace Go.Proofs.YtidholghbjljaaaGreatDoor
set_option linter.unusedSimpArgs false
set_option linter.unusedVariables false
open Go.RowKit Go.Maps Culp Culp.Er
theorem mod_sz (a u : ByteArray) (ha : a.size ≤ 1000) (hu : u.size ≤ 1000) : ∀ m ∈ modL a u, MdSz m := fun m h => by
  rw [modL, List.mem_singleton] at h
  subst h
  refine ⟨by show (1 : Nat) ≤ _; omega, ⟨by show (0 : Nat) ≤ _; omega, fun i hi => by simp at hi⟩, by show (1 : Nat) ≤ _; omega, fun d hd => ?_⟩
  simp only [List.mem_singleton] at hd
  subst hd
  refine ⟨by show (1 : Nat) ≤ _; omega, by show (1 : Nat) ≤ _; omega, by show (3 : Nat) ≤ _; omega, fun y hy => ?_, fun y hy => ?_⟩
  · simp only [nodeL, List.mem_cons, List.not_mem_nil, or_false] at hy
    rcases hy with rfl | rfl | rfl
    · exact ⟨by show (1 : Nat) ≤ _; omega, by show (1 : Nat) ≤ _; omega, by show u.size ≤ _; omega, by show (0 : Int) ≤ _; omega⟩
    · exact ⟨by show (0 : Nat) ≤ _; omega, by show a.size ≤ _; omega, by show (0 : Nat) ≤ _; omega, by show (0 : Int) ≤ _; omega⟩
    · exact ⟨by show (1 : Nat) ≤ _; omega, by show (0 : Nat) ≤ _; omega, by show (0 : Nat) ≤ _; omega, by show (0 : Int) ≤ _; omega⟩
  · simp only [nodeL, List.mem_cons, List.not_mem_nil, or_false] at hy
    rcases hy with rfl | rfl | rfl
    · show (1 : Int) ≤ _; omega
    · show (1 : Int) ≤ _; omega
    · show (0 : Int) ≤ _; omega
theorem one_sz : ∀ m ∈ oneL, MdSz m := mod_sz _ _ (by decide) (by decide)
theorem lit_cells {w : World} {b : Nat} {cs : Array Value} {t : TypeId} (h : w.heap[b]? = some (.cells cs t (0, 0))) (j : Nat) : w.cell? ⟨b, j, none⟩ = cs[j]? := by simp [World.cell?, h]
theorem one_mem (W : World) (n : Nat) (t0 t1 t2 : TypeId) (h0 : W.heap[n]? = some (.cells ((nodeL (bt [105]) (bt [])).flatMap Nd.cells).toArray t0 (0, 0))) (h1 : W.heap[n + 1]? = some (.cells #[.string (bt [102]), .bool false, .string (bt [63]), .slice (some ⟨n, 0, none⟩) 3 3, .int .i64 0, .int .i64 0] t1 (0, 0)))
    (h2 : W.heap[n + 1 + 1]? = some (.cells #[.string (bt [109]), .slice none 0 0, .slice (some ⟨n + 1, 0, none⟩) 1 1, .int .i64 0, .int .i64 0] t2 (0, 0))) : Mods W (.slice (some ⟨n + 1 + 1, 0, none⟩) 1 1) oneL := by
  refine ⟨_, 1, rfl, Nat.le_refl _, fun _ => ⟨n + 1 + 1, 0, rfl, fun i x hx => ?_⟩⟩
  match i, hx with
  | 0, hx =>
    cases hx
    refine ⟨_, ⟨.slice none 0 0, .slice (some ⟨n + 1, 0, none⟩) 1 1, rfl, RowsV.nil, ⟨_, 1, rfl, Nat.le_refl _, fun _ => ⟨n + 1, 0, rfl, fun i x hx => ?_⟩⟩⟩, rfl, fun j u hu => ?_⟩
    · match i, hx with
      | 0, hx =>
        cases hx
        refine ⟨_, ⟨.slice (some ⟨n, 0, none⟩) 3 3, rfl, ⟨_, 3, rfl, Nat.le_refl _, fun _ => ⟨n, 0, rfl, fun i x hx j u hu => ?_⟩⟩⟩, rfl, fun j u hu => ?_⟩
        · rw [lit_cells h0]
          match i, hx with
          | 0, hx =>
            cases hx
            match j, hu with
            | 0, hu => exact hu
            | 1, hu => exact hu
            | 2, hu => exact hu
            | 3, hu => exact hu
            | 4, hu => exact hu
            | 5, hu => exact hu
            | 6, hu => exact hu
            | 7, hu => exact hu
            | j + 8, hu => simp [Nd.cells] at hu
          | 1, hx =>
            cases hx
            match j, hu with
            | 0, hu => exact hu
            | 1, hu => exact hu
            | 2, hu => exact hu
            | 3, hu => exact hu
            | 4, hu => exact hu
            | 5, hu => exact hu
            | 6, hu => exact hu
            | 7, hu => exact hu
            | j + 8, hu => simp [Nd.cells] at hu
          | 2, hx =>
            cases hx
            match j, hu with
            | 0, hu => exact hu
            | 1, hu => exact hu
            | 2, hu => exact hu
            | 3, hu => exact hu
            | 4, hu => exact hu
            | 5, hu => exact hu
            | 6, hu => exact hu
            | 7, hu => exact hu
            | j + 8, hu => simp [Nd.cells] at hu
          | i + 3, hx => simp [nodeL] at hx
        · rw [lit_cells h1, show 0 + 0 * 6 + j = j by omega]
          match j, hu with
          | 0, hu => exact hu
          | 1, hu => exact hu
          | 2, hu => exact hu
          | 3, hu => exact hu
          | 4, hu => exact hu
          | 5, hu => exact hu
          | j + 6, hu => simp [Df.cells] at hu
      | i + 1, hx => simp at hx
    · rw [lit_cells h2, show 0 + 0 * 5 + j = j by omega]
      match j, hu with
      | 0, hu => exact hu
      | 1, hu => exact hu
      | 2, hu => exact hu
      | 3, hu => exact hu
      | 4, hu => exact hu
      | j + 5, hu => simp [Md.cells] at hu
  | i + 1, hx => simp [oneL, modL] at hx
def OneRes (w : World) (E : Ending) (w' : World) : Prop := ∃ v, E = .returned v ∧ Below w.heap.size w w' ∧ Mods w' v oneL
theorem one_any (w : World) : Calls Tryz.prog 32 #[] w (OneRes w) := by
  have key : ∀ a b c : Obj, (((w.alloc a).alloc b).alloc c).heap[w.heap.size]? = some a ∧ (((w.alloc a).alloc b).alloc c).heap[w.heap.size + 1]? = some b ∧ (((w.alloc a).alloc b).alloc c).heap[w.heap.size + 1 + 1]? = some c ∧ Below w.heap.size w (((w.alloc a).alloc b).alloc c) := fun a b c => by
    refine ⟨?_, ?_, ?_, ((Below.refl _ _).alloc (Nat.le_refl _) _).alloc (by simp) _ |>.alloc (by simp; omega) _⟩
    · rw [Below.heap_alloc _ _ _ (by simp; omega), Below.heap_alloc _ _ _ (by simp)]; exact World.alloc_heap_new _ _
    · rw [Below.heap_alloc _ _ _ (by simp)]
      have := World.alloc_heap_new (w.alloc a) b
      rwa [World.size_alloc] at this
    · have := World.alloc_heap_new ((w.alloc a).alloc b) c
      rwa [World.size_alloc, World.size_alloc] at this
  have HK := Lib.hid key
  clear key
  go_enter Tryz.func32, Tryz.ntmps32
  go_wp2_with fail
  go_ret
  obtain ⟨k0, k1, k2, k3⟩ := HK.out _ _ _
  exact ⟨_, rfl, k3, one_mem _ _ _ _ _ k0 k1 k2⟩
end Go.Proofs.YtidholghbjljaaaGreatDoor

/- Walks of erase: no idle program. -/
namespace Culp.Er
set_option linter.unusedSimpArgs false
set_option linter.unusedVariables false
open Go Go.RowKit Culp
/-- A row's cells, by number. -/
theorem own_at {w : World} {base : Nat} {e : TypeId} {size : Nat} {v : Value} {n : Nat} {xs : List Value} (h : w.ownsRow base e size v n xs) (hn : 0 < n) : ∃ g cap, v = .slice (some ⟨g, 0, none⟩) n cap ∧ base ≤ g ∧ ∀ (j : Nat) u, xs[j]? = some u → w.cell? ⟨g, j, none⟩ = some u := by
  rcases h.2 with ⟨_, h0⟩ | ⟨g, cap, cur, rfl, hb, _⟩
  · omega
  · refine ⟨g, cap, rfl, hb, fun j u hj => ?_⟩
    have hl := (List.getElem?_eq_some_iff.1 hj).1
    rw [h.1] at hl
    rw [h.cellAt j hl]; exact hj
theorem flat_at {α : Type} (f : α → List Value) (n : Nat) (hf : ∀ x, (f x).length = n) : ∀ (L : List α) (i : Nat) (x : α) (j : Nat) (u : Value), L[i]? = some x → (f x)[j]? = some u → (L.flatMap f)[i * n + j]? = some u
  | [], i, x, j, u, h, _ => by simp at h
  | y :: L, 0, x, j, u, h, hu => by
    simp at h; subst h
    have hj := (List.getElem?_eq_some_iff.1 hu).1
    rw [List.flatMap_cons, Nat.zero_mul, Nat.zero_add, List.getElem?_append_left hj]
    exact hu
  | y :: L, i + 1, x, j, u, h, hu => by
    have := flat_at f n hf L i x j u (by simpa using h) hu
    rw [List.flatMap_cons, List.getElem?_append_right (by rw [hf]; rw [Nat.succ_mul]; omega), hf, show (i + 1) * n + j - n = i * n + j by rw [Nat.succ_mul]; omega]
    exact this
theorem lens_of {L : List Md} (h : Mo.mods L = 0) : Lens L := by
  obtain ⟨h1, h2, h3⟩ := mods_zero.1 h
  obtain ⟨h4, h5⟩ := Mo.few_len h1
  refine ⟨by omega, fun md hm => by have := h5 md hm; omega, fun md hm => by have := h5 md hm; omega, fun md hm d hd => ?_⟩
  have := Mo.check_small ((modE_zero.1 (h3 md hm)).2 d hd).2
  omega
end Culp.Er
namespace Go.Proofs.YtidholghbjljaaaGreatDoor
set_option linter.unusedSimpArgs false
set_option linter.unusedVariables false
open Go.RowKit Go.Maps Culp Culp.Er
theorem told_one : told oneL = slots oneL := by unfold told; rw [if_pos one_mods]
theorem toldW_one : toldW oneL = [1, 3] := by unfold toldW; rw [if_pos one_mods]; exact one_written
theorem bools_lit (w : World) (l : List Bool) (n : Nat) (hn : n = l.length) (t : TypeId) (g : Nat) (hg : w.heap.size = g) : Bools (w.alloc (.cells (l.map Value.bool).toArray t)) (.slice (some ⟨g, 0, none⟩) n n) l := by
  subst hn hg
  refine ⟨_, _, w.heap.size, 0, rfl, fun _ => ⟨rfl, by rw [World.size_alloc]; omega⟩, fun j x hj => ?_⟩
  rw [World.cell?_alloc_at _ _ _ _ rfl]
  simp [hj]
/-- The known module, as it is read. -/
theorem mod_read {w : World} {v : Value} {a u : ByteArray} (h : Mods w v (modL a u)) : ∃ b o c bd od cd bt ot ct, v = .slice (some ⟨b, o, none⟩) 1 c ∧ Hid (∀ W, Below w.heap.size w W → W.cell? ⟨b, o + 2, none⟩ = some (.slice (some ⟨bd, od, none⟩) 1 cd) ∧ W.cell? ⟨bd, od + 3, none⟩ = some (.slice (some ⟨bt, ot, none⟩) 3 ct) ∧ W.cell? ⟨bt, ot + 8 + 4, none⟩ = some (.string a) ∧ W.cell? ⟨bt, ot + 5, none⟩ = some (.string u)) := by
  obtain ⟨A, c, rfl, -, hA⟩ := h
  obtain ⟨b, o, rfl, hc⟩ := hA (by show (0 : Nat) < 1; omega)
  obtain ⟨cs, ⟨iv, dv, rfl, -, hd⟩, -, hk⟩ := hc 0 _ rfl
  obtain ⟨Ad, cd, hdv, -, hAd⟩ := hd
  obtain ⟨bd, od, rfl, hcd⟩ := hAd (by show (0 : Nat) < 1; omega)
  obtain ⟨cs, ⟨tv, rfl, ht⟩, -, hkd⟩ := hcd 0 _ rfl
  obtain ⟨At, ct, htv, -, hAt⟩ := ht
  obtain ⟨bt, ot, rfl, hN⟩ := hAt (by show (0 : Nat) < 3; omega)
  refine ⟨b, o, c, bd, od, cd, bt, ot, ct, rfl, Lib.hid fun W hW => ⟨?_, ?_, ?_, ?_⟩⟩
  · have := cell_later hW (hk 2 _ rfl)
    rw [Nat.zero_mul, Nat.add_zero, hdv] at this
    exact this
  · have := cell_later hW (hkd 3 _ rfl)
    rw [Nat.zero_mul, Nat.add_zero, htv] at this
    exact this
  · have := cell_later hW (hN 1 _ rfl 4 _ rfl)
    rw [Nat.one_mul] at this
    exact this
  · have := cell_later hW (hN 0 _ rfl 5 _ rfl)
    rw [Nat.zero_mul, Nat.add_zero] at this
    exact this
set_option maxRecDepth 100000 in
set_option maxHeartbeats 6400000 in
theorem eworks_any (w : World) (hS : Sp w) : Calls Tryz.prog 6 #[] w (Makes (.bool true) w) := by
  have HS := Lib.hid hS
  clear hS
  go_enter Tryz.func6, Tryz.ntmps6
  go_wp2_with fail
  refine (one_any _).mono ?_
  rintro E w1 ⟨v1, rfl, hb1, hm1⟩
  have H1 := Lib.hid hb1
  obtain ⟨A1, c1, rfl⟩ := hm1.form
  have HM1 := Lib.hid hm1
  clear hb1 hm1
  go_wp2_with fail
  refine (Slots_any oneL _ w1 HM1.out (HS.out.later H1.out) (by have := (mod_lens (bt [105]) (bt [])).len; show oneL.length ≤ _; show (1 : Nat) ≤ _; omega) one_sz).mono ?_
  rintro E w2 ⟨v2, rfl, hb2, ho2⟩
  rw [told_one, one_slots] at ho2
  rw [one_mods]
  have H2 := Lib.hid (below_later hb2 H1.out)
  obtain ⟨g2, k2, rfl, hg2, hc2⟩ := own_at ho2 (by decide)
  have HC2 : Hid (∀ W, Below w2.heap.size w2 W → W.cell? ⟨g2, 18, none⟩ = some (.string { data := #[109] }) ∧ W.cell? ⟨g2, 18 + 1, none⟩ = some (.bool false) ∧ W.cell? ⟨g2, 18 + 2, none⟩ = some (.int .i64 0) ∧ W.cell? ⟨g2, 18 + 3, none⟩ = some (.int .i64 1) ∧ W.cell? ⟨g2, 18 + 4, none⟩ = some (.bool false) ∧ W.cell? ⟨g2, 18 + 5, none⟩ = some (.string { data := #[105] })) := Lib.hid fun W hW =>
    ⟨cell_later hW (hc2 18 _ rfl), cell_later hW (hc2 19 _ rfl), cell_later hW (hc2 20 _ rfl), cell_later hW (hc2 21 _ rfl), cell_later hW (hc2 22 _ rfl), cell_later hW (hc2 23 _ rfl)⟩
  clear hb2 ho2 hc2 HM1
  go_wp2_with fail
  refine (one_any _).mono ?_
  rintro E w3 ⟨v3, rfl, hb3, hm3⟩
  have H3 := Lib.hid (below_later hb3 H2.out)
  have H23 := Lib.hid hb3
  obtain ⟨A3, c3, rfl⟩ := hm3.form
  have HM3 := Lib.hid hm3
  clear hb3 hm3
  go_wp2_with fail
  refine (Written_any oneL _ w3 HM3.out (HS.out.later H3.out) (by show (1 : Nat) ≤ _; omega) one_sz).mono ?_
  rintro E w4 ⟨v4, rfl, hb4, ho4⟩
  rw [toldW_one] at ho4
  rw [one_mods]
  have H4 := Lib.hid (below_later hb4 H3.out)
  have H24 := Lib.hid (below_later hb4 H23.out)
  obtain ⟨g4, k4, rfl, hg4, hc4⟩ := own_at ho4 (by decide)
  have HC4 : Hid (∀ W, Below w4.heap.size w4 W → W.cell? ⟨g4, 1, none⟩ = some (.int .i64 3)) := Lib.hid fun W hW => cell_later hW (hc4 1 _ rfl)
  clear hb4 ho4 hc4 HM3 H23 hg2 hg4
  go_wp2_with fail
  refine (one_any _).mono ?_
  rintro E w5 ⟨v5, rfl, hb5, hm5⟩
  have H5 := Lib.hid (below_later hb5 H4.out)
  have H25 := Lib.hid (below_later hb5 H24.out)
  have H45 := Lib.hid hb5
  obtain ⟨A5, c5, rfl⟩ := hm5.form
  have HM5 := Lib.hid hm5
  clear hb5 hm5 H24
  go_wp2_with fail
  have HBL := Lib.hid (bools_lit w5 [true, false] 2 rfl 4 w5.heap.size rfl)
  have hba : Below w5.heap.size w5 (w5.alloc (.cells #[.bool true, .bool false] 4)) := (Below.refl _ _).alloc (Nat.le_refl _) _
  have HBA := Lib.hid hba
  clear hba
  refine (Keep_any oneL _ _ [true, false] _ (HM5.out.later HBA.out) HBL.out (by decide) (HS.out.later (below_later HBA.out H5.out)) (lens_of one_mods) one_sz).mono ?_
  rintro E w6 ⟨hb6, ⟨hz, -⟩ | ⟨-, hz, -⟩ | ⟨-, -, v6, rfl, ho6⟩⟩
  · exact absurd one_mods hz
  · exact absurd one_count hz
  have hm6 : Mods w6 v6 (modL (bt [63]) (bt [])) := by
    have := ho6.mods
    have e : lay (keepAt [true, false] (slots oneL) (note oneL) (slots oneL).length).2 oneL = modL (bt [63]) (bt []) := one_kept
    rwa [e] at this
  have H6 := Lib.hid (below_later hb6 (below_later HBA.out H5.out))
  have H26 := Lib.hid (below_later hb6 (below_later HBA.out H25.out))
  have H46 := Lib.hid (below_later hb6 (below_later HBA.out H45.out))
  obtain ⟨b6, o6, c6, bd6, od6, cd6, bt6, ot6, ct6, rfl, HR6⟩ := mod_read hm6
  have HM6 := Lib.hid hm6
  clear hb6 ho6 hm6 HBA HBL HM5 H25 H45
  go_wp2_with fail
  refine (one_any _).mono ?_
  rintro E w7 ⟨v7, rfl, hb7, hm7⟩
  have H7 := Lib.hid (below_later hb7 H6.out)
  have H27 := Lib.hid (below_later hb7 H26.out)
  have H47 := Lib.hid (below_later hb7 H46.out)
  have H67 := Lib.hid hb7
  obtain ⟨A7, c7, rfl⟩ := hm7.form
  have HM7 := Lib.hid hm7
  clear hb7 hm7 H26 H46
  go_wp2_with fail
  refine (Lay_any oneL _ 2 (bt [116]) w7 HM7.out (HS.out.later H7.out) (lens_of one_mods) one_sz).mono ?_
  rintro E w8 ⟨hb8, ⟨hz, -⟩ | ⟨-, hz, -⟩ | ⟨-, -, v8, rfl, ho8⟩⟩
  · exact absurd one_mods hz
  · exact absurd ⟨by decide, by rw [one_slots]; decide, .inr one_ty⟩ hz
  have hm8 : Mods w8 v8 (modL (bt [105]) (bt [116])) := by
    have := ho8.mods
    rwa [one_laid] at this
  have H8 := Lib.hid (below_later hb8 H7.out)
  have H28 := Lib.hid (below_later hb8 H27.out)
  have H48 := Lib.hid (below_later hb8 H47.out)
  have H68 := Lib.hid (below_later hb8 H67.out)
  obtain ⟨b8, o8, c8, bd8, od8, cd8, bt8, ot8, ct8, rfl, HR8⟩ := mod_read hm8
  clear hb8 ho8 hm8 HM7 H27 H47 H67
  obtain ⟨a0, a1, a2, a3, a4, a5⟩ := HC2.out w8 H28.out
  have a6 := HC4.out w8 H48.out
  obtain ⟨d0, d1, d2, -⟩ := HR6.out w8 H68.out
  obtain ⟨f0, f1, -, f3⟩ := HR8.out w8 (Below.refl _ _)
  replace d2 : w8.cell? ⟨bt6, ot6 + 8 + 4, none⟩ = some (.string { data := #[63] }) := d2
  replace f3 : w8.cell? ⟨bt8, ot8 + 5, none⟩ = some (.string { data := #[116] }) := f3
  go_wp2_with fail
  refine (one_any _).mono ?_
  rintro E w9 ⟨v9, rfl, hb9, hm9⟩
  have H9 := Lib.hid (below_later hb9 H8.out)
  have H69 := Lib.hid (below_later hb9 H68.out)
  obtain ⟨A9, c9, rfl⟩ := hm9.form
  have HM9 := Lib.hid hm9
  clear hb9 hm9 a0 a1 a2 a3 a4 a5 a6 d0 d1 d2 f0 f1 f3 HC2 HC4 HR6 HR8
  go_wp2_with fail
  refine (Less_any oneL (modL (bt [63]) (bt [])) _ _ w9 HM9.out (HM6.out.later H69.out) (HS.out.later H9.out) (lens_of one_mods) (mod_lens _ _) one_sz (mod_sz _ _ (by decide) (by decide))).mono ?_
  rintro E w10 ⟨⟨z, rfl, hz⟩, hb10⟩
  obtain rfl := hz.2 one_less
  have H10 := Lib.hid (below_later hb10 H9.out)
  have H610 := Lib.hid (below_later hb10 H69.out)
  clear hb10 hz HM9 H69
  go_wp2_with fail
  refine (one_any _).mono ?_
  rintro E w11 ⟨v11, rfl, hb11, hm11⟩
  have H11 := Lib.hid (below_later hb11 H10.out)
  have H611 := Lib.hid (below_later hb11 H610.out)
  obtain ⟨A11, c11, rfl⟩ := hm11.form
  have HM11 := Lib.hid hm11
  clear hb11 hm11 H610
  go_wp2_with fail
  refine (Less_any (modL (bt [63]) (bt [])) oneL _ _ w11 (HM6.out.later H611.out) HM11.out (HS.out.later H11.out) (mod_lens _ _) (lens_of one_mods) (mod_sz _ _ (by decide) (by decide)) one_sz).mono ?_
  rintro E w12 ⟨⟨z, rfl, hz⟩, hb12⟩
  have hzf : z = false := by
    cases z with
    | false => rfl
    | true => exact absurd (hz.1 rfl) one_more
  subst hzf
  have H12 := Lib.hid (below_later hb12 H11.out)
  clear hb12 hz HM11 HM6 H611
  go_wp2_with fail
  refine (one_any _).mono ?_
  rintro E w13 ⟨v13, rfl, hb13, hm13⟩
  have H13 := Lib.hid (below_later hb13 H12.out)
  obtain ⟨A13, c13, rfl⟩ := hm13.form
  have HM13 := Lib.hid hm13
  clear hb13 hm13
  go_wp2_with fail
  refine (Static_any oneL _ w13 HM13.out (HS.out.later H13.out) (by show (1 : Nat) ≤ _; omega) one_sz).mono ?_
  rintro E w14 ⟨rfl, hb14⟩
  rw [one_static]
  have H14 := Lib.hid (below_later hb14 H13.out)
  clear hb14
  go_wp2_with fail
  go_ret
  exact Makes.mk rfl H14.out
end Go.Proofs.YtidholghbjljaaaGreatDoor
