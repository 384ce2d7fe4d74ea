
/- The document's side of EraseLess, plain: it comes to the same. No program in sight. -/
import Derived.Test.YtidholghbjljaaaGreatDoorXj
namespace Culp.Er
set_option linter.unusedSimpArgs false
set_option linter.unusedVariables false
open Culp Culp.Tr Culp.Mo
theorem slI_mem (nm : ByteArray) (m : Nat) : ∀ (i : Nat) (I : List Im) (j : Nat), j < I.length → ∃ s ∈ slI nm m i I, s.pos = (0, m, i + j, 0)
  | _, [], _, h => by simp at h
  | i, x :: I, 0, _ => ⟨_, by rw [slI]; exact List.mem_cons_self, rfl⟩
  | i, x :: I, j + 1, h => by
    obtain ⟨s, hs, hp⟩ := slI_mem nm m (i + 1) I j (by simpa using h)
    exact ⟨s, by rw [slI]; exact List.mem_cons_of_mem _ hs, by rw [hp, show i + 1 + j = i + (j + 1) by omega]⟩
theorem slT_mem (nm : ByteArray) (m i : Nat) : ∀ (k : Nat) (T : List Nd) (j : Nat) (x : Nd), T[j]? = some x → ∀ s ∈ slX nm m i (k + j) x, s ∈ slT nm m i k T
  | _, [], _, _, h => by simp at h
  | k, y :: T, 0, x, h => fun s hs => by
    simp at h
    subst h
    rw [slT]; exact List.mem_append_left _ hs
  | k, y :: T, j + 1, x, h => fun s hs => by
    rw [slT]
    refine List.mem_append_right _ (slT_mem nm m i (k + 1) T j x (by simpa using h) s ?_)
    rwa [show k + 1 + j = k + (j + 1) by omega]
theorem slD_mem (nm : ByteArray) (m : Nat) : ∀ (i : Nat) (D : List Df) (j : Nat) (d : Df), D[j]? = some d → (∃ s ∈ slD nm m i D, s.pos = (1, m, i + j, 0)) ∧ ∀ s ∈ slT nm m (i + j) 0 d.tree, s ∈ slD nm m i D
  | _, [], _, _, h => by simp at h
  | i, e :: D, 0, d, h => by
    simp at h
    subst h
    rw [slD]
    exact ⟨⟨_, List.mem_cons_self, rfl⟩, fun s hs => List.mem_cons_of_mem _ (List.mem_append_left _ hs)⟩
  | i, e :: D, j + 1, d, h => by
    obtain ⟨⟨s, h1, h2⟩, h3⟩ := slD_mem nm m (i + 1) D j d (by simpa using h)
    rw [slD]
    refine ⟨⟨s, List.mem_cons_of_mem _ (List.mem_append_right _ h1), by rw [h2, show i + 1 + j = i + (j + 1) by omega]⟩, fun s hs => List.mem_cons_of_mem _ (List.mem_append_right _ (h3 s ?_))⟩
    rwa [show i + 1 + j = i + (j + 1) by omega]
theorem slM_mem : ∀ (m : Nat) (L : List Md) (j : Nat) (md : Md), L[j]? = some md → (∀ s ∈ slI md.name (m + j) 0 md.imps, s ∈ slM m L) ∧ ∀ s ∈ slD md.name (m + j) 0 md.defs, s ∈ slM m L
  | _, [], _, _, h => by simp at h
  | m, e :: L, 0, md, h => by
    simp at h
    subst h
    rw [slM]
    exact ⟨fun s hs => List.mem_append_left _ hs, fun s hs => List.mem_append_right _ (List.mem_append_left _ hs)⟩
  | m, e :: L, j + 1, md, h => by
    obtain ⟨h1, h2⟩ := slM_mem (m + 1) L j md (by simpa using h)
    rw [slM, show m + (j + 1) = m + 1 + j by omega]
    exact ⟨fun s hs => List.mem_append_right _ (List.mem_append_right _ (h1 s hs)), fun s hs => List.mem_append_right _ (List.mem_append_right _ (h2 s hs))⟩
section
variable {L : List Md} {m : Nat} {md : Md}
theorem imp_slot (hm : L[m]? = some md) {i : Nat} (hi : i < md.imps.length) : ∃ s ∈ slots L, s.pos = (0, m, i, 0) := by
  obtain ⟨s, hs, hp⟩ := slI_mem md.name m 0 md.imps i hi
  have := (slM_mem 0 L m md hm).1 s (by rw [Nat.zero_add]; exact hs)
  exact ⟨s, this, by rw [hp, Nat.zero_add]⟩
theorem def_slot (hm : L[m]? = some md) {i : Nat} {d : Df} (hd : md.defs[i]? = some d) : ∃ s ∈ slots L, s.pos = (1, m, i, 0) := by
  obtain ⟨⟨s, hs, hp⟩, -⟩ := slD_mem md.name m 0 md.defs i d hd
  have := (slM_mem 0 L m md hm).2 s (by rw [Nat.zero_add]; exact hs)
  exact ⟨s, this, by rw [hp, Nat.zero_add]⟩
theorem nd_slots (hm : L[m]? = some md) {i k : Nat} {d : Df} {x : Nd} (hd : md.defs[i]? = some d) (hk : d.tree[k]? = some x) : ∀ s ∈ slX md.name m i k x, s ∈ slots L := fun s hs => by
  have h1 := slT_mem md.name m i 0 d.tree k x hk s (by rw [Nat.zero_add]; exact hs)
  have h2 := (slD_mem md.name m 0 md.defs i d hd).2 s (by rw [Nat.zero_add]; exact h1)
  exact (slM_mem 0 L m md hm).2 s (by rw [Nat.zero_add]; exact h2)
theorem t_slot (hm : L[m]? = some md) {i k : Nat} {d : Df} {x : Nd} (hd : md.defs[i]? = some d) (hk : d.tree[k]? = some x) (ho : one x.kind = true) : ∃ s ∈ slots L, s.pos = (2, m, i, k) :=
  ⟨_, nd_slots hm hd hk ⟨(2, m, i, k), md.name, false, i, k, false, decide (x.kind ≠ 29)⟩ (by unfold slX; rw [if_pos ho]; exact List.mem_append_left _ List.mem_cons_self), rfl⟩
theorem u_slot (hm : L[m]? = some md) {i k : Nat} {d : Df} {x : Nd} (hd : md.defs[i]? = some d) (hk : d.tree[k]? = some x) (ho : both x.kind = true) : ∃ s ∈ slots L, s.pos = (3, m, i, k) :=
  ⟨_, nd_slots hm hd hk ⟨(3, m, i, k), md.name, false, i, k, true, true⟩ (by unfold slX; rw [if_pos ho]; exact List.mem_append_right _ List.mem_cons_self), rfl⟩
theorem list_no {t : ByteArray} (h : t.data.toList = []) : t = no := ByteArray.ext (Array.toList_inj.1 (by rw [h]; rfl))
/-- Bared modules have no text in any slot, and none where no slot is. -/
theorem bare_no (h0 : mods L = 0) : bareL L = lay (fun _ => no) L := by
  have htx : TxtOk L (note L) := txt_ok (by rw [lay_note]; exact h0)
  refine lay_congr fun p hp => ?_
  by_cases hs : ∀ s ∈ slots L, s.pos ≠ p
  · rw [bare_off hs]
    obtain ⟨a, m, i, k⟩ := p
    obtain ⟨md, hm, h⟩ := hp
    simp only at hm h
    rcases h with ⟨rfl, hi, rfl⟩ | ⟨d, hd, ⟨rfl, rfl⟩ | ⟨h2, hk⟩⟩
    · obtain ⟨s, h1, h2⟩ := imp_slot hm hi
      exact absurd h2 (hs s h1)
    · obtain ⟨s, h1, h2⟩ := def_slot hm hd
      exact absurd h2 (hs s h1)
    · obtain ⟨x, hx⟩ : ∃ x, d.tree[k]? = some x := ⟨_, List.getElem?_eq_getElem hk⟩
      obtain ⟨t1, t2⟩ := ((htx m md hm).2 i d hd).2 k x hx
      rcases h2 with rfl | rfl
      · by_cases ho : one x.kind = true
        · obtain ⟨s, h1, h2⟩ := t_slot hm hd hx ho
          exact absurd h2 (hs s h1)
        · simp only [one, both, Bool.or_eq_true, decide_eq_true_eq] at ho
          unfold tOk at t1
          rw [if_neg (by omega), if_neg (by omega), decide_eq_true_eq] at t1
          exact list_no t1
      · by_cases ho : both x.kind = true
        · obtain ⟨s, h1, h2⟩ := u_slot hm hd hx ho
          exact absurd h2 (hs s h1)
        · simp only [both, Bool.or_eq_true, decide_eq_true_eq] at ho
          unfold uOk at t2
          rw [if_neg (by omega), decide_eq_true_eq] at t2
          exact list_no t2
  · simp only [ne_eq, Classical.not_forall, Decidable.not_not] at hs
    obtain ⟨s, hs, rfl⟩ := hs
    obtain ⟨k, hk⟩ := mem_at.1 hs
    exact bare_new (slots_dist L) hk _ (List.getElem?_eq_some_iff.1 hk).1 (Nat.le_refl _)
end
def sameN (x y : Nd) : Prop := x.kind = y.kind ∧ x.kids = y.kids ∧ x.n = y.n ∧ x.s = y.s
structure sameD (x y : Df) : Prop where
  name : x.name = y.name
  out : x.out = y.out
  len : x.tree.length = y.tree.length
  nodes : ∀ (i : Nat) a b, x.tree[i]? = some a → y.tree[i]? = some b → sameN a b
structure sameM (a b : Md) : Prop where
  name : a.name = b.name
  iLen : a.imps.length = b.imps.length
  dLen : a.defs.length = b.defs.length
  imps : ∀ (i : Nat) x y, a.imps[i]? = some x → b.imps[i]? = some y → x.src = y.src ∧ x.name = y.name
  defs : ∀ (i : Nat) x y, a.defs[i]? = some x → b.defs[i]? = some y → sameD x y
def sameAll (A B : List Md) : Prop := A.length = B.length ∧ ∀ (i : Nat) a b, A[i]? = some a → B[i]? = some b → sameM a b
theorem same_like {f : Pos → ByteArray} (hf : ∀ p, f p = no) (A B : List Md) : alikeAll (lay f A) (lay f B) ↔ sameAll A B := by
  have hl : ∀ X : List Md, (lay f X).length = X.length := fun X => layM_len 0 X
  constructor
  · rintro ⟨h1, h2⟩
    refine ⟨by rw [hl, hl] at h1; exact h1, fun m a b ha hb => ?_⟩
    have h := h2 m (layMd f m a) (layMd f m b) (by rw [lay_at, ha]; rfl) (by rw [lay_at, hb]; rfl)
    refine ⟨h.name, ?_, ?_, fun i x y hx hy => ?_, fun i x y hx hy => ?_⟩
    · have := h.iLen
      have e : (layI f m 0 a.imps).length = (layI f m 0 b.imps).length := this
      rwa [layI_len, layI_len] at e
    · have := h.dLen
      have e : (layD f m 0 a.defs).length = (layD f m 0 b.defs).length := this
      rwa [layD_len, layD_len] at e
    · have := h.imps i (layIm f m i x) (layIm f m i y) (by show (layI f m 0 a.imps)[i]? = _; rw [layI_at, hx, Nat.zero_add]; rfl) (by show (layI f m 0 b.imps)[i]? = _; rw [layI_at, hy, Nat.zero_add]; rfl)
      exact ⟨this.1, this.2.1⟩
    · have := h.defs i (layDf f m i x) (layDf f m i y) (by show (layD f m 0 a.defs)[i]? = _; rw [layD_at, hx, Nat.zero_add]; rfl) (by show (layD f m 0 b.defs)[i]? = _; rw [layD_at, hy, Nat.zero_add]; rfl)
      obtain ⟨q1, q2, q3, q4⟩ := this
      refine ⟨q1, q2, ?_, fun k u v hu hv => ?_⟩
      · have e : (layT f m i 0 x.tree).length = (layT f m i 0 y.tree).length := q3
        rwa [layT_len, layT_len] at e
      · have := q4 k (layX f m i k u) (layX f m i k v) (by show (layT f m i 0 x.tree)[k]? = _; rw [layT_at, hu, Nat.zero_add]; rfl) (by show (layT f m i 0 y.tree)[k]? = _; rw [layT_at, hv, Nat.zero_add]; rfl)
        exact ⟨this.1, this.2.1, this.2.2.1, this.2.2.2.1⟩
  · rintro ⟨h1, h2⟩
    refine ⟨by rw [hl, hl]; exact h1, fun m a' b' ha' hb' => ?_⟩
    rw [lay_at] at ha' hb'
    obtain ⟨a, ha, rfl⟩ := Option.map_eq_some_iff.1 ha'
    obtain ⟨b, hb, rfl⟩ := Option.map_eq_some_iff.1 hb'
    have h := h2 m a b ha hb
    refine ⟨h.name, ?_, ?_, fun i x' y' hx' hy' => ?_, fun i x' y' hx' hy' => ?_⟩
    · show (layI f m 0 a.imps).length = (layI f m 0 b.imps).length
      rw [layI_len, layI_len]; exact h.iLen
    · show (layD f m 0 a.defs).length = (layD f m 0 b.defs).length
      rw [layD_len, layD_len]; exact h.dLen
    · have hx2 : (layI f m 0 a.imps)[i]? = some x' := hx'
      have hy2 : (layI f m 0 b.imps)[i]? = some y' := hy'
      rw [layI_at, Nat.zero_add] at hx2 hy2
      obtain ⟨x, hx, rfl⟩ := Option.map_eq_some_iff.1 hx2
      obtain ⟨y, hy, rfl⟩ := Option.map_eq_some_iff.1 hy2
      have := h.imps i x y hx hy
      exact ⟨this.1, this.2, (hf _).trans (hf _).symm⟩
    · have hx2 : (layD f m 0 a.defs)[i]? = some x' := hx'
      have hy2 : (layD f m 0 b.defs)[i]? = some y' := hy'
      rw [layD_at, Nat.zero_add] at hx2 hy2
      obtain ⟨x, hx, rfl⟩ := Option.map_eq_some_iff.1 hx2
      obtain ⟨y, hy, rfl⟩ := Option.map_eq_some_iff.1 hy2
      have hd := h.defs i x y hx hy
      refine ⟨hd.name, hd.out, ?_, fun k u' v' hu' hv' => ?_⟩
      · show (layT f m i 0 x.tree).length = (layT f m i 0 y.tree).length
        rw [layT_len, layT_len]; exact hd.len
      · have hu2 : (layT f m i 0 x.tree)[k]? = some u' := hu'
        have hv2 : (layT f m i 0 y.tree)[k]? = some v' := hv'
        rw [layT_at, Nat.zero_add] at hu2 hv2
        obtain ⟨u, hu, rfl⟩ := Option.map_eq_some_iff.1 hu2
        obtain ⟨v, hv, rfl⟩ := Option.map_eq_some_iff.1 hv2
        obtain ⟨n1, n2, n3, n4⟩ := hd.nodes k u v hu hv
        exact ⟨n1, n2, n3, n4, (hf _).trans (hf _).symm, (hf _).trans (hf _).symm⟩
/-- What the document answers. -/
def rlessP (L L' : List Md) : Prop := mods L = 0 ∧ mods L' = 0 ∧ sameAll L L' ∧ ∀ (i : Nat) s s', (slots L)[i]? = some s → (slots L')[i]? = some s' → ∀ T T' : Ty, known (note L s.pos) = T.str → known (note L' s'.pos) = T'.str → prec T T' = true
theorem less_iff (L L' : List Md) : lessP L L' ↔ rlessP L L' := by
  constructor
  · rintro ⟨h1, h2, h3, h4⟩
    rw [bare_no h1, bare_no h2] at h3
    exact ⟨h1, h2, (same_like (fun _ => rfl) L L').1 h3, h4⟩
  · rintro ⟨h1, h2, h3, h4⟩
    exact ⟨h1, h2, by rw [bare_no h1, bare_no h2]; exact (same_like (fun _ => rfl) L L').2 h3, h4⟩
theorem same_slots {L L' : List Md} (h1 : mods L = 0) (h2 : mods L' = 0) (h : sameAll L L') : slots L = slots L' := alike_slots (by rw [bare_no h1, bare_no h2]; exact (same_like (fun _ => rfl) L L').2 h)
/-- Static, as the document has it. -/
def rstatic (L : List Md) : Bool := decide (mods L = 0) && ((slots L).all fun s => solidB (note L s.pos).data.toList) && L.all fun m => m.defs.all fun d => d.tree.all statB
theorem solid_stat (t : ByteArray) : solidB t.data.toList = statS t := by
  unfold solidB statS
  have : t.data.toList.isEmpty = decide (t = no) := by
    rw [Bool.eq_iff_iff, List.isEmpty_iff, decide_eq_true_eq]
    exact ⟨list_no, fun h => by rw [h]; rfl⟩
  rw [this, Bool.and_comm]
theorem stat_eq {x : Nd} (hk : 0 ≤ x.kids) (ht : one x.kind = true → solidB x.t.data.toList = true) (hu : both x.kind = true → solidB x.u.data.toList = true) : statB x = statN x := by
  unfold statB statN
  by_cases h5 : x.kind = 5 ∨ x.kind = 6
  · rw [if_pos h5, ht (by simp [one, both]; omega), hu (by simp [both]; omega), decide_eq_false (by omega)]; rfl
  · rw [if_neg h5]
    by_cases h8 : x.kind = 8 ∨ x.kind = 29
    · rw [if_pos h8, ht (by simp [one, both]; omega), decide_eq_false (by omega)]; rfl
    · rw [if_neg h8]
      by_cases h21 : x.kind = 21
      · rw [if_pos h21, decide_eq_true h21]
        show decide (x.kids ≠ 0) = decide (0 < x.kids)
        exact decide_eq_decide.2 (by omega)
      · rw [if_neg h21, decide_eq_false h21]; rfl
theorem static_eq (L : List Md) : staticL L = rstatic L := by
  unfold staticL rstatic statSl statM
  by_cases h0 : mods L = 0
  · rw [decide_eq_true h0, Bool.true_and, Bool.true_and, List.take_length]
    have e1 : ((slots L).all fun s => statS (note L s.pos)) = (slots L).all fun s => solidB (note L s.pos).data.toList := by
      congr 1; funext s; rw [solid_stat]
    rw [e1]
    cases hs : ((slots L).all fun s => solidB (note L s.pos).data.toList) with
    | false => rfl
    | true =>
      rw [Bool.true_and, Bool.true_and]
      have hall := List.all_eq_true.1 hs
      have htx := mods_zero.1 h0
      have key : ∀ md ∈ L, (statD md.defs) = md.defs.all fun d => d.tree.all statB := fun md hmem => by
        obtain ⟨m, hm⟩ := mem_at.1 hmem
        unfold statD
        have hd : ∀ d ∈ md.defs, statT d.tree = d.tree.all statB := fun d hdm => by
          obtain ⟨i, hd⟩ := mem_at.1 hdm
          have hc := ((modE_zero.1 (htx.2.2 md hmem)).2 d hdm).2
          unfold statT
          have hx : ∀ x ∈ d.tree, statN x = statB x := fun x hxm => by
            obtain ⟨k, hk⟩ := mem_at.1 hxm
            have hmay := check_all hc x hxm
            refine (stat_eq (may_kids hmay) (fun ho => ?_) (fun ho => ?_)).symm
            · obtain ⟨s, h1, h2⟩ := t_slot hm hd hk ho
              have := hall s h1
              rw [h2] at this
              simpa [note, hm, hd, hk] using this
            · obtain ⟨s, h1, h2⟩ := u_slot hm hd hk ho
              have := hall s h1
              rw [h2] at this
              simpa [note, hm, hd, hk] using this
          rw [Bool.eq_iff_iff, List.all_eq_true, List.all_eq_true]
          exact ⟨fun h x hx' => by rw [← hx x hx']; exact h x hx', fun h x hx' => by rw [hx x hx']; exact h x hx'⟩
        rw [Bool.eq_iff_iff, List.all_eq_true, List.all_eq_true]
        exact ⟨fun h x hx' => by rw [← hd x hx']; exact h x hx', fun h x hx' => by rw [hd x hx']; exact h x hx'⟩
      rw [Bool.eq_iff_iff, List.all_eq_true, List.all_eq_true]
      exact ⟨fun h x hx' => by rw [← key x hx']; exact h x hx', fun h x hx' => by rw [key x hx']; exact h x hx'⟩
  · rw [decide_eq_false h0]; rfl
end Culp.Er
