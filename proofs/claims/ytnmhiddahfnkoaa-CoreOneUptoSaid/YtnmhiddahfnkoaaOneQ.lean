/- Plain: what the composed terms of CoreOne check to. -/
import Derived.Test.YtnmhiddahfnkoaaOneP
namespace Culp
set_option linter.unusedSimpArgs false
set_option linter.unusedVariables false
open Go Go.Proofs.Ytnmhiddahfnkoaa

/-- A closed term with its type. -/
structure Cl (T : List Nd) (t : Ty) : Prop where
  shape : shapeM T T.length 0 = .ok T.length
  typed : typedM T T.length [] 0 = .ok (t, T.length)
  fits : t.fits
theorem Part2.self (T : List Nd) : Part2 T T 0 T.length 0 := fun i _ _ => by simp
theorem cl_of_check {T : List Nd} {t : Ty} (h : checkM T = .ok t) : Cl T t := by
  unfold checkM at h
  split at h
  · cases h
  split at h
  · cases h
  rename_i q hs
  split at h
  · rename_i hq
    subst hq
    split at h
    · cases h
    · rename_i t' q' ht
      cases h
      obtain ⟨rfl, hf⟩ := typedM_ok T 1024 [] 0 _ _ _ (by simp) hs ht
      have h1 := shape_move T T 1024 0 _ 0 T.length hs (Part2.self T) (by simp)
      have h2 := typed_move T T 1024 [] [] 0 _ _ 0 T.length ht (Part2.self T) (by simp)
      exact ⟨by simpa using h1, by simpa using h2, hf⟩
  · cases h
theorem cl_pos {T : List Nd} {t : Ty} (h : Cl T t) : 0 < T.length := shapeM_lt T _ 0 _ h.shape
theorem cl_shape {L T : List Nd} {t : Ty} (h : Cl L t) {p f : Nat} (hP : Part2 L T 0 L.length p) (hf : L.length ≤ f) : shapeM T f p = .ok (p + L.length) := by
  simpa using shape_move L T _ 0 _ p f h.shape hP (by simpa using hf)
theorem cl_typed {L T : List Nd} {t : Ty} (h : Cl L t) {p f : Nat} (env : List Ty) (hP : Part2 L T 0 L.length p) (hf : L.length ≤ f) : typedM T f env p = .ok (t, p + L.length) := by
  simpa using typed_move L T _ [] env 0 _ _ p f h.typed hP (by simpa using hf)
theorem check_of_cl {T : List Nd} {t : Ty} (h : Cl T t) (hl : T.length ≤ 1024) : checkM T = .ok t := by
  unfold checkM
  rw [if_neg (by omega), cl_shape h (Part2.self T) hl]
  simp only [Nat.zero_add, if_true]
  rw [cl_typed h [] (Part2.self T) hl]

def ClAll : List (List Nd) → List Ty → Prop
  | [], [] => True
  | L :: K, t :: ts => Cl L t ∧ ClAll K ts
  | _, _ => False
theorem part_head {L R T : List Nd} {p : Nat} (h : Part2 (L ++ R) T 0 (L ++ R).length p) : Part2 L T 0 L.length p := by
  intro i h1 h2
  rw [h i h1 (by simp; omega), List.getElem?_append_left h2]
theorem part_tail {L R T : List Nd} {p : Nat} (h : Part2 (L ++ R) T 0 (L ++ R).length p) : Part2 R T 0 R.length (p + L.length) := by
  intro i h1 h2
  have := h (L.length + i) (by omega) (by simp; omega)
  rw [List.getElem?_append_right (by omega)] at this
  simp only [Nat.sub_zero, Nat.add_sub_cancel_left] at this
  rw [← this]
  congr 1
  omega
theorem part_cons (x : Nd) (L : List Nd) : Part2 L (x :: L) 0 L.length 1 := by
  intro i _ _
  rw [Nat.add_comm 1, List.getElem?_cons_succ]
  rfl
theorem times_cl {T : List Nd} {f : Nat} : ∀ (K : List (List Nd)) (ts : List Ty) (p : Nat), ClAll K ts → Part2 K.flatten T 0 K.flatten.length p → K.flatten.length ≤ f → timesM (shapeM T f) K.length p = .ok (p + K.flatten.length)
  | [], [], p, _, _, _ => by simp [timesM]
  | L :: K, t :: ts, p, h, hP, hf => by
    rw [List.flatten_cons] at hP hf
    rw [List.length_append] at hf
    have h1 := cl_shape h.1 (part_head hP) (f := f) (by omega)
    have h2 := times_cl (f := f) K ts _ h.2 (part_tail hP) (by omega)
    simp only [List.length_cons, timesM, h1, h2, List.flatten_cons, List.length_append, Nat.add_assoc]
theorem kids_cl {T : List Nd} {f : Nat} (env : List Ty) : ∀ (K : List (List Nd)) (ts : List Ty) (p : Nat), ClAll K ts → Part2 K.flatten T 0 K.flatten.length p → K.flatten.length ≤ f → kidsM (typedM T f env) K.length p = .ok (ts, p + K.flatten.length)
  | [], [], p, _, _, _ => by simp [kidsM]
  | L :: K, t :: ts, p, h, hP, hf => by
    rw [List.flatten_cons] at hP hf
    rw [List.length_append] at hf
    have h1 := cl_typed h.1 env (part_head hP) (f := f) (by omega)
    have h2 := kids_cl (f := f) env K ts _ h.2 (part_tail hP) (by omega)
    simp only [List.length_cons, kidsM, h1, h2, List.flatten_cons, List.length_append, Nat.add_assoc]
theorem clAll_fits : ∀ {K : List (List Nd)} {ts : List Ty}, ClAll K ts → ∀ t ∈ ts, t.fits
  | [], [], _ => by simp
  | L :: K, t :: ts, h => fits_cons h.1.fits (clAll_fits h.2)

/-- A node over closed kids. -/
abbrev over (x : Nd) (K : List (List Nd)) : List Nd := { x with kids := K.length } :: K.flatten
theorem over_shape {x : Nd} {K : List (List Nd)} {ts : List Ty} (hK : ClAll K ts) (hk : kidsOk { x with kids := K.length } = true) {f : Nat} (hf : K.flatten.length ≤ f) : shapeM (over x K) (f + 1) 0 = .ok (over x K).length := by
  have := times_cl (f := f) K ts 1 hK (part_cons { x with kids := K.length } K.flatten) hf
  rw [shapeM]
  simp only [over, List.getElem?_cons_zero, hk, if_true, Int.toNat_natCast, Nat.zero_add]
  rw [this]
  simp [Nat.add_comm]
theorem over_typed {x : Nd} {K : List (List Nd)} {ts : List Ty} (hK : ClAll K ts) (hw : wordsM { x with kids := K.length } 0 = none) (h4 : x.kind ≠ 4) (h5 : x.kind ≠ 5) (h6 : x.kind ≠ 6) (h8 : x.kind ≠ 8) {f : Nat} (hf : K.flatten.length ≤ f) :
    typedM (over x K) (f + 1) [] 0 = match ruleM { x with kids := K.length } ts with | .error e => .error (e, 0) | .ok t => .ok (t, (over x K).length) := by
  have := kids_cl (f := f) [] K ts 1 hK (part_cons { x with kids := K.length } K.flatten) hf
  rw [typedM]
  simp only [over, List.getElem?_cons_zero, List.length_nil, hw, h4, h5, h6, h8, if_false, Int.toNat_natCast, Nat.zero_add]
  rw [this]
  simp only [List.length_cons, Nat.add_comm]
  rfl
theorem over_ok {x : Nd} {K : List (List Nd)} {ts : List Ty} {t : Ty} (hK : ClAll K ts) (hk : kidsOk { x with kids := K.length } = true) (hw : wordsM { x with kids := K.length } 0 = none) (h4 : x.kind ≠ 4) (h5 : x.kind ≠ 5) (h6 : x.kind ≠ 6) (h8 : x.kind ≠ 8)
    (hr : ruleM { x with kids := K.length } ts = .ok t) : Cl (over x K) t := by
  refine ⟨over_shape hK hk (f := K.flatten.length) (Nat.le_refl _), ?_, ruleM_fits hr (clAll_fits hK)⟩
  have := over_typed (f := K.flatten.length) hK hw h4 h5 h6 h8 (Nat.le_refl _)
  rw [hr] at this
  exact this
theorem over_no {x : Nd} {K : List (List Nd)} {ts : List Ty} {e : Int} (hK : ClAll K ts) (hk : kidsOk { x with kids := K.length } = true) (hw : wordsM { x with kids := K.length } 0 = none) (h4 : x.kind ≠ 4) (h5 : x.kind ≠ 5) (h6 : x.kind ≠ 6) (h8 : x.kind ≠ 8)
    (hr : ruleM { x with kids := K.length } ts = .error e) (hl : K.flatten.length ≤ 1023) : checkM (over x K) = .error (e, 0) := by
  have h1 := over_shape (f := 1023) hK hk hl
  have h2 := over_typed (f := 1023) hK hw h4 h5 h6 h8 hl
  rw [hr] at h2
  unfold checkM
  rw [if_neg (by simp only [over, List.length_cons]; omega), h1]
  simp only [if_true]
  rw [h2]

abbrev no : ByteArray := ⟨#[]⟩
/-- A node of a kind. -/
abbrev kd (k : Int) : Nd := ⟨k, 0, 0, no, no, no, 0, 0⟩
abbrev vr (n : Int) : List Nd := [⟨4, 0, n, no, no, no, 0, 0⟩]
section
variable {a b : List Nd} {s t : Ty}
theorem pair_cl (ha : Cl a s) (hb : Cl b t) (hl : s.enc.length + t.enc.length ≤ 40) : Cl (over (kd 18) [a, b]) (.pair s t) :=
  over_ok (ts := [s, t]) ⟨ha, hb, trivial⟩ rfl rfl (by decide) (by decide) (by decide) (by decide) (by simp [ruleM, madeM, Ty.enc]; omega)
theorem first_cl (h : Cl a (.pair s t)) : Cl (over (kd 19) [a]) s :=
  over_ok (ts := [.pair s t]) ⟨h, trivial⟩ rfl rfl (by decide) (by decide) (by decide) (by decide) rfl
theorem second_cl (h : Cl a (.pair s t)) : Cl (over (kd 20) [a]) t :=
  over_ok (ts := [.pair s t]) ⟨h, trivial⟩ rfl rfl (by decide) (by decide) (by decide) (by decide) rfl
theorem call_cl (h : Cl a (.fn s t)) (hb : Cl b s) : Cl (over (kd 7) [a, b]) t :=
  over_ok (ts := [.fn s t, s]) ⟨h, hb, trivial⟩ rfl rfl (by decide) (by decide) (by decide) (by decide) (by simp [ruleM, needM])
theorem head_cl (h : Cl a (.list s)) : Cl (over (kd 22) [a]) s :=
  over_ok (ts := [.list s]) ⟨h, trivial⟩ rfl rfl (by decide) (by decide) (by decide) (by decide) rfl
theorem tail_cl (h : Cl a (.list s)) : Cl (over (kd 23) [a]) (.list s) :=
  over_ok (ts := [.list s]) ⟨h, trivial⟩ rfl rfl (by decide) (by decide) (by decide) (by decide) rfl
theorem empty_cl (h : Cl a (.list s)) : Cl (over (kd 24) [a]) .bool :=
  over_ok (ts := [.list s]) ⟨h, trivial⟩ rfl rfl (by decide) (by decide) (by decide) (by decide) rfl
theorem box_cl (h : Cl a s) (hl : s.enc.length ≤ 40) : Cl (over (kd 26) [a]) (.box s) :=
  over_ok (ts := [s]) ⟨h, trivial⟩ rfl rfl (by decide) (by decide) (by decide) (by decide) (by simp [ruleM, madeM, Ty.enc]; omega)
theorem get_cl (h : Cl a (.box s)) : Cl (over (kd 27) [a]) s :=
  over_ok (ts := [.box s]) ⟨h, trivial⟩ rfl rfl (by decide) (by decide) (by decide) (by decide) rfl
theorem cons_cl (ha : Cl a s) (hb : Cl b (.list s)) : Cl (over (kd 25) [a, b]) (.list s) :=
  over_ok (ts := [s, .list s]) ⟨ha, hb, trivial⟩ rfl rfl (by decide) (by decide) (by decide) (by decide) (by simp [ruleM, needM])
theorem set_cl (ha : Cl a (.box s)) (hb : Cl b s) : Cl (over (kd 28) [a, b]) s :=
  over_ok (ts := [.box s, s]) ⟨ha, hb, trivial⟩ rfl rfl (by decide) (by decide) (by decide) (by decide) (by simp [ruleM, needM])
theorem truth_cl : Cl [⟨3, 0, 1, no, no, no, 0, 0⟩] .bool := ⟨by rfl, by rfl, fits_bool⟩
theorem if_cl {c : List Nd} (hc : Cl c .bool) (ha : Cl a s) (hb : Cl b s) : Cl (over (kd 9) [c, a, b]) s :=
  over_ok (ts := [.bool, s, s]) ⟨hc, ha, hb, trivial⟩ rfl rfl (by decide) (by decide) (by decide) (by decide) (by simp [ruleM, needM])
theorem words_list (s : Ty) (hs : s.fits) (k : Int) (n : Nat) : wordsM ⟨21, k, 0, no, s.str, no, 0, 0⟩ n = none := by
  simp [wordsM, tyOf_str s hs]
theorem list_cl (ha : Cl a s) (hb : Cl b s) (hl : s.enc.length ≤ 40) : Cl (over ⟨21, 0, 0, no, s.str, no, 0, 0⟩ [a, b]) (.list s) :=
  over_ok (ts := [s, s]) ⟨ha, hb, trivial⟩ rfl (words_list s ha.fits _ _) (by simp) (by simp) (by simp) (by simp) (by simp [ruleM, madeM, tyOf_str s ha.fits, Ty.enc]; omega)
theorem list_no (ha : Cl a s) (hb : Cl b t) (hne : s ≠ t) (hl : [a, b].flatten.length ≤ 1023) : checkM (over ⟨21, 0, 0, no, s.str, no, 0, 0⟩ [a, b]) = .error (23, 0) :=
  over_no (ts := [s, t]) ⟨ha, hb, trivial⟩ rfl (words_list s ha.fits _ _) (by simp) (by simp) (by simp) (by simp) (by simp [ruleM, tyOf_str s ha.fits, Ne.symm hne]) hl
theorem cons_no (ha : Cl a t) (hb : Cl b (.list s)) (hne : s ≠ t) (hl : [a, b].flatten.length ≤ 1023) : checkM (over (kd 25) [a, b]) = .error (23, 0) :=
  over_no (ts := [t, .list s]) ⟨ha, hb, trivial⟩ rfl rfl (by decide) (by decide) (by decide) (by decide) (by simp [ruleM, needM, hne]) hl
theorem set_no (ha : Cl a (.box s)) (hb : Cl b t) (hne : s ≠ t) (hl : [a, b].flatten.length ≤ 1023) : checkM (over (kd 28) [a, b]) = .error (23, 0) :=
  over_no (ts := [.box s, t]) ⟨ha, hb, trivial⟩ rfl rfl (by decide) (by decide) (by decide) (by decide) (by simp [ruleM, needM, hne]) hl
theorem call_no (ha : Cl a (.fn s t)) (hb : Cl b t) (hne : s ≠ t) (hl : [a, b].flatten.length ≤ 1023) : checkM (over (kd 7) [a, b]) = .error (23, 0) :=
  over_no (ts := [.fn s t, t]) ⟨ha, hb, trivial⟩ rfl rfl (by decide) (by decide) (by decide) (by decide) (by simp [ruleM, needM, hne]) hl

theorem fn_cl (hs : s.fits) (hb : Cl b t) (hl : s.enc.length + t.enc.length ≤ 40) : Cl (over ⟨5, 0, 0, no, s.str, t.str, 0, 0⟩ [b]) (.fn s t) := by
  have hf : (Ty.fn s t).fits := by simp [Ty.fits, Ty.enc]; omega
  refine ⟨over_shape (x := ⟨5, 0, 0, no, s.str, t.str, 0, 0⟩) (K := [b]) (ts := [t]) (f := [b].flatten.length) ⟨hb, trivial⟩ rfl (Nat.le_refl _), ?_, hf⟩
  have hT : over ⟨5, 0, 0, no, s.str, t.str, 0, 0⟩ [b] = ⟨5, 1, 0, no, s.str, t.str, 0, 0⟩ :: b := by simp [over]
  rw [hT]
  have h1 := cl_typed hb (T := ⟨5, 1, 0, no, s.str, t.str, 0, 0⟩ :: b) (p := 1) (f := b.length) [s] (part_cons _ b) (Nat.le_refl _)
  have hw : wordsM ⟨5, 1, 0, no, s.str, t.str, 0, 0⟩ 0 = none := by simp [wordsM, tyOf_str s hs, tyOf_str t hb.fits]
  have hm : madeM (.fn s t) = .ok (.fn s t) := by unfold madeM; exact if_pos hf
  rw [List.length_cons, typedM]
  simp only [List.getElem?_cons_zero, List.length_nil, hw, Nat.zero_add, tyOf_str s hs, tyOf_str t hb.fits, hm, atM, h1, bodyM, show ¬ ((5 : Int) = 4) by decide, if_false, if_true, Nat.add_comm]
theorem var_shape {T : List Nd} {f p : Nat} {n : Int} (h : T[p]? = some ⟨4, 0, n, no, no, no, 0, 0⟩) : shapeM T (f + 1) p = .ok (p + 1) := by
  rw [shapeM, h]
  simp [timesM, kidsOk, arM]
theorem var_typed {T : List Nd} {f p : Nat} {n : Nat} {env : List Ty} {t : Ty} (h : T[p]? = some ⟨4, 0, n, no, no, no, 0, 0⟩) (he : env[n]? = some t) : typedM T (f + 1) env p = .ok (t, p + 1) := by
  rw [typedM, h]
  obtain ⟨h1, h2⟩ := List.getElem?_eq_some_iff.1 he
  simp [wordsM, h1, h2]
theorem let_cl (ha : Cl a s) (hb : Cl b t) : Cl (over (kd 8) [a, b]) t := by
  refine ⟨over_shape (x := kd 8) (K := [a, b]) (ts := [s, t]) (f := [a, b].flatten.length) ⟨ha, hb, trivial⟩ rfl (Nat.le_refl _), ?_, hb.fits⟩
  have hP := part_cons { kd 8 with kids := [a, b].length } [a, b].flatten
  have h1 := cl_typed ha (f := [a, b].flatten.length) [] (part_head (R := [b].flatten) hP) (by simp)
  have h2 := cl_typed hb (f := [a, b].flatten.length) [s] (part_head (R := [].flatten) (part_tail (L := a) (R := [b].flatten) hP)) (by simp)
  rw [show (over (kd 8) [a, b]).length = [a, b].flatten.length + 1 by simp [over], typedM]
  simp only [over, List.getElem?_cons_zero, List.length_nil, Nat.zero_add]
  rw [show wordsM { kd 8 with kids := [a, b].length } 0 = none from rfl]
  simp only [h1, h2, show ¬ ((8 : Int) = 4) by decide, show ¬ ((8 : Int) = 5) by decide, show ¬ ((8 : Int) = 6) by decide, if_false, if_true]
  simp
  omega
theorem letv_cl (ha : Cl a s) : Cl (over (kd 8) [a, vr 0]) s := by
  have hv : (over (kd 8) [a, vr 0])[1 + a.length]? = some ⟨4, 0, ((0 : Nat) : Int), no, no, no, 0, 0⟩ := by
    simp only [over, Nat.add_comm 1]
    simp
  have hP := part_cons { kd 8 with kids := [a, vr 0].length } [a, vr 0].flatten
  have hl : (over (kd 8) [a, vr 0]).length = a.length + 1 + 1 := by simp [over]
  refine ⟨?_, ?_, ha.fits⟩
  · have h1 := cl_shape ha (f := a.length + 1) (part_head (R := [vr 0].flatten) hP) (by omega)
    have h2 := var_shape (f := a.length) hv
    rw [hl, shapeM]
    simp only [over, List.getElem?_cons_zero, List.length_cons, List.length_nil, Nat.zero_add, Nat.reduceAdd] at h1 h2 ⊢
    rw [show kidsOk { kd 8 with kids := ((2 : Nat) : Int) } = true from rfl]
    simp only [if_true, Int.toNat_natCast, timesM]
    rw [h1]
    simp only
    rw [h2]
    simp [Nat.add_comm, Nat.add_left_comm]
  · have h1 := cl_typed ha (f := a.length + 1) [] (part_head (R := [vr 0].flatten) hP) (by omega)
    have h2 := var_typed (f := a.length) (env := [s]) (t := s) hv rfl
    rw [hl, typedM]
    simp only [over, List.getElem?_cons_zero, List.length_nil, Nat.zero_add]
    rw [show wordsM { kd 8 with kids := [a, vr 0].length } 0 = none from rfl]
    simp only [h1, show ¬ ((8 : Int) = 4) by decide, show ¬ ((8 : Int) = 5) by decide, show ¬ ((8 : Int) = 6) by decide, if_false, if_true]
    simp only [over] at h2
    rw [h2]
    simp [Nat.add_comm, Nat.add_left_comm]
theorem own_cl (hs : s.fits) (ht : t.fits) (hl : s.enc.length + t.enc.length ≤ 40) : Cl (over ⟨6, 0, 0, no, s.str, t.str, 0, 0⟩ [over (kd 7) [vr 1, vr 0]]) (.fn s t) := by
  have hf : (Ty.fn s t).fits := by simp [Ty.fits, Ty.enc]; omega
  have hm : madeM (.fn s t) = .ok (.fn s t) := by unfold madeM; exact if_pos hf
  refine ⟨rfl, ?_, hf⟩
  have hT : over ⟨6, 0, 0, no, s.str, t.str, 0, 0⟩ [over (kd 7) [vr 1, vr 0]] = [⟨6, 1, 0, no, s.str, t.str, 0, 0⟩, ⟨7, 2, 0, no, no, no, 0, 0⟩, ⟨4, 0, ((1 : Nat) : Int), no, no, no, 0, 0⟩, ⟨4, 0, ((0 : Nat) : Int), no, no, no, 0, 0⟩] := rfl
  rw [hT]
  generalize hG : [_, _, _, _] = T
  have c0 : T[0]? = some ⟨6, 1, 0, no, s.str, t.str, 0, 0⟩ := by rw [← hG]; rfl
  have c1 : T[1]? = some ⟨7, 2, 0, no, no, no, 0, 0⟩ := by rw [← hG]; rfl
  have c2 : T[2]? = some ⟨4, 0, ((1 : Nat) : Int), no, no, no, 0, 0⟩ := by rw [← hG]; rfl
  have c3 : T[3]? = some ⟨4, 0, ((0 : Nat) : Int), no, no, no, 0, 0⟩ := by rw [← hG]; rfl
  have hlen : T.length = 4 := by rw [← hG]; rfl
  have v1 := var_typed (f := 1) (env := [s, .fn s t]) (t := .fn s t) c2 rfl
  have v0 := var_typed (f := 1) (env := [s, .fn s t]) (t := s) c3 rfl
  have h1 : typedM T 3 [s, .fn s t] 1 = .ok (t, 4) := by
    rw [typedM, c1]
    simp [wordsM, kidsM, v1, v0, ruleM, needM]
  rw [hlen, typedM, c0]
  simp [wordsM, tyOf_str s hs, tyOf_str t ht, hm, atM, h1, bodyM]
end
end Culp
