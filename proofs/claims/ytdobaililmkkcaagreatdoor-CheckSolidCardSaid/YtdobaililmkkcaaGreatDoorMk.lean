
/- Walks: types without the unknown one. -/
import Derived.Test.YtdobaililmkkcaaGreatDoorMi
import Derived.Test.YtdobaililmkkcaaGreatDoorKe
import Derived.Test.YtdobaililmkkcaaGreatDoorLb
import Derived.Lib.Bytealg
import Derived.Lib.IndexAny
namespace Culp
set_option linter.unusedSimpArgs false
set_option linter.unusedVariables false
/-- Written, without the unknown type. -/
def solidB (s : List UInt8) : Bool := !s.contains 63 && !s.isEmpty
theorem enc_63 : ∀ t : Ty, t.enc.contains 63 = !t.solid
  | .dyn => by decide
  | .int => by decide
  | .bool => by decide
  | .text => by decide
  | .fn a b => by simp only [Ty.enc, Ty.solid, List.contains_cons, List.contains_append, enc_63 a, enc_63 b, Bool.not_and]; rfl
  | .pair a b => by simp only [Ty.enc, Ty.solid, List.contains_cons, List.contains_append, enc_63 a, enc_63 b, Bool.not_and]; rfl
  | .list a => by simp only [Ty.enc, Ty.solid, List.contains_cons, enc_63 a]; rfl
  | .box a => by simp only [Ty.enc, Ty.solid, List.contains_cons, enc_63 a]; rfl
theorem solidB_str (t : Ty) : solidB t.str.data.toList = t.solid := by
  rw [str_list]
  unfold solidB
  rw [enc_63, Bool.not_not]
  have : t.enc.isEmpty = false := by cases t <;> rfl
  rw [this]
  simp
/-- A node, as the document asks it. -/
def statB (x : Nd) : Bool :=
  if x.kind = 5 ∨ x.kind = 6 then solidB x.t.data.toList && solidB x.u.data.toList
  else if x.kind = 8 ∨ x.kind = 29 then solidB x.t.data.toList
  else if x.kind = 21 then decide (x.kids ≠ 0)
  else true
end Culp
namespace Culp.Tr
set_option linter.unusedSimpArgs false
set_option linter.unusedVariables false
open Go.Proofs.YtdobaililmkkcaaGreatDoor
theorem stat_of {x : Nd} (hm : may x = true) (h : statB x = true) : Stat x := by
  obtain ⟨m1, m2, m3⟩ := may_note hm
  have key : ∀ s : ByteArray, NoteOk s → solidB s.data.toList = true → (noteT s).solid = true := fun s hs hb => by
    have h0 : s.size ≠ 0 := fun h0 => by
      have e : s.data.toList.length = s.size := by rw [Array.length_toList]; rfl
      rw [h0] at e
      rw [List.eq_nil_of_length_eq_zero e] at hb
      cases hb
    obtain ⟨t, rfl, _, h2⟩ := hs h0
    rw [h2, ← solidB_str]
    exact hb
  unfold statB at h
  refine ⟨fun hk => ?_, fun hk => ?_, fun hk => ?_⟩
  · by_cases h56 : x.kind = 5 ∨ x.kind = 6
    · rw [if_pos h56, Bool.and_eq_true] at h
      exact key _ (m1 (by omega)) h.1
    · rw [if_neg h56, if_pos (by omega)] at h
      by_cases h29 : x.kind = 29
      · obtain ⟨t, e, _, h2⟩ := m3 h29
        rw [h2, ← solidB_str, ← e]
        exact h
      · exact key _ (m1 (by omega)) h
  · rw [if_pos hk, Bool.and_eq_true] at h
    exact key _ (m2 hk) h.2
  · rw [if_neg (by omega), if_neg (by omega), if_pos hk] at h
    exact of_decide_eq_true h
theorem statF_of : ∀ f : F, f.Ok → (∀ y ∈ f.flat, may y = true ∧ statB y = true) → StatF f
  | .nil, _, _ => trivial
  | .cons x ks r, hO, h => by
    have hx := h x (by simp [F.flat])
    have hst := stat_of hx.1 hx.2
    refine ⟨hst, ?_, statF_of ks hO.2.1 fun y hy => h y (by simp [F.flat, hy]), statF_of r hO.2.2 fun y hy => h y (by simp [F.flat, hy])⟩
    have hm := hx.1
    unfold may kOk at hm
    simp only [Bool.and_eq_true, decide_eq_true_eq, Bool.or_eq_true] at hm
    have h30 := hm.1.1.1.1.1.1
    have ha := hm.1.1.1.1.2
    have hc := hO.1
    refine ⟨h30, ?_⟩
    rcases ha with ha | ha
    · have h21 := arit_neg ha
      exact .inr ⟨h21, fun h0 => hst.kids h21 (by omega)⟩
    · exact .inl (by omega)
end Culp.Tr
namespace Go.Proofs.YtdobaililmkkcaaGreatDoor
set_option linter.unusedSimpArgs false
set_option linter.unusedVariables false
open Go.RowKit Go.Maps Culp
theorem rSolid_any (s : ByteArray) (w : World) (hs : s.size ≤ 140737488351232) : Calls Tryz.prog 7 #[.string s] w (Gives (.bool (solidB s.data.toList)) w) := by
  have hl : s.data.toList.length = s.size := by rw [Array.length_toList]; rfl
  go_enter Tryz.func7, Tryz.ntmps7
  go_wp2_with fail
  go_loop [3] (fun i => ∃ k : Nat, k ≤ s.size ∧ i = .int .i64 k ∧ Hid ((s.data.toList.take k).contains 63 = false)) (fun i => s.size - (intOf i).toNat)
  case atStart => exact ⟨0, Nat.zero_le _, rfl, Lib.hid rfl⟩
  case round =>
    obtain ⟨k, hk, rfl, HN⟩ := hrel
    by_cases hlt : k < s.size
    · have hg := get_byte' s k hlt
      have HS : Hid ((s.data.toList.take (k + 1)).contains 63 = (s[k] == 63)) := Lib.hid (by
        rw [List.take_add_one, hg]
        simp only [Option.toList_some, List.contains_append, HN.out, Bool.false_or]
        by_cases h : s[k] = 63
        · simp [h]
        · have h' : ¬ (63 = s[k]) := fun e => h e.symm
          simp [h, h'])
      by_cases hc : s[k].toNat = 63
      · have e63 := eq_lit (n := s[k].toNat) (z := 63) (by omega)
        have HR : Hid (solidB s.data.toList = false) := Lib.hid (by
          have h1 : (s.data.toList.take (k + 1)).contains 63 = true := by
            rw [HS.out, beq_iff_eq]
            exact UInt8.toNat_inj.1 hc
          unfold solidB
          have h2 : s.data.toList.contains 63 = true := by
            rw [List.contains_iff_mem] at h1 ⊢
            exact List.mem_of_mem_take h1
          rw [h2]; rfl)
        clear HN HS hg hc
        go_wp2_with fail
        go_ret
        rw [HR.out]
        exact Gives.mk rfl
      · have e63 : (((s[k].toNat : Nat) : Int) == 63) = false := beq_eq_false_iff_ne.2 (by omega)
        have HN2 : Hid ((s.data.toList.take (k + 1)).contains 63 = false) := Lib.hid (by
          rw [HS.out, beq_eq_false_iff_ne]
          exact fun h => hc (by rw [h]; rfl))
        clear HN HS hg hc
        go_wp2_with fail
        go_round
        case rel => exact ⟨k + 1, by omega, by go_num, HN2⟩
        case measure => simp [intOf]; omega
    · obtain rfl : k = s.size := by omega
      have h1 : s.data.toList.contains 63 = false := by
        have := HN.out
        rw [List.take_of_length_le (by omega)] at this
        exact this
      have HR : Hid (solidB s.data.toList = !s.data.toList.isEmpty) := Lib.hid (by unfold solidB; rw [h1]; rfl)
      by_cases h0 : s.size = 0
      · have q := empty_list h0
        have HE : Hid (s.data.toList.isEmpty = true) := Lib.hid (by rw [List.isEmpty_iff]; exact List.eq_nil_of_length_eq_zero (by omega))
        clear HN h1 h0
        go_wp2_with fail
        go_ret
        rw [HR.out, HE.out]
        exact Gives.mk rfl
      · have q := some_list h0
        have HE : Hid (s.data.toList.isEmpty = false) := Lib.hid (by
          cases h : s.data.toList with
          | nil => rw [h] at hl; exact absurd hl.symm h0
          | cons a l => rfl)
        clear HN h1 h0
        go_wp2_with fail
        go_ret
        rw [HR.out, HE.out]
        exact Gives.mk rfl
theorem tContains_any (s : ByteArray) (w : World) : Calls Tryz.prog 28 #[.string s, .string { data := #[63] }] w (Gives (.bool (s.data.toList.contains 63)) w) := by
  have HI := Lib.hid (Tryz.stringslite_Index_one s 63 w)
  have HC := Lib.hid (Go.Lib.contains_iff_indexByte s.data.toList 63)
  go_enter Tryz.func28, Tryz.ntmps28
  go_wp2_with (first | (go_at_call 88; refine HI.out.mono ?_; rintro e w' ⟨rfl, rfl⟩) | go_in)
  all_goals
    go_ret
    rw [HC.out]
    first
      | exact Gives.mk rfl
      | (refine Gives.mk ?_; congr 1; simp_all)
theorem tStatic_any (t : Ty) (ht : t.fits) (w : World) : Calls Tryz.prog 11 #[.string t.str] w (Gives (.bool t.solid) w) := by
  have S1 : Hid (isTy t.str.data.toList = true) := by rw [Hid, str_list]; exact isTy_enc t ht
  have HC := Lib.hid (fun w => tContains_any t.str w)
  have HE : Hid (t.str.data.toList.contains 63 = !t.solid) := Lib.hid (by rw [str_list]; exact enc_63 t)
  rw [HE.out] at HC
  go_enter Tryz.func11, Tryz.ntmps11
  go_wp2_with fail
  refine (tis_any _ _).mono ?_
  rw [S1.out]
  rintro e w' ⟨rfl, rfl⟩
  go_wp2_with fail
  refine (HC.out _).mono ?_
  rintro e w' ⟨rfl, rfl⟩
  go_wp2_with fail
  go_ret
  exact Gives.mk (by simp)
set_option maxRecDepth 100000 in
set_option maxHeartbeats 3200000 in
theorem rStatic_any (T : List Nd) (tv : Value) (w : World) (hn : Nodes w tv T) (hT : T.length ≤ 1000000) (hz : ∀ x ∈ T, x.t.size ≤ 140737488351232 ∧ x.u.size ≤ 140737488351232) : Calls Tryz.prog 8 #[tv] w (Makes (.bool (T.all statB)) w) := by
  have HN := Lib.hid hn
  have HZ := Lib.hid hz
  obtain ⟨A, C, rfl, hlc, _⟩ := hn
  clear hz
  go_enter Tryz.func8, Tryz.ntmps8
  go_wp2_with fail
  go_loopw [3] (fun i wr => ∃ k : Nat, k ≤ T.length ∧ i = .int .i64 k ∧ Hid ((T.take k).all statB = true) ∧ Hid (Below w.heap.size w wr)) (fun i _ => T.length - (intOf i).toNat)
  case atStart => exact ⟨0, Nat.zero_le _, rfl, Lib.hid rfl, Lib.hid (Below.refl _ _)⟩
  case round =>
    obtain ⟨k, hk, rfl, HA, HB⟩ := hrel
    by_cases hlt : k < T.length
    · obtain ⟨x, hx⟩ : ∃ x, T[k]? = some x := ⟨_, List.getElem?_eq_getElem hlt⟩
      obtain ⟨A', C', e1, _, hNN⟩ := HN.out.later HB.out
      simp only [Value.slice.injEq] at e1
      obtain ⟨rfl, _, rfl⟩ := e1
      obtain ⟨b, off, rfl, hM⟩ := hNN (by omega)
      obtain ⟨n0, n1, n2, n3, n4, n5, n6, n7⟩ := hM.at_ hx
      have hzx := HZ.out x (List.mem_of_getElem? hx)
      have HTK : Hid ((T.take (k + 1)).all statB = statB x) := Lib.hid (by
        rw [List.take_add_one, hx]
        simp only [Option.toList_some, List.all_append, HA.out, Bool.true_and, List.all_cons, List.all_nil, Bool.and_true])
      have HNO : Hid (statB x = false → T.all statB = false) := Lib.hid (fun h => by
        rw [List.all_eq_false]
        exact ⟨x, List.mem_of_getElem? hx, by rw [h]; decide⟩)
      have H1 := Lib.hid (fun w' => rSolid_any x.t w' hzx.1)
      have H2 := Lib.hid (fun w' => rSolid_any x.u w' hzx.2)
      have hb1 : Below w.heap.size w (wr.alloc (.cells #[.int .i8 x.kind, .int .i64 x.kids, .int .i64 x.n, .string x.s, .string x.t, .string x.u, .int .i64 x.line, .int .i64 x.col] 64)) := HB.out.alloc HB.out.size _
      have HB1 := Lib.hid hb1
      have HX : Hid (Box wr.heap.size x (wr.alloc (.cells #[.int .i8 x.kind, .int .i64 x.kids, .int .i64 x.n, .string x.s, .string x.t, .string x.u, .int .i64 x.line, .int .i64 x.col] 64))) := Lib.hid (MapKept.heap_alloc wr _).1
      have x4 : (wr.alloc (.cells #[.int .i8 x.kind, .int .i64 x.kids, .int .i64 x.n, .string x.s, .string x.t, .string x.u, .int .i64 x.line, .int .i64 x.col] 64)).cell? ⟨wr.heap.size, 4, none⟩ = some (.string x.t) := HX.out.cell 4
      have x5 : (wr.alloc (.cells #[.int .i8 x.kind, .int .i64 x.kids, .int .i64 x.n, .string x.s, .string x.t, .string x.u, .int .i64 x.line, .int .i64 x.col] 64)).cell? ⟨wr.heap.size, 5, none⟩ = some (.string x.u) := HX.out.cell 5
      have x1 : (wr.alloc (.cells #[.int .i8 x.kind, .int .i64 x.kids, .int .i64 x.n, .string x.s, .string x.t, .string x.u, .int .i64 x.line, .int .i64 x.col] 64)).cell? ⟨wr.heap.size, 1, none⟩ = some (.int .i64 x.kids) := HX.out.cell 1
      have HSB : Hid (statB x = if x.kind = 5 ∨ x.kind = 6 then solidB x.t.data.toList && solidB x.u.data.toList else if x.kind = 8 ∨ x.kind = 29 then solidB x.t.data.toList else if x.kind = 21 then decide (x.kids ≠ 0) else true) := Lib.hid rfl
      generalize solidB x.t.data.toList = b1 at *
      generalize solidB x.u.data.toList = b2 at *
      generalize statB x = sb at *
      clear hb1 hM hNN hx hzx HX
      by_cases h5 : x.kind = 5
      · have e5 : (x.kind == 5) = true := by rw [h5]; rfl
        rw [if_pos (by omega)] at HSB
        cases b1 with
        | false =>
          have HT : Hid (T.all statB = false) := Lib.hid (HNO.out HSB.out)
          clear HNO HTK HSB h5
          go_wp2_with fail
          refine (H1.out _).mono ?_
          rintro E w2 ⟨rfl, rfl⟩
          go_wp2_with fail
          go_ret
          rw [HT.out]
          exact Makes.mk rfl HB1.out
        | true =>
          cases b2 with
          | false =>
            have HT : Hid (T.all statB = false) := Lib.hid (HNO.out HSB.out)
            clear HNO HTK HSB h5
            go_wp2_with fail
            refine (H1.out _).mono ?_
            rintro E w2 ⟨rfl, rfl⟩
            go_wp2_with fail
            refine (H2.out _).mono ?_
            rintro E w2 ⟨rfl, rfl⟩
            go_wp2_with fail
            go_ret
            rw [HT.out]
            exact Makes.mk rfl HB1.out
          | true =>
            have HT : Hid ((T.take (k + 1)).all statB = true) := Lib.hid (HTK.out.trans HSB.out)
            clear HNO HTK HSB h5
            go_wp2_with fail
            refine (H1.out _).mono ?_
            rintro E w2 ⟨rfl, rfl⟩
            go_wp2_with fail
            refine (H2.out _).mono ?_
            rintro E w2 ⟨rfl, rfl⟩
            go_wp2_with fail
            go_roundw
            case rel => exact ⟨k + 1, by omega, by go_num, HT, HB1⟩
            case measure => simp [intOf]; omega
      have e5 : (x.kind == 5) = false := beq_eq_false_iff_ne.2 h5
      by_cases h6 : x.kind = 6
      · have e6 : (x.kind == 6) = true := by rw [h6]; rfl
        rw [if_pos (by omega)] at HSB
        cases b1 with
        | false =>
          have HT : Hid (T.all statB = false) := Lib.hid (HNO.out HSB.out)
          clear HNO HTK HSB h5 h6
          go_wp2_with fail
          refine (H1.out _).mono ?_
          rintro E w2 ⟨rfl, rfl⟩
          go_wp2_with fail
          go_ret
          rw [HT.out]
          exact Makes.mk rfl HB1.out
        | true =>
          cases b2 with
          | false =>
            have HT : Hid (T.all statB = false) := Lib.hid (HNO.out HSB.out)
            clear HNO HTK HSB h5 h6
            go_wp2_with fail
            refine (H1.out _).mono ?_
            rintro E w2 ⟨rfl, rfl⟩
            go_wp2_with fail
            refine (H2.out _).mono ?_
            rintro E w2 ⟨rfl, rfl⟩
            go_wp2_with fail
            go_ret
            rw [HT.out]
            exact Makes.mk rfl HB1.out
          | true =>
            have HT : Hid ((T.take (k + 1)).all statB = true) := Lib.hid (HTK.out.trans HSB.out)
            clear HNO HTK HSB h5 h6
            go_wp2_with fail
            refine (H1.out _).mono ?_
            rintro E w2 ⟨rfl, rfl⟩
            go_wp2_with fail
            refine (H2.out _).mono ?_
            rintro E w2 ⟨rfl, rfl⟩
            go_wp2_with fail
            go_roundw
            case rel => exact ⟨k + 1, by omega, by go_num, HT, HB1⟩
            case measure => simp [intOf]; omega
      have e6 : (x.kind == 6) = false := beq_eq_false_iff_ne.2 h6
      by_cases h8 : x.kind = 8
      · have e8 : (x.kind == 8) = true := by rw [h8]; rfl
        have h29 : True := trivial
        rw [if_neg (by omega), if_pos (by omega)] at HSB
        cases b1 with
        | false =>
          have HT : Hid (T.all statB = false) := Lib.hid (HNO.out HSB.out)
          clear HNO HTK HSB h5 h6 h8 h29
          go_wp2_with fail
          refine (H1.out _).mono ?_
          rintro E w2 ⟨rfl, rfl⟩
          go_wp2_with fail
          go_ret
          rw [HT.out]
          exact Makes.mk rfl HB1.out
        | true =>
          have HT : Hid ((T.take (k + 1)).all statB = true) := Lib.hid (HTK.out.trans HSB.out)
          clear HNO HTK HSB h5 h6 h8 h29
          go_wp2_with fail
          refine (H1.out _).mono ?_
          rintro E w2 ⟨rfl, rfl⟩
          go_wp2_with fail
          go_roundw
          case rel => exact ⟨k + 1, by omega, by go_num, HT, HB1⟩
          case measure => simp [intOf]; omega
      have e8 : (x.kind == 8) = false := beq_eq_false_iff_ne.2 h8
      by_cases h29 : x.kind = 29
      · have e29 : (x.kind == 29) = true := by rw [h29]; rfl
        rw [if_neg (by omega), if_pos (by omega)] at HSB
        cases b1 with
        | false =>
          have HT : Hid (T.all statB = false) := Lib.hid (HNO.out HSB.out)
          clear HNO HTK HSB h5 h6 h8 h29
          go_wp2_with fail
          refine (H1.out _).mono ?_
          rintro E w2 ⟨rfl, rfl⟩
          go_wp2_with fail
          go_ret
          rw [HT.out]
          exact Makes.mk rfl HB1.out
        | true =>
          have HT : Hid ((T.take (k + 1)).all statB = true) := Lib.hid (HTK.out.trans HSB.out)
          clear HNO HTK HSB h5 h6 h8 h29
          go_wp2_with fail
          refine (H1.out _).mono ?_
          rintro E w2 ⟨rfl, rfl⟩
          go_wp2_with fail
          go_roundw
          case rel => exact ⟨k + 1, by omega, by go_num, HT, HB1⟩
          case measure => simp [intOf]; omega
      have e29 : (x.kind == 29) = false := beq_eq_false_iff_ne.2 h29
      rw [if_neg (by omega), if_neg (by omega)] at HSB
      by_cases h21 : x.kind = 21
      · have e21 : (x.kind == 21) = true := by rw [h21]; rfl
        rw [if_pos h21] at HSB
        by_cases h0 : x.kids = 0
        · have k0 : (x.kids == 0) = true := by rw [h0]; rfl
          have HT : Hid (T.all statB = false) := Lib.hid (HNO.out (HSB.out.trans (decide_eq_false (fun h => h h0))))
          clear HNO HTK HSB h5 h6 h8 h29 h21 h0
          go_wp2_with fail
          go_ret
          rw [HT.out]
          exact Makes.mk rfl HB1.out
        · have k0 : (x.kids == 0) = false := beq_eq_false_iff_ne.2 h0
          have HT : Hid ((T.take (k + 1)).all statB = true) := Lib.hid (HTK.out.trans (HSB.out.trans (decide_eq_true h0)))
          clear HNO HTK HSB h5 h6 h8 h29 h21 h0
          go_wp2_with fail
          go_roundw
          case rel => exact ⟨k + 1, by omega, by go_num, HT, HB1⟩
          case measure => simp [intOf]; omega
      · have e21 : (x.kind == 21) = false := beq_eq_false_iff_ne.2 h21
        rw [if_neg h21] at HSB
        have HT : Hid ((T.take (k + 1)).all statB = true) := Lib.hid (HTK.out.trans HSB.out)
        clear HNO HTK HSB h5 h6 h8 h29 h21
        go_wp2_with fail
        go_roundw
        case rel => exact ⟨k + 1, by omega, by go_num, HT, HB1⟩
        case measure => simp [intOf]; omega
    · have HR : Hid (T.all statB = true) := Lib.hid (by
        have := HA.out
        rw [List.take_of_length_le (by omega)] at this
        exact this)
      clear HA
      go_wp2_with fail
      go_ret
      rw [HR.out]
      exact Makes.mk rfl HB.out
end Go.Proofs.YtdobaililmkkcaaGreatDoor

/- The walk of the statement CheckSolid. -/
namespace Culp.Tr
set_option linter.unusedSimpArgs false
set_option linter.unusedVariables false
open Go
theorem sfits {same : Bool} : ∀ (f : F) (g : Nat → Env) (k p : Nat) (K : List (Nat × List Ty)), chk same f g k p = .ok K → ∀ a ∈ K, ∀ t ∈ a.2, t.fits
  | .nil, g, k, p, K, h => by
    simp only [chk, Except.ok.injEq] at h
    subst h
    simp
  | .cons x ks r, g, k, p, K, h => by
    obtain ⟨K1, t, R, _, h2, _, h4, h5, rfl⟩ := F.chk_cons h
    have i1 := sfits ks _ 0 (p + 1) K1 h2
    have i2 := sfits r g (k + 1) _ R h5
    intro a ha u hu
    rcases List.mem_cons.1 ha with rfl | ha
    · rcases List.mem_cons.1 hu with rfl | hu
      · exact h4
      · obtain ⟨l, hl, hul⟩ := List.mem_flatten.1 hu
        obtain ⟨b, hb, rfl⟩ := List.mem_map.1 hl
        exact i1 b hb u hul
    · exact i2 a ha u hu
theorem slen {same : Bool} {x : Nd} {ks : F} {E : Env} {p : Nat} {ts : List Ty} (h : chk1 same x ks E p = .ok ts) : ts.length = 1 + ks.flat.length := by
  unfold chk1 at h
  cases hc : chk same (.cons x ks .nil) (fun _ => E) 0 p with
  | error b => rw [hc] at h; cases h
  | ok K =>
    rw [hc] at h
    injection h with h
    subst h
    have := F.chk_len same _ _ _ _ K hc
    simp only [F.flat, List.append_nil, List.length_cons] at this
    omega
/-- A solid tree in a solid environment: read either way it is the same; its types are solid. -/
theorem solid_one {x : Nd} {ks : F} {E : Env} (hS : StatF (.cons x ks .nil)) (hE : EnvS E) : chk1 false x ks E 0 = chk1 true x ks E 0 ∧ ∀ ts, chk1 true x ks E 0 = .ok ts → ∀ t ∈ ts, t.solid = true ∧ t.fits := by
  obtain ⟨h1, h2⟩ := chk_solid (.cons x ks .nil) (fun _ => E) 0 0 hS (fun _ => hE)
  refine ⟨by unfold chk1; rw [h1], fun ts h => ?_⟩
  unfold chk1 at h
  cases hc : chk true (.cons x ks .nil) (fun _ => E) 0 0 with
  | error b => rw [hc] at h; cases h
  | ok K =>
    rw [hc] at h
    injection h with h
    subst h
    intro t ht
    obtain ⟨l, hl, hul⟩ := List.mem_flatten.1 ht
    obtain ⟨b, hb, rfl⟩ := List.mem_map.1 hl
    exact ⟨(h2 K hc b hb).2 t hul, sfits _ _ _ _ K hc b hb t hul⟩
end Culp.Tr
namespace Go.Proofs.YtdobaililmkkcaaGreatDoor
set_option linter.unusedSimpArgs false
set_option linter.unusedVariables false
open Go.RowKit Go.Maps Culp
theorem envTo_solid {N S : List ByteArray} : ∀ k, (∀ j, j < k → argOk N S j) → (∀ j, j < k → solidB (S.getD j ByteArray.empty).data.toList = true) → Tr.EnvS (envTo N S k)
  | 0, _, _ => fun b hb => by cases hb
  | k + 1, h, hs => by
    obtain ⟨T, e, hT, e2⟩ := argOk_ty (h k (Nat.lt_succ_self k))
    unfold envTo
    rw [e2]
    intro b hb
    rcases List.mem_cons.1 hb with rfl | hb
    · show T.solid = true
      rw [← solidB_str, ← e]
      exact hs k (Nat.lt_succ_self k)
    · exact envTo_solid k (fun j hj => h j (by omega)) (fun j hj => hs j (by omega)) b hb
set_option maxRecDepth 100000 in
set_option maxHeartbeats 6400000 in
theorem solid_law (T : List Nd) (N S : List ByteArray) (tv nv sv : Value) (w : World) (hn : Nodes w tv T) (hN : Txts w nv N) (hS : Txts w sv S) (hSp : Sp w) (hTab : Tab w) (hz : ∀ s ∈ N, s.size ≤ 140737488351232) (hzS : ∀ s ∈ S, s.size ≤ 140737488351232) (hzT : ∀ x ∈ T, x.s.size ≤ 140737488351232 ∧ x.t.size ≤ 140737488351232 ∧ x.u.size ≤ 140737488351232) (hkT : ∀ x ∈ T, x.kids ≤ 9223372036854775807) :
    Calls Tryz.prog 3 #[.agg #[tv, nv, sv]] w (Makes (.bool true) w) := by
  have HN := Lib.hid hn
  have HNN := Lib.hid hN
  have HSS := Lib.hid hS
  have HSP := Lib.hid hSp
  have HTB := Lib.hid hTab
  have HZ := Lib.hid hz
  have HZS := Lib.hid hzS
  have HZT := Lib.hid hzT
  have HKT := Lib.hid hkT
  obtain ⟨A, C, rfl, hlc, hNN⟩ := hn
  obtain ⟨A2, C2, rfl⟩ := hN.form
  obtain ⟨A3, C3, rfl⟩ := hS.form
  have hb1 : Below w.heap.size w (w.alloc (.cells #[.slice A T.length C, .slice A2 N.length C2, .slice A3 S.length C3] 25)) := (Below.refl _ _).alloc (Nat.le_refl _) _
  have HB1 := Lib.hid hb1
  have HBX : Hid (((w.alloc (.cells #[.slice A T.length C, .slice A2 N.length C2, .slice A3 S.length C3] 25))).heap[w.heap.size]? = some (.cells #[.slice A T.length C, .slice A2 N.length C2, .slice A3 S.length C3] 25 (0, 0))) := Lib.hid (MapKept.heap_alloc w _).1
  clear hN hS hSp hTab hz hzS hzT hkT hNN hb1
  go_enter Tryz.func3, Tryz.ntmps3
  go_wp2_with fail
  generalize (w.alloc (.cells #[.slice A T.length C, .slice A2 N.length C2, .slice A3 S.length C3] 25)) = w1 at *
  refine (cworks_any _ (HSP.out.later HB1.out) (HTB.out.later HB1.out)).mono ?_
  rintro E w2 ⟨rfl, hb2⟩
  have HB2 := Lib.hid (below_later hb2 HB1.out)
  have hbk : w2.heap[w.heap.size]? = _ := (hb2.block w.heap.size (Array.getElem?_eq_some_iff.1 HBX.out).1).trans HBX.out
  have HBX2 := Lib.hid hbk
  have k0 : w2.cell? ⟨w.heap.size, 0, none⟩ = some (.slice A T.length C) := by simp [World.cell?, hbk]
  have k1 : w2.cell? ⟨w.heap.size, 1, none⟩ = some (.slice A2 N.length C2) := by simp [World.cell?, hbk]
  have k2 : w2.cell? ⟨w.heap.size, 2, none⟩ = some (.slice A3 S.length C3) := by simp [World.cell?, hbk]
  clear hb2 hbk HB1 HBX
  go_wp2_with fail
  refine (clong_any T N S A A2 A3 C C2 C3 _).mono ?_
  rintro E w3 ⟨rfl, hb3⟩
  have HB3 := Lib.hid (below_later hb3 HB2.out)
  have HBX3 : Hid (w3.heap[w.heap.size]? = some (.cells #[.slice A T.length C, .slice A2 N.length C2, .slice A3 S.length C3] 25 (0, 0))) := Lib.hid ((hb3.block w.heap.size (Array.getElem?_eq_some_iff.1 HBX2.out).1).trans HBX2.out)
  clear hb3 HB2 k0 k1 k2 HBX2
  cases hlg : (decide (400 < T.length) || decide (100 < N.length) || decide (100 < S.length)) with
  | true =>
    go_wp2_with fail
    go_ret
    exact Makes.mk rfl HB3.out
  | false =>
    have hTl : T.length ≤ 400 := by
      simp only [Bool.or_eq_false_iff, decide_eq_false_iff_not] at hlg
      omega
    have hNl : N.length ≤ 100 := by
      simp only [Bool.or_eq_false_iff, decide_eq_false_iff_not] at hlg
      omega
    have hSl : S.length ≤ 100 := by
      simp only [Bool.or_eq_false_iff, decide_eq_false_iff_not] at hlg
      omega
    clear hlg
    go_wp2_with fail
    go_loopw [4] (fun i wr => ∃ k : Nat, k ≤ S.length ∧ i = .int .i64 k ∧ Hid (∀ j, j < k → solidB (S.getD j ByteArray.empty).data.toList = true) ∧ Hid (Below w.heap.size w wr) ∧ Hid (wr.heap[w.heap.size]? = some (.cells #[.slice A T.length C, .slice A2 N.length C2, .slice A3 S.length C3] 25 (0, 0)))) (fun i _ => S.length - (intOf i).toNat)
    case atStart => exact ⟨0, Nat.zero_le _, by go_num, Lib.hid (fun j hj => absurd hj (Nat.not_lt_zero _)), HB3, HBX3⟩
    case round =>
      obtain ⟨k, hk, rfl, HSO, HB, HBX⟩ := hrel
      have hbk := HBX.out
      have k0 : wr.cell? ⟨w.heap.size, 0, none⟩ = some (.slice A T.length C) := by simp [World.cell?, hbk]
      have k1 : wr.cell? ⟨w.heap.size, 1, none⟩ = some (.slice A2 N.length C2) := by simp [World.cell?, hbk]
      have k2 : wr.cell? ⟨w.heap.size, 2, none⟩ = some (.slice A3 S.length C3) := by simp [World.cell?, hbk]
      clear hbk HB3 HBX3
      by_cases hlt : k < S.length
      · obtain ⟨g3, o3, _, e3, a3⟩ := (HSS.out.later HB.out).at_ hlt
        simp only [Value.slice.injEq] at e3
        obtain ⟨rfl, -, rfl⟩ := e3
        have hsk : S[k] = S.getD k ByteArray.empty := by rw [List.getD_eq_getElem?_getD, List.getElem?_eq_getElem hlt]; rfl
        have HSZ := HZS.out S[k] (List.getElem_mem hlt)
        have HCS := Lib.hid (fun w' => rSolid_any S[k] w' HSZ)
        rw [hsk] at HCS a3
        have HS2 : Hid (solidB (S.getD k ByteArray.empty).data.toList = true → ∀ j, j < k + 1 → solidB (S.getD j ByteArray.empty).data.toList = true) := Lib.hid (fun h j hj => by
          rcases Nat.lt_succ_iff_lt_or_eq.1 hj with h' | rfl
          · exact HSO.out j h'
          · exact h)
        clear hsk HSZ HSO k0 k1
        generalize S.getD k ByteArray.empty = sk at *
        cases hsb : solidB sk.data.toList with
        | false =>
          rw [hsb] at HCS
          clear hsb HS2
          go_wp2_with fail
          refine (HCS.out _).mono ?_
          rintro E w4 ⟨rfl, rfl⟩
          go_wp2_with fail
          go_ret
          exact Makes.mk rfl HB.out
        | true =>
          rw [hsb] at HCS
          have HS3 := Lib.hid (HS2.out hsb)
          clear hsb HS2
          go_wp2_with fail
          refine (HCS.out _).mono ?_
          rintro E w4 ⟨rfl, rfl⟩
          go_wp2_with fail
          go_roundw
          case rel => exact ⟨k + 1, by omega, by go_num, HS3, HB, HBX⟩
          case measure => simp [intOf]; omega
      · obtain rfl : k = S.length := by omega
        have HST := Lib.hid (rStatic_any T (.slice A T.length C) wr (HN.out.later HB.out) (by omega) (fun x hx => (HZT.out x hx).2))
        have HTL := Lib.hid hTl
        have HNL := Lib.hid hNl
        clear hlt hk hTl hNl hSl
        cases hsb : T.all statB with
        | false =>
          rw [hsb] at HST
          clear hsb
          go_wp2_with fail
          refine HST.out.mono ?_
          rintro E w4 ⟨rfl, hb4⟩
          have HB4 := Lib.hid (below_later hb4 HB.out)
          clear hb4 k0 k1 k2
          go_wp2_with fail
          go_ret
          exact Makes.mk rfl HB4.out
        | true =>
          rw [hsb] at HST
          have HALL := Lib.hid (List.all_eq_true.1 hsb)
          clear hsb
          go_wp2_with fail
          refine HST.out.mono ?_
          rintro E w4 ⟨rfl, hb4⟩
          have HB4 := Lib.hid (below_later hb4 HB.out)
          have m0 := cell_later hb4 k0
          have m1 := cell_later hb4 k1
          have m2 := cell_later hb4 k2
          clear hb4 k0 k1 k2 HBX HST HB
          have HEX := Lib.hid (ex_cases T N S)
          go_wp2_with fail
          rcases HEX.out with ⟨e, p, he, hbad⟩ | ⟨x, ks, hgood⟩
          · have HBD := Lib.hid hbad
            clear hbad HEX
            refine (Expr_bad T _ _ _ N S _ (HN.out.later HB4.out) (HNN.out.later HB4.out) (HSS.out.later HB4.out) (HSP.out.later HB4.out) HZ.out (by have := HNL.out; omega) (fun x hx => (HZT.out x hx).1) HKT.out HBD.out).mono ?_
            rintro E w5 ⟨rfl, hb5⟩
            have HB5 := Lib.hid (below_later hb5 HB4.out)
            have l0 := cell_later hb5 m0
            have l1 := cell_later hb5 m1
            have l2 := cell_later hb5 m2
            clear hb5 m0 m1 m2 HB4
            go_wp2_with fail
            refine (rPlain_bad T _ _ _ N S _ (HN.out.later HB5.out) (HNN.out.later HB5.out) (HSS.out.later HB5.out) (HSP.out.later HB5.out) HZ.out (by have := HNL.out; omega) (fun x hx => (HZT.out x hx).1) HKT.out HBD.out).mono ?_
            rintro E w6 ⟨rfl, hb6⟩
            have HB6 := Lib.hid (below_later hb6 HB5.out)
            clear hb6 l0 l1 l2 HB5
            go_wp2_with fail
            go_loopw [11] (fun i wr => i = .int .i64 0 ∧ Hid (Below w.heap.size w wr)) (fun i _ => 0)
            case atStart => exact ⟨by go_num, HB6⟩
            case round =>
              obtain ⟨rfl, HB7⟩ := hrel
              go_wp2_with fail
              refine (EqTexts_txts [] _ _ _ (Txts.nil _) (Txts.nil _) (by decide)).mono ?_
              rintro E w8 ⟨rfl, hb8⟩
              have HB8 := Lib.hid (below_later hb8 HB7.out)
              clear hb8
              go_wp2_with fail
              go_ret
              exact Makes.mk rfl HB8.out
          · have HGD := Lib.hid hgood
            have HSI := Lib.hid (Tr.solid_one (E := envTo N S N.length) (Tr.statF_of (.cons x ks .nil) hgood.2.2.1 (fun y hy => by
              have hy : y ∈ T := by rw [hgood.2.1]; simpa [Tr.F.flat] using hy
              exact ⟨hgood.2.2.2.1 y hy, HALL.out y hy⟩)) (envTo_solid N.length hgood.1.2 (by rw [hgood.1.1]; exact HSO.out)))
            have hl1 : T.length ≤ 4096 := hgood.2.2.2.2.2.1
            clear hgood HEX
            refine (Expr_good T _ _ _ N S _ (HN.out.later HB4.out) (HNN.out.later HB4.out) (HSS.out.later HB4.out) (HSP.out.later HB4.out) HZ.out (by have := HNL.out; omega) (HTB.out.later HB4.out) (fun x hx => (HZT.out x hx).1) HKT.out HGD.out).mono ?_
            rw [HSI.out.1]
            have HPL := Lib.hid (fun w' hb => rPlain_good T (.slice A T.length C) (.slice A2 N.length C2) (.slice A3 S.length C3) N S w' (HN.out.later hb) (HNN.out.later hb) (HSS.out.later hb) (HSP.out.later hb) HZ.out (by have := HNL.out; omega) (fun x hx => (HZT.out x hx).1) HKT.out HGD.out)
            have HTS := Lib.hid HSI.out.2
            have HLTS : Hid (∀ ts, Tr.chk1 true x ks (envTo N S N.length) 0 = .ok ts → ts.length ≤ 1000000000) := Lib.hid (fun ts h => by
              have h1 := Tr.slen h
              have h2 : T.length = 1 + ks.flat.length := by rw [HGD.out.2.1]; simp; omega
              omega)
            clear HSI
            generalize Tr.chk1 true x ks (envTo N S N.length) 0 = R at *
            rintro E w5 hr
            cases R with
            | error b =>
              obtain ⟨hb0, rfl, hb5⟩ := hr
              have HB5 := Lib.hid (below_later hb5 HB4.out)
              have l0 := cell_later hb5 m0
              have l1 := cell_later hb5 m1
              have l2 := cell_later hb5 m2
              clear hb5 m0 m1 m2 HB4
              go_wp2_with fail
              refine (HPL.out _ HB5.out).mono ?_
              rintro E w6 ⟨_, rfl, hb6⟩
              have HB6 := Lib.hid (below_later hb6 HB5.out)
              clear hb6 l0 l1 l2 HB5 hb0
              go_wp2_with fail
              go_loopw [11] (fun i wr => i = .int .i64 0 ∧ Hid (Below w.heap.size w wr)) (fun i _ => 0)
              case atStart => exact ⟨by go_num, HB6⟩
              case round =>
                obtain ⟨rfl, HB7⟩ := hrel
                go_wp2_with fail
                refine (EqTexts_txts [] _ _ _ (Txts.nil _) (Txts.nil _) (by decide)).mono ?_
                rintro E w8 ⟨rfl, hb8⟩
                have HB8 := Lib.hid (below_later hb8 HB7.out)
                clear hb8
                go_wp2_with fail
                go_ret
                exact Makes.mk rfl HB8.out
            | ok ts =>
              obtain ⟨va, rfl, hoa, hb5⟩ := hr
              have HB5 := Lib.hid (below_later hb5 HB4.out)
              have l0 := cell_later hb5 m0
              have l1 := cell_later hb5 m1
              have l2 := cell_later hb5 m2
              have HA5 : Hid (Txts w5 va (ts.map Ty.str)) := Lib.hid (Txts.own (n := ts.length) (by rw [List.map_map]; exact hoa))
              obtain ⟨Aa, Ca, rfl⟩ := own_shape hoa
              clear hb5 m0 m1 m2 HB4 hoa
              go_wp2_with fail
              refine (HPL.out _ HB5.out).mono ?_
              rintro E w6 ⟨vb, rfl, hob, hb6⟩
              have HB6 := Lib.hid (below_later hb6 HB5.out)
              have HA6 := Lib.hid (HA5.out.later hb6)
              have HP6 : Hid (Txts w6 vb (ts.map Ty.str)) := Lib.hid (Txts.own (n := ts.length) (by rw [List.map_map]; exact hob))
              have hcap : ts.length ≤ 9223372036854775807 := by
                rcases hob.2 with ⟨_, h0⟩ | ⟨_, _, _, _, _, _, hc, hm, _⟩
                · omega
                · unfold maxLen at hm; omega
              obtain ⟨Ab, Cb, rfl⟩ := own_shape hob
              have HTT := Lib.hid (HTS.out ts rfl)
              have HLT : Hid (ts.length ≤ 1000000000) := Lib.hid (HLTS.out ts rfl)
              clear hb6 l0 l1 l2 HB5 HA5 hob HPL HTS
              go_wp2_with fail
              go_loopw [11] (fun i wr => ∃ k : Nat, k ≤ ts.length ∧ i = .int .i64 k ∧ Hid (Below w.heap.size w wr) ∧ Hid (Below w6.heap.size w6 wr)) (fun i _ => ts.length - (intOf i).toNat)
              case atStart => exact ⟨0, Nat.zero_le _, by go_num, HB6, Lib.hid (Below.refl _ _)⟩
              case round =>
                obtain ⟨k, hk, rfl, HB7, HB67⟩ := hrel
                by_cases hlt : k < ts.length
                · have hlm : k < (ts.map Ty.str).length := by rw [List.length_map]; exact hlt
                  obtain ⟨ga, oa, _, ea, aa⟩ := (HA6.out.later HB67.out).at_ hlm
                  simp only [Value.slice.injEq] at ea
                  obtain ⟨rfl, -, rfl⟩ := ea
                  rw [List.getElem_map] at aa
                  have HSK := Lib.hid (fun w' => tStatic_any ts[k] (HTT.out _ (List.getElem_mem hlt)).2 w')
                  rw [(HTT.out _ (List.getElem_mem hlt)).1] at HSK
                  generalize ts[k] = tk at *
                  clear hlm
                  go_wp2_with fail
                  refine (HSK.out _).mono ?_
                  rintro E w8 ⟨rfl, rfl⟩
                  go_wp2_with fail
                  go_roundw
                  case rel => exact ⟨k + 1, by omega, by go_num, HB7, HB67⟩
                  case measure => simp [intOf]; omega
                · obtain rfl : k = ts.length := by omega
                  have HQ := Lib.hid (EqTexts_txts (ts.map Ty.str) (.slice Aa ts.length Ca) (.slice Ab ts.length Cb) wr (HA6.out.later HB67.out) (HP6.out.later HB67.out) (by rw [List.length_map]; exact HLT.out))
                  go_wp2_with fail
                  refine HQ.out.mono ?_
                  rintro E w8 ⟨rfl, hb8⟩
                  have HB8 := Lib.hid (below_later hb8 HB7.out)
                  clear hb8
                  go_wp2_with fail
                  go_ret
                  exact Makes.mk rfl HB8.out
end Go.Proofs.YtdobaililmkkcaaGreatDoor
