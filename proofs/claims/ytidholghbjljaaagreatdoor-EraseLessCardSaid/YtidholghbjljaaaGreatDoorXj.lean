
/- Walks of the document's chapter 8, as far as chapter 25 asks: solid, static, the parts of a type, precise, an annotation. -/
import Derived.Test.YtidholghbjljaaaGreatDoorXh
import Derived.Test.YtidholghbjljaaaGreatDoorRelW
import Derived.Test.YtidholghbjljaaaGreatDoorTrW
import Derived.Lib.Bytealg
import Derived.Lib.IndexAny
namespace Culp
set_option linter.unusedSimpArgs false
set_option linter.unusedVariables false
def solidB (s : List UInt8) : Bool := !s.contains 63 && !s.isEmpty
end Culp
namespace Culp.Tr
open Culp
def statB (x : Nd) : Bool :=
  if x.kind = 5 ∨ x.kind = 6 then solidB x.t.data.toList && solidB x.u.data.toList
  else if x.kind = 8 ∨ x.kind = 29 then solidB x.t.data.toList
  else if x.kind = 21 then decide (x.kids ≠ 0)
  else true
end Culp.Tr
namespace Go.Proofs.YtidholghbjljaaaGreatDoor
open Go.RowKit Go.Maps Culp Culp.Tr Culp.Er
theorem empty_list {s : ByteArray} (h : s.size = 0) : (s.toList == []) = true := by
  have e : s.data.toList.length = s.size := by rw [Array.length_toList]; rfl
  rw [toL', show s.data.toList = [] from List.eq_nil_of_length_eq_zero (by omega)]
  rfl
theorem some_list {s : ByteArray} (h : s.size ≠ 0) : (s.toList == []) = false := by
  rw [toL', beq_eq_false_iff_ne]
  intro e
  have e2 : s.data.toList.length = s.size := by rw [Array.length_toList]; rfl
  rw [e] at e2
  exact h e2.symm
theorem rSolid_any (s : ByteArray) (w : World) (hs : s.size ≤ 140737488351232) : Calls Tryz.prog 82 #[.string s] w (Gives (.bool (solidB s.data.toList)) w) := by
  have hl : s.data.toList.length = s.size := by rw [Array.length_toList]; rfl
  go_enter Tryz.func82, Tryz.ntmps82
  go_wp2_with fail
  go_loop [3] (fun i => ∃ k : Nat, k ≤ s.size ∧ i = .int .i64 k ∧ Hid ((s.data.toList.take k).contains 63 = false)) (fun i => s.size - (intOf i).toNat)
  case atStart => exact ⟨0, Nat.zero_le _, rfl, Lib.hid rfl⟩
  case round =>
    obtain ⟨k, hk, rfl, HN⟩ := hrel
    by_cases hlt : k < s.size
    · have hg := get_byte' s k hlt
      have HS : Hid ((s.data.toList.take (k + 1)).contains 63 = (s[k] == 63)) := Lib.hid (by
        rw [List.take_add_one, hg]
        simp only [Option.toList_some, List.contains_append, HN.out, Bool.false_or]
        by_cases h : s[k] = 63
        · simp [h]
        · have h' : ¬ (63 = s[k]) := fun e => h e.symm
          simp [h, h'])
      by_cases hc : s[k].toNat = 63
      · have e63 := eq_lit (n := s[k].toNat) (z := 63) (by omega)
        have HR : Hid (solidB s.data.toList = false) := Lib.hid (by
          have h1 : (s.data.toList.take (k + 1)).contains 63 = true := by
            rw [HS.out, beq_iff_eq]
            exact UInt8.toNat_inj.1 hc
          unfold solidB
          have h2 : s.data.toList.contains 63 = true := by
            rw [List.contains_iff_mem] at h1 ⊢
            exact List.mem_of_mem_take h1
          rw [h2]; rfl)
        clear HN HS hg hc
        go_wp2_with fail
        go_ret
        rw [HR.out]
        exact Gives.mk rfl
      · have e63 : (((s[k].toNat : Nat) : Int) == 63) = false := beq_eq_false_iff_ne.2 (by omega)
        have HN2 : Hid ((s.data.toList.take (k + 1)).contains 63 = false) := Lib.hid (by
          rw [HS.out, beq_eq_false_iff_ne]
          exact fun h => hc (by rw [h]; rfl))
        clear HN HS hg hc
        go_wp2_with fail
        go_round
        case rel => exact ⟨k + 1, by omega, by go_num, HN2⟩
        case measure => simp [intOf]; omega
    · obtain rfl : k = s.size := by omega
      have h1 : s.data.toList.contains 63 = false := by
        have := HN.out
        rw [List.take_of_length_le (by omega)] at this
        exact this
      have HR : Hid (solidB s.data.toList = !s.data.toList.isEmpty) := Lib.hid (by unfold solidB; rw [h1]; rfl)
      by_cases h0 : s.size = 0
      · have q := empty_list h0
        have HE : Hid (s.data.toList.isEmpty = true) := Lib.hid (by rw [List.isEmpty_iff]; exact List.eq_nil_of_length_eq_zero (by omega))
        clear HN h1 h0
        go_wp2_with fail
        go_ret
        rw [HR.out, HE.out]
        exact Gives.mk rfl
      · have q := some_list h0
        have HE : Hid (s.data.toList.isEmpty = false) := Lib.hid (by
          cases h : s.data.toList with
          | nil => rw [h] at hl; exact absurd hl.symm h0
          | cons a l => rfl)
        clear HN h1 h0
        go_wp2_with fail
        go_ret
        rw [HR.out, HE.out]
        exact Gives.mk rfl
set_option maxRecDepth 100000 in
set_option maxHeartbeats 3200000 in
theorem rStatic_any (T : List Nd) (tv : Value) (w : World) (hn : Nodes w tv T) (hT : T.length ≤ 1000000) (hz : ∀ x ∈ T, x.t.size ≤ 140737488351232 ∧ x.u.size ≤ 140737488351232) : Calls Tryz.prog 83 #[tv] w (Makes (.bool (T.all statB)) w) := by
  have HN := Lib.hid hn
  have HZ := Lib.hid hz
  obtain ⟨A, C, rfl, hlc, _⟩ := hn
  clear hz
  go_enter Tryz.func83, Tryz.ntmps83
  go_wp2_with fail
  go_loopw [3] (fun i wr => ∃ k : Nat, k ≤ T.length ∧ i = .int .i64 k ∧ Hid ((T.take k).all statB = true) ∧ Hid (Below w.heap.size w wr)) (fun i _ => T.length - (intOf i).toNat)
  case atStart => exact ⟨0, Nat.zero_le _, rfl, Lib.hid rfl, Lib.hid (Below.refl _ _)⟩
  case round =>
    obtain ⟨k, hk, rfl, HA, HB⟩ := hrel
    by_cases hlt : k < T.length
    · obtain ⟨x, hx⟩ : ∃ x, T[k]? = some x := ⟨_, List.getElem?_eq_getElem hlt⟩
      obtain ⟨A', C', e1, _, hNN⟩ := HN.out.later HB.out
      simp only [Value.slice.injEq] at e1
      obtain ⟨rfl, _, rfl⟩ := e1
      obtain ⟨b, off, rfl, hM⟩ := hNN (by omega)
      obtain ⟨n0, n1, n2, n3, n4, n5, n6, n7⟩ := hM.at_ hx
      have hzx := HZ.out x (List.mem_of_getElem? hx)
      have HTK : Hid ((T.take (k + 1)).all statB = statB x) := Lib.hid (by
        rw [List.take_add_one, hx]
        simp only [Option.toList_some, List.all_append, HA.out, Bool.true_and, List.all_cons, List.all_nil, Bool.and_true])
      have HNO : Hid (statB x = false → T.all statB = false) := Lib.hid (fun h => by
        rw [List.all_eq_false]
        exact ⟨x, List.mem_of_getElem? hx, by rw [h]; decide⟩)
      have H1 := Lib.hid (fun w' => rSolid_any x.t w' hzx.1)
      have H2 := Lib.hid (fun w' => rSolid_any x.u w' hzx.2)
      have hb1 : Below w.heap.size w (wr.alloc (.cells #[.int .i8 x.kind, .int .i64 x.kids, .int .i64 x.n, .string x.s, .string x.t, .string x.u, .int .i64 x.line, .int .i64 x.col] 81)) := HB.out.alloc HB.out.size _
      have HB1 := Lib.hid hb1
      have HX : Hid (Box wr.heap.size x (wr.alloc (.cells #[.int .i8 x.kind, .int .i64 x.kids, .int .i64 x.n, .string x.s, .string x.t, .string x.u, .int .i64 x.line, .int .i64 x.col] 81))) := Lib.hid (MapKept.heap_alloc wr _).1
      have x4 : (wr.alloc (.cells #[.int .i8 x.kind, .int .i64 x.kids, .int .i64 x.n, .string x.s, .string x.t, .string x.u, .int .i64 x.line, .int .i64 x.col] 81)).cell? ⟨wr.heap.size, 4, none⟩ = some (.string x.t) := HX.out.cell 4
      have x5 : (wr.alloc (.cells #[.int .i8 x.kind, .int .i64 x.kids, .int .i64 x.n, .string x.s, .string x.t, .string x.u, .int .i64 x.line, .int .i64 x.col] 81)).cell? ⟨wr.heap.size, 5, none⟩ = some (.string x.u) := HX.out.cell 5
      have x1 : (wr.alloc (.cells #[.int .i8 x.kind, .int .i64 x.kids, .int .i64 x.n, .string x.s, .string x.t, .string x.u, .int .i64 x.line, .int .i64 x.col] 81)).cell? ⟨wr.heap.size, 1, none⟩ = some (.int .i64 x.kids) := HX.out.cell 1
      have HSB : Hid (statB x = if x.kind = 5 ∨ x.kind = 6 then solidB x.t.data.toList && solidB x.u.data.toList else if x.kind = 8 ∨ x.kind = 29 then solidB x.t.data.toList else if x.kind = 21 then decide (x.kids ≠ 0) else true) := Lib.hid rfl
      generalize solidB x.t.data.toList = b1 at *
      generalize solidB x.u.data.toList = b2 at *
      generalize statB x = sb at *
      clear hb1 hM hNN hx hzx HX
      by_cases h5 : x.kind = 5
      · have e5 : (x.kind == 5) = true := by rw [h5]; rfl
        rw [if_pos (by omega)] at HSB
        cases b1 with
        | false =>
          have HT : Hid (T.all statB = false) := Lib.hid (HNO.out HSB.out)
          clear HNO HTK HSB h5
          go_wp2_with fail
          refine (H1.out _).mono ?_
          rintro E w2 ⟨rfl, rfl⟩
          go_wp2_with fail
          go_ret
          rw [HT.out]
          exact Makes.mk rfl HB1.out
        | true =>
          cases b2 with
          | false =>
            have HT : Hid (T.all statB = false) := Lib.hid (HNO.out HSB.out)
            clear HNO HTK HSB h5
            go_wp2_with fail
            refine (H1.out _).mono ?_
            rintro E w2 ⟨rfl, rfl⟩
            go_wp2_with fail
            refine (H2.out _).mono ?_
            rintro E w2 ⟨rfl, rfl⟩
            go_wp2_with fail
            go_ret
            rw [HT.out]
            exact Makes.mk rfl HB1.out
          | true =>
            have HT : Hid ((T.take (k + 1)).all statB = true) := Lib.hid (HTK.out.trans HSB.out)
            clear HNO HTK HSB h5
            go_wp2_with fail
            refine (H1.out _).mono ?_
            rintro E w2 ⟨rfl, rfl⟩
            go_wp2_with fail
            refine (H2.out _).mono ?_
            rintro E w2 ⟨rfl, rfl⟩
            go_wp2_with fail
            go_roundw
            case rel => exact ⟨k + 1, by omega, by go_num, HT, HB1⟩
            case measure => simp [intOf]; omega
      have e5 : (x.kind == 5) = false := beq_eq_false_iff_ne.2 h5
      by_cases h6 : x.kind = 6
      · have e6 : (x.kind == 6) = true := by rw [h6]; rfl
        rw [if_pos (by omega)] at HSB
        cases b1 with
        | false =>
          have HT : Hid (T.all statB = false) := Lib.hid (HNO.out HSB.out)
          clear HNO HTK HSB h5 h6
          go_wp2_with fail
          refine (H1.out _).mono ?_
          rintro E w2 ⟨rfl, rfl⟩
          go_wp2_with fail
          go_ret
          rw [HT.out]
          exact Makes.mk rfl HB1.out
        | true =>
          cases b2 with
          | false =>
            have HT : Hid (T.all statB = false) := Lib.hid (HNO.out HSB.out)
            clear HNO HTK HSB h5 h6
            go_wp2_with fail
            refine (H1.out _).mono ?_
            rintro E w2 ⟨rfl, rfl⟩
            go_wp2_with fail
            refine (H2.out _).mono ?_
            rintro E w2 ⟨rfl, rfl⟩
            go_wp2_with fail
            go_ret
            rw [HT.out]
            exact Makes.mk rfl HB1.out
          | true =>
            have HT : Hid ((T.take (k + 1)).all statB = true) := Lib.hid (HTK.out.trans HSB.out)
            clear HNO HTK HSB h5 h6
            go_wp2_with fail
            refine (H1.out _).mono ?_
            rintro E w2 ⟨rfl, rfl⟩
            go_wp2_with fail
            refine (H2.out _).mono ?_
            rintro E w2 ⟨rfl, rfl⟩
            go_wp2_with fail
            go_roundw
            case rel => exact ⟨k + 1, by omega, by go_num, HT, HB1⟩
            case measure => simp [intOf]; omega
      have e6 : (x.kind == 6) = false := beq_eq_false_iff_ne.2 h6
      by_cases h8 : x.kind = 8
      · have e8 : (x.kind == 8) = true := by rw [h8]; rfl
        have h29 : True := trivial
        rw [if_neg (by omega), if_pos (by omega)] at HSB
        cases b1 with
        | false =>
          have HT : Hid (T.all statB = false) := Lib.hid (HNO.out HSB.out)
          clear HNO HTK HSB h5 h6 h8 h29
          go_wp2_with fail
          refine (H1.out _).mono ?_
          rintro E w2 ⟨rfl, rfl⟩
          go_wp2_with fail
          go_ret
          rw [HT.out]
          exact Makes.mk rfl HB1.out
        | true =>
          have HT : Hid ((T.take (k + 1)).all statB = true) := Lib.hid (HTK.out.trans HSB.out)
          clear HNO HTK HSB h5 h6 h8 h29
          go_wp2_with fail
          refine (H1.out _).mono ?_
          rintro E w2 ⟨rfl, rfl⟩
          go_wp2_with fail
          go_roundw
          case rel => exact ⟨k + 1, by omega, by go_num, HT, HB1⟩
          case measure => simp [intOf]; omega
      have e8 : (x.kind == 8) = false := beq_eq_false_iff_ne.2 h8
      by_cases h29 : x.kind = 29
      · have e29 : (x.kind == 29) = true := by rw [h29]; rfl
        rw [if_neg (by omega), if_pos (by omega)] at HSB
        cases b1 with
        | false =>
          have HT : Hid (T.all statB = false) := Lib.hid (HNO.out HSB.out)
          clear HNO HTK HSB h5 h6 h8 h29
          go_wp2_with fail
          refine (H1.out _).mono ?_
          rintro E w2 ⟨rfl, rfl⟩
          go_wp2_with fail
          go_ret
          rw [HT.out]
          exact Makes.mk rfl HB1.out
        | true =>
          have HT : Hid ((T.take (k + 1)).all statB = true) := Lib.hid (HTK.out.trans HSB.out)
          clear HNO HTK HSB h5 h6 h8 h29
          go_wp2_with fail
          refine (H1.out _).mono ?_
          rintro E w2 ⟨rfl, rfl⟩
          go_wp2_with fail
          go_roundw
          case rel => exact ⟨k + 1, by omega, by go_num, HT, HB1⟩
          case measure => simp [intOf]; omega
      have e29 : (x.kind == 29) = false := beq_eq_false_iff_ne.2 h29
      rw [if_neg (by omega), if_neg (by omega)] at HSB
      by_cases h21 : x.kind = 21
      · have e21 : (x.kind == 21) = true := by rw [h21]; rfl
        rw [if_pos h21] at HSB
        by_cases h0 : x.kids = 0
        · have k0 : (x.kids == 0) = true := by rw [h0]; rfl
          have HT : Hid (T.all statB = false) := Lib.hid (HNO.out (HSB.out.trans (decide_eq_false (fun h => h h0))))
          clear HNO HTK HSB h5 h6 h8 h29 h21 h0
          go_wp2_with fail
          go_ret
          rw [HT.out]
          exact Makes.mk rfl HB1.out
        · have k0 : (x.kids == 0) = false := beq_eq_false_iff_ne.2 h0
          have HT : Hid ((T.take (k + 1)).all statB = true) := Lib.hid (HTK.out.trans (HSB.out.trans (decide_eq_true h0)))
          clear HNO HTK HSB h5 h6 h8 h29 h21 h0
          go_wp2_with fail
          go_roundw
          case rel => exact ⟨k + 1, by omega, by go_num, HT, HB1⟩
          case measure => simp [intOf]; omega
      · have e21 : (x.kind == 21) = false := beq_eq_false_iff_ne.2 h21
        rw [if_neg h21] at HSB
        have HT : Hid ((T.take (k + 1)).all statB = true) := Lib.hid (HTK.out.trans HSB.out)
        clear HNO HTK HSB h5 h6 h8 h29 h21
        go_wp2_with fail
        go_roundw
        case rel => exact ⟨k + 1, by omega, by go_num, HT, HB1⟩
        case measure => simp [intOf]; omega
    · have HR : Hid (T.all statB = true) := Lib.hid (by
        have := HA.out
        rw [List.take_of_length_le (by omega)] at this
        exact this)
      clear HA
      go_wp2_with fail
      go_ret
      rw [HR.out]
      exact Makes.mk rfl HB.out
set_option maxHeartbeats 800000 in
theorem rParts_any (t : Ty) (ht : t.fits) (w : World) :
    Calls Tryz.prog 108 #[.string t.str] w (PartsRes t.kids w) := by
  have hsz : t.str.size ≤ 64 := by rw [str_size]; exact ht
  have hse : Hid (t.str.size = 1 + (Ty.encs t.kids).length) := by rw [Hid, str_size, enc_kids]; simp; omega
  go_enter Tryz.func108, Tryz.ntmps108
  go_wp2
  go_loopw [3, 4] (fun v a wr => ∃ (d r : List Ty) (k : Nat), Hid (t.kids = d ++ r) ∧ k ≤ t.str.size ∧ Hid (k = 1 + (Ty.encs d).length) ∧ a = .int .i64 k ∧ wr.ownsRow w.heap.size 9 1 v d.length (strs d) ∧ Below w.heap.size w wr) (fun _ a _ => t.str.size - (intOf a).toNat)
  case atStart => exact ⟨[], t.kids, 1, rfl, by have := hse.out; omega, rfl, rfl, World.ownsRow_nil _ _ _ _, Below.refl _ _⟩
  case round =>
    obtain ⟨d, r, k, hk, hks, hke, rfl, hown, hbel⟩ := hrel
    rcases r with _ | ⟨c, r⟩
    · have hlt : ¬ k < t.str.size := by have h1 := hse.out; have h2 := hke.out; have h3 := hk.out; simp at h3; rw [h3] at h1; omega
      have X : Hid (t.kids = d) := Lib.hid (by have := hk.out; simpa using this)
      clear hse hk hke
      go_wp2
      go_ret
      exact ⟨_, rfl, by rw [X.out]; exact hown, hbel⟩
    · obtain ⟨h1, h2, h3, h4⟩ := part_at hk.out
      generalize hj : 1 + (Ty.encs (d ++ [c])).length = j at h1 h2 h3 h4
      have hjk : k < j := by have := hke.out; omega
      have hlt : k < t.str.size := by omega
      rw [← hke.out] at h1 h2
      have HE := Lib.hid (end_some h3 h1)
      have H2 := Lib.hid h2
      have HJ := Lib.hid hj
      have hdl : d.length ≤ 64 := by
        have h5 : ∀ l : List Ty, l.length ≤ (Ty.encs l).length := fun l => by
          induction l with
          | nil => simp
          | cons x l ih => rw [encs_cons]; have := x.enc_pos; simp; omega
        have := h5 d; have := hke.out; omega
      have HT := Lib.hid (TypeEnd_any t.str k wr hks (by omega))
      rw [HE.out] at HT
      clear h1 h2 hj h4
      go_wp2_with fail
      refine HT.out.mono ?_
      rintro e w' ⟨rfl, rfl⟩
      clear HT HE
      go_wp2_with (at_builtin; refine append_one rfl (.tmp 13) (.tmp 18) 110 9 rfl w.heap.size _ 16 Tryz.underlying110 string_info rfl _ _ _ rfl hown _ rfl rfl ?_ ?_ ?_ ?_)
      · omega
      · omega
      · exact hbel.size
      · intro v' w' hown' hg hb'
        rw [H2.out] at hown'
        have hb2 := hbel.trans hb'
        clear hown hbel hg hb'
        have hown2 : w'.ownsRow w.heap.size 9 1 v' (d ++ [c]).length (strs (d ++ [c])) := by simpa [strs] using hown'
        clear hown'
        go_wp2
        go_roundw
        case rel => exact ⟨d ++ [c], r, j, by have := hk.out; rw [Hid, this]; simp, by omega, HJ.out.symm, rfl, hown2, hb2⟩
        case measure => simp [intOf]; omega

theorem rKnown_any (t : ByteArray) (w : World) : Calls Tryz.prog 79 #[.string t] w (Gives (.string (known t)) w) := by
  have e1 := eq_no t
  have HK : Hid (known t = if t = no then dynB else t) := Lib.hid rfl
  by_cases h : t = no
  · rw [decide_eq_true h] at e1
    have HR : Hid (known t = { data := #[63] }) := Lib.hid (by rw [HK.out, if_pos h]; rfl)
    clear h HK
    go_enter Tryz.func79, Tryz.ntmps79
    go_wp2_with fail
    go_ret
    exact Gives.mk (by rw [HR.out]; rfl)
  · rw [decide_eq_false h] at e1
    have HR : Hid (known t = t) := Lib.hid (by rw [HK.out, if_neg h])
    clear h HK
    go_enter Tryz.func79, Tryz.ntmps79
    go_wp2_with fail
    go_ret
    exact Gives.mk (by rw [HR.out]; rfl)
def PrecAt (n : Nat) : Prop := ∀ (s t : Ty) (w : World), s.fits → t.fits → s.sz ≤ n → Calls Tryz.prog 78 #[.string s.str, .string t.str] w (Makes (.bool (prec s t)) w)
set_option maxRecDepth 100000 in
set_option maxHeartbeats 1600000 in
theorem prec_step {n : Nat} (ih : PrecAt n) : PrecAt (n + 1) := by
  intro s t w hs ht hn
  have hps : 0 < s.str.size := by rw [str_size]; exact s.enc_pos
  have hpt : 0 < t.str.size := by rw [str_size]; exact t.enc_pos
  by_cases h2 : t = .dyn
  · subst h2
    have q' := str_isdyn
    have HR : Hid (prec s .dyn = true) := Lib.hid (by cases s <;> rfl)
    go_enter Tryz.func78, Tryz.ntmps78
    go_wp2_with fail
    go_ret
    exact Makes.mk (bool_congr HR.out.symm) (Below.refl _ _)
  · have q' := str_dyn h2
    have e1 := str_get s hps
    have e2 := str_get t hpt
    have hh := hd_ne s t
    by_cases h3 : s.hd = t.hd
    · rw [decide_eq_true h3, Bool.not_true] at hh
      have hlen := kids_same h3
      have hsame := Lib.hid (prec_same h3)
      have HL := Lib.hid hlen
      clear h2 h3 hlen
      go_enter Tryz.func78, Tryz.ntmps78
      go_wp2_with fail
      go_quiet (fail)
      go_wp2_with fail
      refine (rParts_any s hs _).mono ?_
      rintro e w2 ⟨v1, rfl, ho1, hb2⟩
      have HB2 := Lib.hid (below_later hb2 (below_dn _ _))
      obtain ⟨A1, c1, rfl, -, hc1⟩ := own_form ho1
      go_wp2_with fail
      refine (rParts_any t ht _).mono ?_
      rintro e w3 ⟨v2, rfl, ho2, hb3⟩
      have HB3 := Lib.hid (below_later hb3 HB2.out)
      obtain ⟨A2, c2, rfl, -, hc2⟩ := own_form ho2
      have hc1' : 0 < s.kids.length → ∃ g, A1 = some ⟨g, 0, none⟩ ∧ ∀ j (h : j < s.kids.length), w3.cell? ⟨g, j, none⟩ = some (.string (s.kids[j]).str) := fun h => by
        obtain ⟨g, e, _, hc⟩ := hc1 h
        exact ⟨g, e, fun j hj => cell_later hb3 (hc j _ (by simp [strs, hj]))⟩
      have hc2' : 0 < t.kids.length → ∃ g, A2 = some ⟨g, 0, none⟩ ∧ ∀ j (h : j < t.kids.length), w3.cell? ⟨g, j, none⟩ = some (.string (t.kids[j]).str) := fun h => by
        obtain ⟨g, e, _, hc⟩ := hc2 h
        exact ⟨g, e, fun j hj => hc j _ (by simp [strs, hj])⟩
      have hk2 : s.kids.length ≤ 2 := by cases s <;> simp [Ty.kids]
      have HC1 := Lib.hid hc1'
      have HC2 := Lib.hid hc2'
      clear ho1 ho2 hc1 hc2 hc1' hc2' hb2 hb3 hh e1 e2 q'
      go_wp2_with fail
      go_loopw [7] (fun i wr => ∃ k : Nat, k ≤ s.kids.length ∧ i = .int .i64 k ∧ Hid (prec s t = allK prec (s.kids.drop k) (t.kids.drop k)) ∧ Hid (Below w3.heap.size w3 wr)) (fun i _ => s.kids.length - (intOf i).toNat)
      case atStart => exact ⟨0, by omega, rfl, hsame, Lib.hid (Below.refl _ _)⟩
      case round =>
        obtain ⟨k, hk, rfl, H, HB⟩ := hrel
        by_cases hlt : k < s.kids.length
        · have hkt : k < t.kids.length := by rw [← HL.out]; exact hlt
          obtain ⟨g1, rfl, hg1⟩ := HC1.out (by omega)
          obtain ⟨g2, rfl, hg2⟩ := HC2.out (by have := HL.out; omega)
          have q1 := hg1 k hlt
          have q2 := hg2 k hkt
          have fa := fits_sub hs (List.getElem_mem hlt)
          have fb := fits_sub ht (List.getElem_mem hkt)
          have sz := kids_sz (List.getElem_mem hlt)
          have st := allK_step prec s.kids t.kids k hlt hkt
          have i2 : (k : Int) < (t.kids.length : Int) := by have := HL.out; omega
          generalize s.kids[k] = a at q1 fa sz st
          generalize t.kids[k] = b at q2 fb st
          have r1 : wr.drew.cell? ⟨g1, k, none⟩ = some (.string a.str) := cell_later HB.out.drew q1
          have r2 : wr.drew.cell? ⟨g2, k, none⟩ = some (.string b.str) := cell_later HB.out.drew q2
          have X := Lib.hid (H.out.trans st)
          have HBD := Lib.hid HB.out.drew
          have HIH := Lib.hid (ih a b wr.drew fa fb (by omega))
          clear q1 q2 hg1 hg2 st H hkt HB
          obtain ⟨z, HF⟩ : ∃ z, Hid (prec a b = z) := ⟨_, Lib.hid rfl⟩
          go_wp2_with fail
          refine wp_region_plan (S := fun w' => w'.cell? ⟨g1, k, none⟩ = some (.string a.str) ∧ w'.cell? ⟨g2, k, none⟩ = some (.string b.str)) [(0, true), (1, true), (2, true), (3, true), (4, true), (5, true), (6, true), (7, true), (8, false), (9, true)] (by kernel_rfl) (by kernel_rfl) (by kernel_rfl) (fun _ _ _ _ _ h => h) ⟨r1, r2⟩ ?_
          intro HSS
          repeat (first | (apply wpPlan_look; rfl; rfl; (intro wq hq; (try dsimp only at hq); go_split_ands; go_simp; (try rw [if_neg (by omega)]); (try rw [if_pos (by omega)]); try with_reducible rfl); simp only [Act.put, List.setIfInBounds_toArray, List.set_cons_zero, List.set_cons_succ]) | (apply wpPlan_skip; rfl; rfl; simp only [Act.put, List.setIfInBounds_toArray, List.set_cons_zero, List.set_cons_succ]) | (apply wpPlan_pass; rfl; rfl; assumption; simp only [Act.put, List.setIfInBounds_toArray, List.set_cons_zero, List.set_cons_succ]))
          apply wpPlan_call; rfl; rfl; rfl; rfl; kernel_rfl; exact HIH.out; rfl; rintro e w4 ⟨rfl, hb4⟩
          refine ⟨_, rfl, ⟨cell_later hb4 r1, cell_later hb4 r2⟩, ?_⟩
          rw [HF.out]
          simp only [Act.put, List.setIfInBounds_toArray, List.set_cons_zero, List.set_cons_succ]
          repeat (first | (apply wpPlan_look; rfl; rfl; (intro wq hq; (try dsimp only at hq); go_split_ands; go_simp; (try rw [if_neg (by omega)]); (try rw [if_pos (by omega)]); try with_reducible rfl); simp only [Act.put, List.setIfInBounds_toArray, List.set_cons_zero, List.set_cons_succ]) | (apply wpPlan_skip; rfl; rfl; simp only [Act.put, List.setIfInBounds_toArray, List.set_cons_zero, List.set_cons_succ]) | (apply wpPlan_pass; rfl; rfl; assumption; simp only [Act.put, List.setIfInBounds_toArray, List.set_cons_zero, List.set_cons_succ]))
          apply wpPlan_done
          have HB4 := Lib.hid (below_later hb4 HBD.out)
          clear hb4 HSS r1 r2 HIH HBD
          cases z with
          | false =>
            have HR : Hid (prec s t = false) := Lib.hid (by rw [X.out, HF.out]; rfl)
            go_wp2_with fail
            go_ret
            exact Makes.mk (bool_congr HR.out.symm) (below_later HB4.out HB3.out)
          | true =>
            have HR : Hid (prec s t = allK prec (s.kids.drop (k + 1)) (t.kids.drop (k + 1))) := Lib.hid (by rw [X.out, HF.out, Bool.true_and])
            go_wp2_with fail
            go_roundw
            case rel => exact ⟨k + 1, by omega, by go_num, HR, HB4⟩
            case measure => simp [intOf]; omega
        · have X : Hid (prec s t = true) := Lib.hid (H.out.trans (allK_end _ _ _ _ (by omega)))
          clear H
          go_wp2_with fail
          go_ret
          exact Makes.mk (bool_congr X.out.symm) (below_later HB.out HB3.out)
    · rw [decide_eq_false h3, Bool.not_false] at hh
      have HR : Hid (prec s t = false) := Lib.hid (prec_head h2 h3)
      clear h2 h3
      go_enter Tryz.func78, Tryz.ntmps78
      go_wp2_with fail
      go_quiet (fail)
      go_wp2_with fail
      go_ret
      exact Makes.mk (bool_congr HR.out.symm) (below_dn _ _)
theorem prec_all : ∀ n, PrecAt n
  | 0 => fun s _ _ _ _ h => by have := s.sz_pos; omega
  | n + 1 => prec_step (prec_all n)
theorem rPrecise_any (s t : Ty) (hs : s.fits) (ht : t.fits) (w : World) : Calls Tryz.prog 78 #[.string s.str, .string t.str] w (Makes (.bool (prec s t)) w) := prec_all _ s t w hs ht (Nat.le_refl _)
end Go.Proofs.YtidholghbjljaaaGreatDoor
