
/- The statements of check: annotations that are looser. -/
import Derived.Test.YtdobaililmkkcaaDoorLb
import Derived.Test.YtdobaililmkkcaaDoorKd
namespace Go.Proofs.YtdobaililmkkcaaDoor
set_option linter.unusedSimpArgs false
set_option linter.unusedVariables false
open Go.RowKit Go.Maps Culp
set_option maxHeartbeats 800000 in
theorem Precise_no (s : Ty) (t : ByteArray) (hs : s.fits) (ht : isTy t.data.toList = false) (w : World) : Calls Tryd.prog 11 #[.string s.str, .string t] w (Makes (.bool false) w) := by
  have S1 : Hid (isTy s.str.data.toList = true) := by rw [Hid, str_list]; exact isTy_enc s hs
  have T1 : Hid (isTy t.data.toList = false) := Lib.hid ht
  clear ht
  go_enter Tryd.func11, Tryd.ntmps11
  go_wp2_with fail
  go_enter Tryd.func22, Tryd.ntmps22
  go_wp2_with fail
  refine (ris_any _ _).mono ?_
  rw [S1.out]
  rintro e w' ⟨rfl, rfl⟩
  go_wp2_with fail
  refine (ris_any _ _).mono ?_
  rw [T1.out]
  rintro e w' ⟨rfl, rfl⟩
  go_wp2_with fail
  go_ret
  exact Makes.mk rfl (((Below.refl w.heap.size w).alloc (Nat.le_refl _) _).alloc (by simp) _)
theorem note_any (t : ByteArray) : Tr.noteT t = .dyn ∨ ∃ T : Ty, t = T.str ∧ T.fits ∧ Tr.noteT t = T := by
  unfold Tr.noteT
  by_cases h0 : t.size = 0
  · rw [if_pos h0]; exact .inl rfl
  · rw [if_neg h0]
    cases h : isTy t.data.toList with
    | false =>
      left
      unfold tyOf
      rw [h]; rfl
    | true =>
      obtain ⟨T, rfl, hT⟩ := ty_of t h
      exact .inr ⟨T, rfl, hT, by rw [tyOf_str T hT]; rfl⟩
/-- Precise, of a type and any text. -/
theorem Precise_some (s : Ty) (t : ByteArray) (hs : s.fits) (w : World) : Calls Tryd.prog 11 #[.string s.str, .string t] w (fun E w' => ∃ b : Bool, E = .returned (.bool b) ∧ Below w.heap.size w w' ∧ (b = true → ∃ T : Ty, t = T.str ∧ T.fits ∧ prec s T = true)) := by
  cases h : isTy t.data.toList with
  | false => exact (Precise_no s t hs h w).mono fun E w' hr => ⟨false, hr.1, hr.2, fun h => by cases h⟩
  | true =>
    obtain ⟨T, rfl, hT⟩ := ty_of t h
    exact (Precise_any s T hs hT w).mono fun E w' hr => ⟨_, hr.1, hr.2, fun hb => ⟨T, rfl, hT, hb⟩⟩
theorem prec_any (t : Ty) : prec t .dyn = true := by cases t <;> rfl
/-- Is an annotation looser? -/
def LooserRes (s t : ByteArray) (w : World) (E : Ending) (w' : World) : Prop := ∃ b : Bool, E = .returned (.bool b) ∧ Below w.heap.size w w' ∧ (b = true → prec (Tr.noteT s) (Tr.noteT t) = true)
set_option maxHeartbeats 1600000 in
theorem looser_any (s t : ByteArray) (hs : NoteOk s) (w : World) : Calls Tryd.prog 21 #[.string s, .string t] w (LooserRes s t w) := by
  by_cases ht0 : t.size = 0
  · have q := empty_list ht0
    have HR : Hid (prec (Tr.noteT s) (Tr.noteT t) = true) := Lib.hid (by rw [show Tr.noteT t = .dyn by unfold Tr.noteT; rw [if_pos ht0]]; exact prec_any _)
    clear ht0 hs
    go_enter Tryd.func21, Tryd.ntmps21
    go_wp2_with fail
    go_ret
    exact ⟨true, rfl, Below.refl _ _, fun _ => HR.out⟩
  · have q := some_list ht0
    by_cases hst : t = s
    · subst hst
      have HR : Hid (prec (Tr.noteT t) (Tr.noteT t) = true) := Lib.hid (prec_refl _)
      have q2 : (t.toList == t.toList) = true := beq_self_eq_true _
      clear ht0 hs
      go_enter Tryd.func21, Tryd.ntmps21
      go_wp2_with fail
      go_ret
      exact ⟨true, rfl, Below.refl _ _, fun _ => HR.out⟩
    · have q2 : (t.toList == s.toList) = false := beq_eq_false_iff_ne.2 (by rw [toL', toL']; exact fun h => hst (str_inj' h))
      by_cases hs0 : s.size = 0
      · have q3 := empty_list hs0
        have HN : Hid (Tr.noteT s = .dyn) := Lib.hid (by unfold Tr.noteT; rw [if_pos hs0])
        by_cases hd : t = Ty.dyn.str
        · subst hd
          have HR : Hid (prec (Tr.noteT s) (Tr.noteT Ty.dyn.str) = true) := Lib.hid (by rw [HN.out]; rfl)
          have q4 := str_isdyn
          clear ht0 hs hst hs0
          go_enter Tryd.func21, Tryd.ntmps21
          go_wp2_with fail
          go_ret
          exact ⟨true, rfl, Below.refl _ _, fun _ => HR.out⟩
        · have q4 : (t.toList == [63]) = false := beq_eq_false_iff_ne.2 (by rw [toL']; exact fun h => hd (str_inj' h))
          clear ht0 hs hst hs0 hd
          go_enter Tryd.func21, Tryd.ntmps21
          go_wp2_with fail
          go_ret
          exact ⟨false, rfl, Below.refl _ _, fun h => by cases h⟩
      · have q3 := some_list hs0
        obtain ⟨S, rfl, hS, hNS⟩ := hs hs0
        have HP := Lib.hid (Precise_some S t hS)
        have HN := Lib.hid hNS
        clear ht0 hs hst hs0 hNS
        go_enter Tryd.func21, Tryd.ntmps21
        go_wp2_with fail
        refine (HP.out _).mono ?_
        rintro E w1 ⟨bb, rfl, hb1, hr⟩
        have HB1 := Lib.hid hb1
        have HR : Hid (bb = true → prec (Tr.noteT S.str) (Tr.noteT t) = true) := Lib.hid (fun h => by
          obtain ⟨T, rfl, hT, hp⟩ := hr h
          rw [HN.out, show Tr.noteT T.str = T by unfold Tr.noteT; rw [if_neg (by rw [str_size]; have := T.enc_pos; omega), tyOf_str T hT]; rfl]
          exact hp)
        clear hb1 hr HP
        cases bb with
        | true =>
          go_wp2_with fail
          go_ret
          exact ⟨true, rfl, HB1.out, fun _ => HR.out trivial⟩
        | false =>
          go_wp2_with fail
          go_ret
          exact ⟨false, rfl, HB1.out, fun h => by cases h⟩
end Go.Proofs.YtdobaililmkkcaaDoor

/- The statements of check: a tree with looser annotations. -/
namespace Culp.Tr
set_option linter.unusedSimpArgs false
set_option linter.unusedVariables false
/-- The same tree, but for looser annotations. -/
def LooseAll (T U : List Nd) : Prop := T.length = U.length ∧ ∀ (i : Nat) x y, T[i]? = some x → U[i]? = some y → Loose x y
end Culp.Tr
namespace Go.Proofs.YtdobaililmkkcaaDoor
set_option linter.unusedSimpArgs false
set_option linter.unusedVariables false
open Go.RowKit Go.Maps Culp
theorem toL_inj' (a b : ByteArray) : a.toList = b.toList ↔ a = b := ⟨fun h => str_inj' (by rw [← toL', ← toL']; exact h), fun h => by rw [h]⟩
theorem box_free {g : Nat} {x : Nd} {w : World} (h : Box g x w) {i : Nat} (hi : i < 8) : w.frozen? ⟨g, i, none⟩ = false := by
  unfold Box at h
  have hl : x.cells.toArray.size = 8 := rfl
  simp [World.frozen?, h]
def LooseRes (T U : List Nd) (w : World) (E : Ending) (w' : World) : Prop := ∃ b : Bool, E = .returned (.bool b) ∧ Below w.heap.size w w' ∧ (b = true → Tr.LooseAll T U)
theorem note_of_may {x : Nd} (h : Tr.may x = true) : NoteOk x.t ∧ NoteOk x.u := by
  have hz : ∀ s : ByteArray, s.data.toList = [] → NoteOk s := fun s hs h0 => absurd (by
    have e : s.data.toList.length = s.size := by rw [Array.length_toList]; rfl
    rw [hs] at e
    exact e.symm) h0
  obtain ⟨m1, m2, m3⟩ := may_note h
  unfold Tr.may at h
  simp only [Bool.and_eq_true] at h
  obtain ⟨⟨⟨_, _⟩, h1⟩, h2⟩ := h
  constructor
  · by_cases hk : x.kind = 5 ∨ x.kind = 6 ∨ x.kind = 8
    · exact m1 hk
    · by_cases h29 : x.kind = 29
      · obtain ⟨T, e1, e2, e3⟩ := m3 h29
        exact fun _ => ⟨T, e1, e2, e3⟩
      · unfold Tr.tOk at h1
        rw [if_neg hk, if_neg h29] at h1
        exact hz _ (by simpa using h1)
  · by_cases hk : x.kind = 5 ∨ x.kind = 6
    · exact m2 hk
    · unfold Tr.uOk at h2
      rw [if_neg hk] at h2
      exact hz _ (by simpa using h2)
set_option maxRecDepth 100000 in
set_option maxHeartbeats 6400000 in
theorem looserTree_any (T U : List Nd) (tv uv : Value) (w : World) (hn : Nodes w tv T) (hu : Nodes w uv U) (hT : T.length ≤ 1000000) (hm : ∀ x ∈ T, Tr.may x = true) :
    Calls Tryd.prog 10 #[tv, uv] w (LooseRes T U w) := by
  have HN := Lib.hid hn
  have HU := Lib.hid hu
  have HM := Lib.hid hm
  obtain ⟨A, c, rfl, hlc, _⟩ := hn
  obtain ⟨B, d, rfl, hld, _⟩ := hu
  by_cases hl : T.length = U.length
  rotate_left
  · have el : (((T.length : Nat) : Int) != ((U.length : Nat) : Int)) = true := by rw [bne, beq_eq_false_iff_ne.2 (by omega)]; rfl
    clear hl hm
    go_enter Tryd.func10, Tryd.ntmps10
    go_wp2_with fail
    go_ret
    exact ⟨false, rfl, Below.refl _ _, fun h => by cases h⟩
  have el : (((T.length : Nat) : Int) != ((U.length : Nat) : Int)) = false := by rw [hl]; simp
  have HL := Lib.hid hl
  clear hl hm
  go_enter Tryd.func10, Tryd.ntmps10
  go_wp2_with fail
  go_loopw [5] (fun i wr => ∃ k : Nat, k ≤ T.length ∧ i = .int .i64 k ∧ Hid (∀ (i : Nat) x y, i < k → T[i]? = some x → U[i]? = some y → Tr.Loose x y) ∧ Hid (Below w.heap.size w wr)) (fun i _ => T.length - (intOf i).toNat)
  case atStart => exact ⟨0, Nat.zero_le _, by go_num, Lib.hid (fun i x y h => by omega), Lib.hid (Below.refl _ _)⟩
  case round =>
    obtain ⟨k, hk, rfl, HI, HB⟩ := hrel
    by_cases hlt : k < T.length
    · have hltu : k < U.length := by have := HL.out; omega
      obtain ⟨A2, c2, e2, _, hN⟩ := HN.out.later HB.out
      simp only [Value.slice.injEq] at e2
      obtain ⟨rfl, _, rfl⟩ := e2
      obtain ⟨b, off, rfl, hM⟩ := hN (by omega)
      obtain ⟨B2, d2, e3, _, hN2⟩ := HU.out.later HB.out
      simp only [Value.slice.injEq] at e3
      obtain ⟨rfl, _, rfl⟩ := e3
      obtain ⟨b2, off2, rfl, hM2⟩ := hN2 (by omega)
      have hx : T[k]? = some T[k] := List.getElem?_eq_getElem hlt
      have hy : U[k]? = some U[k] := List.getElem?_eq_getElem hltu
      have HX := Lib.hid hx
      have HY := Lib.hid hy
      have HMX := Lib.hid (HM.out _ (List.getElem_mem hlt))
      obtain ⟨n0, n1, n2, n3, n4, n5, n6, n7⟩ := hM.at_ hx
      obtain ⟨q0, q1, q2, q3, q4, q5, q6, q7⟩ := hM2.at_ hy
      generalize T[k] = x at *
      generalize U[k] = y at *
      clear hx hy hN hM hN2 hM2
      have hb2 : Below wr.heap.size wr (wr.alloc (.cells #[.int .i8 x.kind, .int .i64 x.kids, .int .i64 x.n, .string x.s, .string x.t, .string x.u, .int .i64 x.line, .int .i64 x.col] 32)) := (Below.refl _ _).alloc (Nat.le_refl _) _
      have p0 := cell_later hb2 q0
      have p1 := cell_later hb2 q1
      have p2 := cell_later hb2 q2
      have p3 := cell_later hb2 q3
      have p4 := cell_later hb2 q4
      have p5 := cell_later hb2 q5
      have p6 := cell_later hb2 q6
      have p7 := cell_later hb2 q7
      clear q0 q1 q2 q3 q4 q5 q6 q7 hb2
      go_wp2_with fail
      have hmn := note_of_may HMX.out
      have HLT := Lib.hid (looser_any x.t y.t hmn.1)
      have HLU := Lib.hid (looser_any x.u y.u hmn.2)
      have hbw : Below wr.heap.size wr ((wr.alloc (.cells #[.int .i8 x.kind, .int .i64 x.kids, .int .i64 x.n, .string x.s, .string x.t, .string x.u, .int .i64 x.line, .int .i64 x.col] 32)).alloc (.cells #[.int .i8 y.kind, .int .i64 y.kids, .int .i64 y.n, .string y.s, .string y.t, .string y.u, .int .i64 y.line, .int .i64 y.col] 32)) := ((Below.refl _ _).alloc (Nat.le_refl _) _).alloc (by simp) _
      have HBX : Hid (Box wr.heap.size x ((wr.alloc (.cells #[.int .i8 x.kind, .int .i64 x.kids, .int .i64 x.n, .string x.s, .string x.t, .string x.u, .int .i64 x.line, .int .i64 x.col] 32)).alloc (.cells #[.int .i8 y.kind, .int .i64 y.kids, .int .i64 y.n, .string y.s, .string y.t, .string y.u, .int .i64 y.line, .int .i64 y.col] 32))) := Lib.hid ((box_alloc wr x).later ((Below.refl _ _).alloc (Nat.le_refl _) _))
      have HBY : Hid (Box (wr.heap.size + 1) y ((wr.alloc (.cells #[.int .i8 x.kind, .int .i64 x.kids, .int .i64 x.n, .string x.s, .string x.t, .string x.u, .int .i64 x.line, .int .i64 x.col] 32)).alloc (.cells #[.int .i8 y.kind, .int .i64 y.kids, .int .i64 y.n, .string y.s, .string y.t, .string y.u, .int .i64 y.line, .int .i64 y.col] 32))) := Lib.hid (by
        have := box_alloc (wr.alloc (.cells #[.int .i8 x.kind, .int .i64 x.kids, .int .i64 x.n, .string x.s, .string x.t, .string x.u, .int .i64 x.line, .int .i64 x.col] 32)) y
        rw [show (wr.alloc (.cells #[.int .i8 x.kind, .int .i64 x.kids, .int .i64 x.n, .string x.s, .string x.t, .string x.u, .int .i64 x.line, .int .i64 x.col] 32)).heap.size = wr.heap.size + 1 by simp] at this
        exact this)
      have HB2 := Lib.hid (below_later hbw HB.out)
      have HWS : Hid (w.heap.size ≤ wr.heap.size) := Lib.hid HB.out.size
      clear hmn hbw HB p0 p1 p2 p3 p4 p5 p6 p7 n0 n1 n2 n3 n4 n5 n6 n7 HMX
      generalize (wr.alloc (.cells #[.int .i8 x.kind, .int .i64 x.kids, .int .i64 x.n, .string x.s, .string x.t, .string x.u, .int .i64 x.line, .int .i64 x.col] 32)).alloc (.cells #[.int .i8 y.kind, .int .i64 y.kids, .int .i64 y.n, .string y.s, .string y.t, .string y.u, .int .i64 y.line, .int .i64 y.col] 32) = w2 at *
      refine (HLT.out _).mono ?_
      rintro E w3 ⟨b1, rfl, hb3, hr1⟩
      have HB3 := Lib.hid (below_later hb3 HB2.out)
      have HX3 := Lib.hid (HBX.out.later hb3)
      have HY3 := Lib.hid (HBY.out.later hb3)
      have HR1 := Lib.hid hr1
      clear hb3 hr1 HBX HBY HB2 HLT
      cases b1 with
      | false =>
        go_wp2_with fail
        go_ret
        exact ⟨false, rfl, HB3.out, fun h => by cases h⟩
      | true =>
        have x5 : w3.cell? ⟨wr.heap.size, 5, none⟩ = some (.string x.u) := HX3.out.cell 5
        have y5 : w3.cell? ⟨wr.heap.size + 1, 5, none⟩ = some (.string y.u) := HY3.out.cell 5
        go_wp2_with fail
        refine (HLU.out _).mono ?_
        rintro E w4 ⟨b2', rfl, hb4, hr2⟩
        have HB4 := Lib.hid (below_later hb4 HB3.out)
        have HX4 := Lib.hid (HX3.out.later hb4)
        have HY4 := Lib.hid (HY3.out.later hb4)
        have HR2 := Lib.hid hr2
        clear hb4 hr2 HX3 HY3 HB3 HLU x5 y5
        cases b2' with
        | false =>
          go_wp2_with fail
          go_ret
          exact ⟨false, rfl, HB4.out, fun h => by cases h⟩
        | true =>
          generalize hgx : wr.heap.size = gx at *
          generalize hgy : gx + 1 = gy at *
          have hne : ¬ (gx = gy) := by omega
          have hne2 : ¬ (gy = gx) := by omega
          have x0 : w4.cell? ⟨gx, 0, none⟩ = some (.int .i8 x.kind) := HX4.out.cell 0
          have x1 : w4.cell? ⟨gx, 1, none⟩ = some (.int .i64 x.kids) := HX4.out.cell 1
          have x2 : w4.cell? ⟨gx, 2, none⟩ = some (.int .i64 x.n) := HX4.out.cell 2
          have x3 : w4.cell? ⟨gx, 3, none⟩ = some (.string x.s) := HX4.out.cell 3
          have x4 : w4.cell? ⟨gx, 4, none⟩ = some (.string x.t) := HX4.out.cell 4
          have x5 : w4.cell? ⟨gx, 5, none⟩ = some (.string x.u) := HX4.out.cell 5
          have x6 : w4.cell? ⟨gx, 6, none⟩ = some (.int .i64 x.line) := HX4.out.cell 6
          have x7 : w4.cell? ⟨gx, 7, none⟩ = some (.int .i64 x.col) := HX4.out.cell 7
          have y0 : w4.cell? ⟨gy, 0, none⟩ = some (.int .i8 y.kind) := HY4.out.cell 0
          have y1 : w4.cell? ⟨gy, 1, none⟩ = some (.int .i64 y.kids) := HY4.out.cell 1
          have y2 : w4.cell? ⟨gy, 2, none⟩ = some (.int .i64 y.n) := HY4.out.cell 2
          have y3 : w4.cell? ⟨gy, 3, none⟩ = some (.string y.s) := HY4.out.cell 3
          have y4 : w4.cell? ⟨gy, 4, none⟩ = some (.string y.t) := HY4.out.cell 4
          have y5 : w4.cell? ⟨gy, 5, none⟩ = some (.string y.u) := HY4.out.cell 5
          have y6 : w4.cell? ⟨gy, 6, none⟩ = some (.int .i64 y.line) := HY4.out.cell 6
          have y7 : w4.cell? ⟨gy, 7, none⟩ = some (.int .i64 y.col) := HY4.out.cell 7
          have fx : ∀ i, i < 8 → w4.frozen? ⟨gx, i, none⟩ = false := fun i hi => box_free HX4.out hi
          have fy : ∀ i, i < 8 → w4.frozen? ⟨gy, i, none⟩ = false := fun i hi => box_free HY4.out hi
          have fx4 := fx 4 (by decide)
          have fx5 := fx 5 (by decide)
          have fx6 := fx 6 (by decide)
          have fx7 := fx 7 (by decide)
          have fy4 := fy 4 (by decide)
          have fy5 := fy 5 (by decide)
          have hx : w.heap.size ≤ gx := HWS.out
          have hy : w.heap.size ≤ gy := by omega
          have HB5 : Hid (Below w.heap.size w ((((((w4.setCell ⟨gx, 4, none⟩ (.string { data := #[] })).setCell ⟨gx, 5, none⟩ (.string { data := #[] })).setCell ⟨gy, 4, none⟩ (.string { data := #[] })).setCell ⟨gy, 5, none⟩ (.string { data := #[] })).setCell ⟨gx, 6, none⟩ (.int .i64 y.line)).setCell ⟨gx, 7, none⟩ (.int .i64 y.col))) := Lib.hid ((((((HB4.out.setCell hx _).setCell hx _).setCell hy _).setCell hy _).setCell hx _).setCell hx _)
          clear hx hy
          clear fx fy HX4 HY4
          go_wp2_with fail
          all_goals first
            | (go_ret; exact ⟨false, rfl, HB5.out, fun h => by cases h⟩)
            | skip
          have HI2 : Hid (∀ (i : Nat) x' y', i < k + 1 → T[i]? = some x' → U[i]? = some y' → Tr.Loose x' y') := Lib.hid (fun i x' y' hi hx' hy' => by
            by_cases hik : i = k
            · subst hik
              have e1 : x = x' := by have := HX.out; rw [hx'] at this; injection this with this; exact this.symm
              have e2 : y = y' := by have := HY.out; rw [hy'] at this; injection this with this; exact this.symm
              subst e1 e2
              exact ⟨Eq.symm (by assumption), Eq.symm (by assumption), Eq.symm (by first | assumption | (exact (toL_inj' _ _).1 (by assumption))), HR1.out trivial, HR2.out trivial⟩
            · exact HI.out i x' y' (by omega) hx' hy')
          go_roundw
          case rel => exact ⟨k + 1, by omega, by go_num, HI2, HB5⟩
          case measure => simp [intOf]; omega
    · obtain rfl : k = T.length := by omega
      have HR : Hid (Tr.LooseAll T U) := Lib.hid ⟨HL.out, fun i x y hx hy => HI.out i x y (List.getElem?_eq_some_iff.1 hx).1 hx hy⟩
      clear HI
      go_wp2_with fail
      go_ret
      exact ⟨true, rfl, HB.out, fun _ => HR.out⟩
end Go.Proofs.YtdobaililmkkcaaDoor

/- The walk of the statement CheckLooser. -/
namespace Culp.Tr
set_option linter.unusedSimpArgs false
set_option linter.unusedVariables false
open Go
theorem chk_fits {same : Bool} : ∀ (f : F) (g : Nat → Env) (k p : Nat) (K : List (Nat × List Ty)), chk same f g k p = .ok K → ∀ a ∈ K, ∀ t ∈ a.2, t.fits
  | .nil, g, k, p, K, h => by
    simp only [chk, Except.ok.injEq] at h
    subst h
    simp
  | .cons x ks r, g, k, p, K, h => by
    obtain ⟨K1, t, R, _, h2, _, h4, h5, rfl⟩ := F.chk_cons h
    have i1 := chk_fits ks _ 0 (p + 1) K1 h2
    have i2 := chk_fits r g (k + 1) _ R h5
    intro a ha u hu
    rcases List.mem_cons.1 ha with rfl | ha
    · rcases List.mem_cons.1 hu with rfl | hu
      · exact h4
      · obtain ⟨l, hl, hul⟩ := List.mem_flatten.1 hu
        obtain ⟨b, hb, rfl⟩ := List.mem_map.1 hl
        exact i1 b hb u hul
    · exact i2 a ha u hu
theorem chk1_len {x : Nd} {ks : F} {E : Env} {p : Nat} {ts : List Ty} (h : chk1 false x ks E p = .ok ts) : ts.length = 1 + ks.flat.length := by
  unfold chk1 at h
  cases hc : chk false (.cons x ks .nil) (fun _ => E) 0 p with
  | error b => rw [hc] at h; cases h
  | ok K =>
    rw [hc] at h
    injection h with h
    subst h
    have := F.chk_len false _ _ _ _ K hc
    simp only [F.flat, List.append_nil, List.length_cons] at this
    omega
theorem chk1_fits {x : Nd} {ks : F} {E : Env} {p : Nat} {ts : List Ty} (h : chk1 false x ks E p = .ok ts) : ∀ t ∈ ts, t.fits := by
  unfold chk1 at h
  cases hc : chk false (.cons x ks .nil) (fun _ => E) 0 p with
  | error b => rw [hc] at h; cases h
  | ok K =>
    rw [hc] at h
    injection h with h
    subst h
    intro t ht
    obtain ⟨l, hl, hul⟩ := List.mem_flatten.1 ht
    obtain ⟨b, hb, rfl⟩ := List.mem_map.1 hl
    exact chk_fits _ _ _ _ K hc b hb t hul
/-- A looser tree in a looser environment is typed, with less precise types. -/
theorem loose_law {x0 : Nd} {k0 : F} {E E' : Env} {ts : List Ty} {T U : List Nd} (hT : T = x0 :: k0.flat) (hO : (F.cons x0 k0 .nil).Ok) (h : chk1 false x0 k0 E 0 = .ok ts) (hl : LooseAll T U) (hE : EnvR E E') :
    ∃ x' ks' ts', U = x' :: ks'.flat ∧ (F.cons x' ks' .nil).Ok ∧ chk1 false x' ks' E' 0 = .ok ts' ∧ P2 ts ts' := by
  have hf : (F.cons x0 k0 .nil).flat = T := by rw [hT]; simp [F.flat]
  obtain ⟨f', h1, h2, h3, h4, h5⟩ := FR.of (F.cons x0 k0 .nil) U hO (by rw [hf]; exact hl.1.symm) (fun i x x' hx hx' => by rw [hf] at hx; exact hl.2 i x x' hx hx')
  cases h5 with
  | cons hx hks hr =>
    rename_i x' ks' r'
    cases hr
    unfold chk1 at h ⊢
    cases hc : chk false (.cons x0 k0 .nil) (fun _ => E) 0 0 with
    | error b => rw [hc] at h; cases h
    | ok K =>
      rw [hc] at h
      injection h with h
      subst h
      obtain ⟨K', hc', hK⟩ := chk_prec (.cons hx hks .nil) (fun _ => E) (fun _ => E') 0 0 0 K (fun _ => hE) hc
      refine ⟨x', ks', (K'.map Prod.snd).flatten, ?_, h2, ?_, hK.flat⟩
      · rw [← h1]; simp [F.flat]
      · rw [hc']
end Culp.Tr
namespace Go.Proofs.YtdobaililmkkcaaDoor
set_option linter.unusedSimpArgs false
set_option linter.unusedVariables false
open Go.RowKit Go.Maps Culp
/-- Types that are less precise, one by one. -/
def LessTo (S S' : List ByteArray) (k : Nat) : Prop := ∀ j, j < k → ∃ t t' : Ty, S.getD j ByteArray.empty = t.str ∧ S'.getD j ByteArray.empty = t'.str ∧ t.fits ∧ t'.fits ∧ prec t t' = true
theorem envTo_prec {N S S' : List ByteArray} : ∀ k, LessTo S S' k → Tr.EnvR (envTo N S k) (envTo N S' k)
  | 0, _ => .nil
  | k + 1, h => by
    obtain ⟨t, t', e1, e2, f1, f2, hp⟩ := h k (Nat.lt_succ_self k)
    unfold envTo
    rw [e1, e2, tyOf_str t f1, tyOf_str t' f2]
    exact .cons hp (envTo_prec k fun j hj => h j (by omega))
theorem args_less {N S S' : List ByteArray} (h : ArgsOk N S) (hl : S'.length = S.length) (hs : LessTo S S' S'.length) : ArgsOk N S' := ⟨by rw [hl]; exact h.1, fun j hj => by
  obtain ⟨t, t', _, e2, _, f2, _⟩ := hs j (by rw [hl, ← h.1]; exact hj)
  exact ⟨by rw [e2, str_list]; exact isTy_enc _ f2, (h.2 j hj).2⟩⟩
set_option maxRecDepth 100000 in
set_option maxHeartbeats 6400000 in
theorem looser_law (T U : List Nd) (N S S' : List ByteArray) (tv uv nv sv zv : Value) (w : World) (hn : Nodes w tv T) (hu : Nodes w uv U) (hN : Txts w nv N) (hS : Txts w sv S) (hS' : Txts w zv S') (hSp : Sp w) (hTab : Tab w) (hz : ∀ s ∈ N, s.size ≤ 140737488351232) (hzT : ∀ x ∈ T, x.s.size ≤ 140737488351232) (hkT : ∀ x ∈ T, x.kids ≤ 9223372036854775807) (hzU : ∀ x ∈ U, x.s.size ≤ 140737488351232) (hkU : ∀ x ∈ U, x.kids ≤ 9223372036854775807) :
    Calls Tryd.prog 4 #[.agg #[tv, nv, sv], uv, zv] w (Makes (.bool true) w) := by
  have HN := Lib.hid hn
  have HU := Lib.hid hu
  have HNN := Lib.hid hN
  have HSS := Lib.hid hS
  have HZS := Lib.hid hS'
  have HSP := Lib.hid hSp
  have HTB := Lib.hid hTab
  have HZ := Lib.hid hz
  have HZT := Lib.hid hzT
  have HKT := Lib.hid hkT
  have HZU := Lib.hid hzU
  have HKU := Lib.hid hkU
  obtain ⟨A, C, rfl, hlc, _⟩ := hn
  obtain ⟨A4, C4, rfl, hlu, _⟩ := hu
  obtain ⟨A2, C2, rfl⟩ := hN.form
  obtain ⟨A3, C3, rfl⟩ := hS.form
  obtain ⟨A5, C5, rfl⟩ := hS'.form
  have hb1 : Below w.heap.size w (w.alloc (.cells #[.slice A T.length C, .slice A2 N.length C2, .slice A3 S.length C3] 35)) := (Below.refl _ _).alloc (Nat.le_refl _) _
  have HB1 := Lib.hid hb1
  have HBX : Hid ((w.alloc (.cells #[.slice A T.length C, .slice A2 N.length C2, .slice A3 S.length C3] 35)).heap[w.heap.size]? = some (.cells #[.slice A T.length C, .slice A2 N.length C2, .slice A3 S.length C3] 35 (0, 0))) := Lib.hid (MapKept.heap_alloc w _).1
  clear hN hS hSp hTab hz hzT hkT hb1 hS' hzU hkU
  go_enter Tryd.func4, Tryd.ntmps4
  go_wp2_with fail
  generalize w.alloc (.cells #[.slice A T.length C, .slice A2 N.length C2, .slice A3 S.length C3] 35) = w1 at *
  refine (cworks_any _ (HSP.out.later HB1.out) (HTB.out.later HB1.out)).mono ?_
  rintro E w2 ⟨rfl, hb2⟩
  have HB2 := Lib.hid (below_later hb2 HB1.out)
  have hbk : w2.heap[w.heap.size]? = _ := (hb2.block w.heap.size (Array.getElem?_eq_some_iff.1 HBX.out).1).trans HBX.out
  have HBX2 := Lib.hid hbk
  have k0 : w2.cell? ⟨w.heap.size, 0, none⟩ = some (.slice A T.length C) := by simp [World.cell?, hbk]
  have k1 : w2.cell? ⟨w.heap.size, 1, none⟩ = some (.slice A2 N.length C2) := by simp [World.cell?, hbk]
  have k2 : w2.cell? ⟨w.heap.size, 2, none⟩ = some (.slice A3 S.length C3) := by simp [World.cell?, hbk]
  clear hb2 hbk HB1 HBX
  go_wp2_with fail
  refine (clong_any T N S A A2 A3 C C2 C3 _).mono ?_
  rintro E w3 ⟨rfl, hb3⟩
  have HB3 := Lib.hid (below_later hb3 HB2.out)
  have l0 := cell_later hb3 k0
  have l1 := cell_later hb3 k1
  have l2 := cell_later hb3 k2
  have HBX3 : Hid (w3.heap[w.heap.size]? = some (.cells #[.slice A T.length C, .slice A2 N.length C2, .slice A3 S.length C3] 35 (0, 0))) := Lib.hid ((hb3.block w.heap.size (Array.getElem?_eq_some_iff.1 HBX2.out).1).trans HBX2.out)
  clear hb3 HB2 k0 k1 k2 HBX2
  cases hlg : (decide (400 < T.length) || decide (100 < N.length) || decide (100 < S.length)) with
  | true =>
    clear l0 l1 l2
    go_wp2_with fail
    go_ret
    exact Makes.mk rfl HB3.out
  | false =>
    have hlg2 : T.length ≤ 400 ∧ N.length ≤ 100 ∧ S.length ≤ 100 := by
      simp only [Bool.or_eq_false_iff, decide_eq_false_iff_not] at hlg
      omega
    have HLG := Lib.hid hlg2
    clear hlg hlg2
    by_cases hSl : S'.length = S.length
    rotate_left
    · have q1 : (((S'.length : Nat) : Int) != ((S.length : Nat) : Int)) = true := neq_lit (by omega)
      clear l0 l1 hSl
      go_wp2_with fail
      go_ret
      exact Makes.mk rfl HB3.out
    have q1 : (((S'.length : Nat) : Int) != ((S.length : Nat) : Int)) = false := neq_lit0 (by rw [hSl])
    have HSL := Lib.hid hSl
    clear hSl
    go_wp2_with fail
    refine (Expr_any T _ _ _ N S _ (HN.out.later HB3.out) (HNN.out.later HB3.out) (HSS.out.later HB3.out) (HSP.out.later HB3.out) (HTB.out.later HB3.out) HZ.out (by have := HLG.out; omega) HZT.out HKT.out).mono ?_
    rintro E w4 hr
    rcases hr with ⟨e, pp, he, rfl, hb4⟩ | ⟨x0, k0, ts, hT, hO, hm, hh, _, hok, hck, v, rfl, hown, hb4⟩
    · have HB4 := Lib.hid (below_later hb4 HB3.out)
      have hq : (e != 0) = true := by simpa using he
      clear hb4 l0 l1 l2 he
      go_wp2_with fail
      go_ret
      exact Makes.mk rfl HB4.out
    · have HB4 := Lib.hid (below_later hb4 HB3.out)
      have HOK := Lib.hid hok
      have HLW := Lib.hid (fun hl E' hE => Tr.loose_law (U := U) (E' := E') hT hO hck hl hE)
      have HM := Lib.hid hm
      have HOW : Hid (Txts w4 v (ts.map Ty.str)) := Lib.hid (Txts.own (n := ts.length) (by rw [List.map_map]; exact hown))
      have htl : ts.length ≤ 400 := by
        have h1 := Tr.chk1_len hck
        have h2 : T.length = 1 + k0.flat.length := by rw [hT]; simp; omega
        have := HLG.out
        omega
      have HTF : Hid (∀ t ∈ ts, t.fits) := Lib.hid (Tr.chk1_fits hck)
      have HBX4 : Hid (w4.heap[w.heap.size]? = some (.cells #[.slice A T.length C, .slice A2 N.length C2, .slice A3 S.length C3] 35 (0, 0))) := Lib.hid ((hb4.block w.heap.size (Array.getElem?_eq_some_iff.1 HBX3.out).1).trans HBX3.out)
      have m0 := cell_later hb4 l0
      obtain ⟨Av, Cv, rfl⟩ := own_shape hown
      clear hT hO hm hh hck hb4 l0 l1 l2 hown HB3 HBX3 hok
      go_wp2_with fail
      refine (looserTree_any T U _ _ _ (HN.out.later HB4.out) (HU.out.later HB4.out) (by have := HLG.out; omega) HM.out).mono ?_
      rintro E w5 ⟨b1, rfl, hb5, hr⟩
      have HB5 := Lib.hid (below_later hb5 HB4.out)
      have HB45 := Lib.hid hb5
      have HLA := Lib.hid hr
      clear hb5 hr m0
      cases b1 with
      | false =>
        go_wp2_with fail
        go_ret
        exact Makes.mk rfl HB5.out
      | true =>
        have HLB := Lib.hid (HLA.out rfl)
        clear HLA
        have hSb : S'.length ≤ 100 := by have := HLG.out; have := HSL.out; omega
        go_wp2_with fail
        go_loopw [11] (fun i wr => ∃ k : Nat, k ≤ S'.length ∧ i = .int .i64 k ∧ Hid (LessTo S S' k) ∧ Hid (Below w4.heap.size w4 wr)) (fun i _ => S'.length - (intOf i).toNat)
        case atStart => exact ⟨0, Nat.zero_le _, by go_num, Lib.hid (fun j hj => absurd hj (Nat.not_lt_zero _)), HB45⟩
        case round =>
          obtain ⟨k, hk, rfl, HLT, HB⟩ := hrel
          have HBR := Lib.hid (below_later HB.out HB4.out)
          by_cases hlt : k < S'.length
          · have hlt2 : k < S.length := by rw [← HSL.out]; exact hlt
            have hbk : wr.heap[w.heap.size]? = _ := (HB.out.block w.heap.size (Array.getElem?_eq_some_iff.1 HBX4.out).1).trans HBX4.out
            have m2 : wr.cell? ⟨w.heap.size, 2, none⟩ = some (.slice A3 S.length C3) := by simp [World.cell?, hbk]
            obtain ⟨g1, o1, c1, e1, x1⟩ := (HSS.out.later HBR.out).at_ hlt2
            obtain ⟨g2, o2, c2, e2, x2⟩ := (HZS.out.later HBR.out).at_ hlt
            simp only [Value.slice.injEq] at e1 e2
            obtain ⟨rfl, _, rfl⟩ := e1
            obtain ⟨rfl, _, rfl⟩ := e2
            have hS1 : S[k] = S.getD k ByteArray.empty := by rw [List.getD_eq_getElem?_getD, List.getElem?_eq_getElem hlt2]; rfl
            have hS2 : S'[k] = S'.getD k ByteArray.empty := by rw [List.getD_eq_getElem?_getD, List.getElem?_eq_getElem hlt]; rfl
            obtain ⟨t, ht1, ht2, _⟩ := argOk_ty (HOK.out.2 k (by rw [HOK.out.1]; exact hlt2))
            rw [hS1, ht1] at x1
            rw [hS2] at x2
            have HPS := Lib.hid (Precise_some t (S'.getD k ByteArray.empty) ht2)
            have HLS : Hid ((∃ T : Ty, S'.getD k ByteArray.empty = T.str ∧ T.fits ∧ prec t T = true) → LessTo S S' (k + 1)) := Lib.hid (fun h j hj => by
              rcases Nat.lt_succ_iff_lt_or_eq.1 hj with hj | rfl
              · exact HLT.out j hj
              · obtain ⟨T, h1, h2, h3⟩ := h
                exact ⟨t, T, ht1, h1, ht2, h2, h3⟩)
            generalize S'.getD k ByteArray.empty = sz at *
            clear hbk hS1 hS2 ht1 ht2 HLT
            go_wp2_with fail
            refine wp_region_plan (S := fun w' => w'.cell? ⟨w.heap.size, 2, none⟩ = some (.slice (some ⟨g1, o1, none⟩) S.length C3) ∧ w'.cell? ⟨g1, o1 + k, none⟩ = some (.string t.str) ∧ w'.cell? ⟨g2, o2 + k, none⟩ = some (.string sz))
              [(0, true), (1, true), (2, true), (3, true), (4, true), (5, true), (6, true), (7, true), (8, true), (9, false), (10, true)] (by kernel_rfl) (by kernel_rfl) (by kernel_rfl) (fun _ _ _ _ _ h => h) ⟨m2, x1, x2⟩ ?_
            intro HSW
            repeat (first | (apply wpPlan_look; rfl; rfl; (intro wq hq; (try dsimp only at hq); go_split_ands; go_simp; (try rw [if_neg (by omega)]); (try rw [if_pos (by omega)]); try with_reducible rfl); simp only [Act.put, List.setIfInBounds_toArray, List.set_cons_zero, List.set_cons_succ]) | (apply wpPlan_skip; rfl; rfl; simp only [Act.put, List.setIfInBounds_toArray, List.set_cons_zero, List.set_cons_succ]) | (apply wpPlan_pass; rfl; rfl; assumption; simp only [Act.put, List.setIfInBounds_toArray, List.set_cons_zero, List.set_cons_succ]))
            apply wpPlan_call; rfl; rfl; rfl; rfl; kernel_rfl; exact HPS.out _; rfl; rintro E w6 ⟨b6, rfl, hb6, hr6⟩
            refine ⟨_, rfl, as_S ⟨cell_later hb6 HSW.1, cell_later hb6 HSW.2.1, cell_later hb6 HSW.2.2⟩ ?_⟩
            intro _
            have HB6 := Lib.hid (below_later hb6 (below_later (below_dn wr 1) HB.out))
            have HR6 := Lib.hid (fun h => HLS.out (hr6 h))
            clear hb6 hr6 HLS HPS HSW m2 x1 x2
            simp only [Act.put, List.setIfInBounds_toArray, List.set_cons_zero, List.set_cons_succ]
            repeat (first | (apply wpPlan_look; rfl; rfl; (intro wq hq; (try dsimp only at hq); go_split_ands; go_simp; (try rw [if_neg (by omega)]); (try rw [if_pos (by omega)]); try with_reducible rfl); simp only [Act.put, List.setIfInBounds_toArray, List.set_cons_zero, List.set_cons_succ]) | (apply wpPlan_skip; rfl; rfl; simp only [Act.put, List.setIfInBounds_toArray, List.set_cons_zero, List.set_cons_succ]) | (apply wpPlan_pass; rfl; rfl; assumption; simp only [Act.put, List.setIfInBounds_toArray, List.set_cons_zero, List.set_cons_succ]))
            apply wpPlan_done
            cases b6 with
            | false =>
              have HBZ := Lib.hid (below_later HB6.out HB4.out)
              go_wp2_with fail
              go_ret
              exact Makes.mk rfl HBZ.out
            | true =>
              have HLT2 := Lib.hid (HR6.out rfl)
              go_wp2_with fail
              go_roundw
              case rel => exact ⟨k + 1, by omega, by go_num, HLT2, HB6⟩
              case measure => simp [intOf]; omega
          · obtain rfl : k = S'.length := by omega
            have HCK := Lib.hid (tCheck_any U _ wr (HU.out.later HBR.out) (HSP.out.later HBR.out) HZU.out HKU.out)
            have HWOW := Lib.hid (HOW.out.later HB.out)
            go_wp2_with fail
            refine HCK.out.mono ?_
            by_cases hcu : (Tr.check U).1 = 0
            rotate_left
            · have hq := neq_lit (z := 0) (show ((Tr.check U).1 : Int) ≠ 0 by omega)
              generalize Tr.check U = cc at *
              rintro E w6 ⟨rfl, hb6⟩
              have HB6 := Lib.hid (below_later hb6 HBR.out)
              clear hb6 HCK hcu
              go_wp2_with fail
              go_ret
              exact Makes.mk rfl HB6.out
            obtain ⟨hUl, y0, ly, hUe, hUO, hUm, hUh⟩ := Tr.F.of_check hcu
            have hUc : Tr.check U = (0, 0) := by rw [hUe]; exact Tr.F.check_one (by rw [← hUe]; exact hUl) hUO (by rw [← hUe]; exact hUm) hUh
            rw [hUc]
            rintro E w6 ⟨rfl, hb6⟩
            have HB6 := Lib.hid (below_later hb6 HBR.out)
            have HWOW6 := Lib.hid (HWOW.out.later hb6)
            have hbk : w6.heap[w.heap.size]? = _ := ((below_later hb6 HB.out).block w.heap.size (Array.getElem?_eq_some_iff.1 HBX4.out).1).trans HBX4.out
            have m1 : w6.cell? ⟨w.heap.size, 1, none⟩ = some (.slice A2 N.length C2) := by simp [World.cell?, hbk]
            have hae := args_less HOK.out HSL.out HLT.out
            obtain ⟨x', ks', ts', hU', hO', hck', hP2⟩ := HLW.out HLB.out (envTo N S' N.length) (by
              have h1 : N.length = S'.length := hae.1
              rw [h1]
              have := envTo_prec (N := N) S'.length HLT.out
              exact this)
            have HEX := Lib.hid (Expr_ok U _ _ _ N S' w6 (HU.out.later HB6.out) (HNN.out.later HB6.out) (HZS.out.later HB6.out) (HSP.out.later HB6.out) HZ.out (by have := HLG.out; omega) hae (HTB.out.later HB6.out) x' ks' (by omega) HZU.out HKU.out hUc hU' hO' hUm)
            rw [hck'] at HEX
            have HP2 := Lib.hid hP2
            have HTF' := Lib.hid (Tr.chk1_fits hck')
            have HLL : Hid (ts'.length = ts.length) := Lib.hid hP2.len.symm
            clear hb6 hbk hae hU' hO' hck' hP2 hUe hUO hUm hUh hUc HCK HWOW
            go_wp2_with fail
            refine HEX.out.mono ?_
            rintro E w7 ⟨v7, rfl, ho7, hb7⟩
            have HB7 := Lib.hid (below_later hb7 HB6.out)
            have HA7 := Lib.hid (HWOW6.out.later hb7)
            have HC7 : Hid (Txts w7 v7 (ts'.map Ty.str)) := Lib.hid (Txts.own (n := ts'.length) (by rw [List.map_map]; exact ho7))
            rw [HLL.out] at ho7
            obtain ⟨A7, C7, rfl⟩ := own_shape ho7
            clear hb7 ho7 HB6 HWOW6 HEX m1
            go_wp2_with fail
            go_loopw [17] (fun i wq => ∃ k : Nat, k ≤ ts.length ∧ i = .int .i64 k ∧ Hid (Below w7.heap.size w7 wq)) (fun i _ => ts.length - (intOf i).toNat)
            case atStart => exact ⟨0, Nat.zero_le _, by go_num, Lib.hid (Below.refl _ _)⟩
            case round =>
              obtain ⟨k, hk2, rfl, HBQ⟩ := hrel
              have HBF := Lib.hid (below_later HBQ.out HB7.out)
              by_cases hlt2 : k < ts.length
              · have hlt3 : k < ts'.length := by rw [HLL.out]; exact hlt2
                obtain ⟨g1, o1, c1, e1, x1⟩ := (HA7.out.later HBQ.out).at_ (k := k) (by rw [List.length_map]; exact hlt2)
                obtain ⟨g2, o2, c2, e2, x2⟩ := (HC7.out.later HBQ.out).at_ (k := k) (by rw [List.length_map]; exact hlt3)
                simp only [Value.slice.injEq] at e1 e2
                obtain ⟨rfl, -, rfl⟩ := e1
                obtain ⟨rfl, -, rfl⟩ := e2
                rw [List.getElem_map] at x1 x2
                have hf1 := HTF.out ts[k] (List.getElem_mem hlt2)
                have hf2 := HTF'.out ts'[k] (List.getElem_mem hlt3)
                have hp := HP2.out.get k
                rw [List.getD_eq_getElem?_getD, List.getElem?_eq_getElem hlt2, List.getD_eq_getElem?_getD, List.getElem?_eq_getElem hlt3] at hp
                have hp : prec ts[k] ts'[k] = true := hp
                have HPR := Lib.hid (fun w' => Precise_any ts[k] ts'[k] hf1 hf2 w')
                rw [hp] at HPR
                generalize ts[k] = t1 at *
                generalize ts'[k] = t2 at *
                clear hf1 hf2 hp
                go_wp2_with fail
                refine wp_region_plan (S := fun w' => w'.cell? ⟨g1, o1 + k, none⟩ = some (.string t1.str) ∧ w'.cell? ⟨g2, o2 + k, none⟩ = some (.string t2.str))
                  [(0, true), (1, true), (2, true), (3, true), (4, true), (5, true), (6, true), (7, true), (8, false), (9, true)] (by kernel_rfl) (by kernel_rfl) (by kernel_rfl) (fun _ _ _ _ _ h => h) ⟨x1, x2⟩ ?_
                intro HSW
                repeat (first | (apply wpPlan_look; rfl; rfl; (intro wq hq; (try dsimp only at hq); go_split_ands; go_simp; (try rw [if_neg (by omega)]); (try rw [if_pos (by omega)]); try with_reducible rfl); simp only [Act.put, List.setIfInBounds_toArray, List.set_cons_zero, List.set_cons_succ]) | (apply wpPlan_skip; rfl; rfl; simp only [Act.put, List.setIfInBounds_toArray, List.set_cons_zero, List.set_cons_succ]) | (apply wpPlan_pass; rfl; rfl; assumption; simp only [Act.put, List.setIfInBounds_toArray, List.set_cons_zero, List.set_cons_succ]))
                apply wpPlan_call; rfl; rfl; rfl; rfl; kernel_rfl; exact HPR.out _; rfl; rintro E w8 ⟨rfl, hb8⟩
                refine ⟨_, rfl, as_S ⟨cell_later hb8 HSW.1, cell_later hb8 HSW.2⟩ ?_⟩
                intro _
                have HB8 := Lib.hid (below_later hb8 (below_later (below_dn wr 1) HBQ.out))
                clear hb8 HPR HSW x1 x2
                simp only [Act.put, List.setIfInBounds_toArray, List.set_cons_zero, List.set_cons_succ]
                repeat (first | (apply wpPlan_look; rfl; rfl; (intro wq hq; (try dsimp only at hq); go_split_ands; go_simp; (try rw [if_neg (by omega)]); (try rw [if_pos (by omega)]); try with_reducible rfl); simp only [Act.put, List.setIfInBounds_toArray, List.set_cons_zero, List.set_cons_succ]) | (apply wpPlan_skip; rfl; rfl; simp only [Act.put, List.setIfInBounds_toArray, List.set_cons_zero, List.set_cons_succ]) | (apply wpPlan_pass; rfl; rfl; assumption; simp only [Act.put, List.setIfInBounds_toArray, List.set_cons_zero, List.set_cons_succ]))
                apply wpPlan_done
                go_wp2_with fail
                go_roundw
                case rel => exact ⟨k + 1, by omega, by go_num, HB8⟩
                case measure => simp [intOf]; omega
              · go_wp2_with fail
                go_ret
                exact Makes.mk rfl HBF.out
end Go.Proofs.YtdobaililmkkcaaDoor
