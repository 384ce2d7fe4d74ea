
/- The checker: any part. -/
import Derived.Test.YtdfadmhomjcmeaaGreatDoorKx
import Derived.Test.YtdfadmhomjcmeaaGreatDoorFs
import Derived.Test.YtdfadmhomjcmeaaGreatDoorTrW
namespace Culp.Tr.F
set_option linter.unusedSimpArgs false
set_option linter.unusedVariables false
theorem one_kid {f : F} (h : f.cnt = 1) : ∃ y ky, f = cons y ky nil := by
  cases f with
  | nil => simp [cnt] at h
  | cons y ky r =>
    have : r = nil := cnt_zero (by simp only [cnt] at h; omega)
    subst this
    exact ⟨y, ky, rfl⟩
end Culp.Tr.F
namespace Go.Proofs.YtdfadmhomjcmeaaGreatDoor
set_option linter.unusedSimpArgs false
set_option linter.unusedVariables false
open Go.RowKit Go.Maps Culp
theorem kid_count {x : Nd} {ks : Tr.F} (h : Tr.may x = true) (ho : (Tr.F.cons x ks .nil).Ok) {n : Nat} (hn : Tr.arit x.kind = n) : ks.cnt = n := by
  unfold Tr.may Tr.kOk at h
  simp only [Bool.and_eq_true, decide_eq_true_eq, Bool.or_eq_true] at h
  have h1 := ho.1
  have h2 := h.1.1.1.1.2
  rw [hn] at h2
  clear h hn
  omega
theorem part_all (T : List Nd) (tv : Value) (W : World) (c B : Nat) (hN : Nodes W tv T) (hTl : T.length ≤ 1000000) (hTab : Tab W) (hcW : W.heap.size ≤ c) (hBW : W.heap.size ≤ B) (hm : ∀ y ∈ T, Tr.may y = true) : ∀ n, PartC T tv W c B n
  | 0 => fun x ks pre post p env ev yv w ys a hh => absurd hh (Nat.not_lt_zero _)
  | n + 1 => fun x ks pre post p env ev yv w ys a hh hT hp hO hB hE hEF hys hC => by
    have ih := part_all T tv W c B hN hTl hTab hcW hBW hm n
    have hmx : Tr.may x = true := hm x (by rw [hT]; simp)
    have hx : T[p]? = some x := by rw [hT, ← hp]; simp
    have hpT : p < ys.length := by rw [hys]; exact (List.getElem?_eq_some_iff.1 hx).1
    rw [Tr.chk1_rule]
    refine part_of c B tv yv ys a w p (1 + ks.flat.length) ev _ (by omega) hpT ?_
    by_cases h1 : x.kind = 1
    · have h0 : ks.cnt = 0 := kid_count hmx hO (n := 0) (by rw [h1]; rfl)
      obtain rfl := Tr.F.cnt_zero h0
      exact rule_1 (T := T) (tv := tv) (W := W) (c := c) (B := B) (hN := hN) (hTl := hTl) (x := x) (p := p) (env := env) (ev := ev) (yv := yv) (w := w) (ys := ys) (a := a) (hx := hx) (hB := hB) (hE := hE) (hEF := hEF) (hC := hC) h1
    by_cases h2 : x.kind = 2
    · have h0 : ks.cnt = 0 := kid_count hmx hO (n := 0) (by rw [h2]; rfl)
      obtain rfl := Tr.F.cnt_zero h0
      exact rule_2 (T := T) (tv := tv) (W := W) (c := c) (B := B) (hN := hN) (hTl := hTl) (x := x) (p := p) (env := env) (ev := ev) (yv := yv) (w := w) (ys := ys) (a := a) (hx := hx) (hB := hB) (hE := hE) (hEF := hEF) (hC := hC) h2
    by_cases h3 : x.kind = 3
    · have h0 : ks.cnt = 0 := kid_count hmx hO (n := 0) (by rw [h3]; rfl)
      obtain rfl := Tr.F.cnt_zero h0
      exact rule_3 (T := T) (tv := tv) (W := W) (c := c) (B := B) (hN := hN) (hTl := hTl) (x := x) (p := p) (env := env) (ev := ev) (yv := yv) (w := w) (ys := ys) (a := a) (hx := hx) (hB := hB) (hE := hE) (hEF := hEF) (hC := hC) h3
    by_cases h4 : x.kind = 4
    · have h0 : ks.cnt = 0 := kid_count hmx hO (n := 0) (by rw [h4]; rfl)
      obtain rfl := Tr.F.cnt_zero h0
      exact rule_4 (T := T) (tv := tv) (W := W) (c := c) (B := B) (hN := hN) (hTl := hTl) (x := x) (p := p) (env := env) (ev := ev) (yv := yv) (w := w) (ys := ys) (a := a) (hx := hx) (hB := hB) (hE := hE) (hEF := hEF) (hC := hC) h4
    by_cases h5 : x.kind = 5
    · have h0 : ks.cnt = 1 := kid_count hmx hO (n := 1) (by rw [h5]; rfl)
      obtain ⟨y, ky, rfl⟩ := Tr.F.one_kid h0
      have e : 1 + (Tr.F.cons y ky .nil).flat.length = 2 + ky.flat.length := by simp only [Tr.F.flat, List.append_nil, List.length_cons]; omega
      rw [e]
      refine rule_5 (T := T) (tv := tv) (W := W) (c := c) (B := B) (hN := hN) (hTl := hTl) (x := x) (p := p) (env := env) (ev := ev) (yv := yv) (w := w) (ys := ys) (a := a) (hx := hx) (hB := hB) (hE := hE) (hEF := hEF) (hC := hC) h5 _ _ (fun w' hb => ?_)
      exact function_5 (T := T) (tv := tv) (W := W) (c := c) (B := B) (n := n) (hN := hN) (hTl := hTl) (x := x) (y := y) (ky := ky) (pre := pre) (post := post) (p := p) (env := env) (ev := ev) (yv := yv) (w := w') (ys := ys) (a := a) (hT := by rw [hT]; simp [Tr.F.flat]) (hp := hp) (hO := hO) (hB := below_later hb hB) (hE := hE.later hb) (hEF := hEF) (hys := hys) (hC := hC.later hb) (hup := ih) (hh := by simp only [Tr.F.hgt] at hh; omega) (hm := hmx) h5
    by_cases h6 : x.kind = 6
    · have h0 : ks.cnt = 1 := kid_count hmx hO (n := 1) (by rw [h6]; rfl)
      obtain ⟨y, ky, rfl⟩ := Tr.F.one_kid h0
      have e : 1 + (Tr.F.cons y ky .nil).flat.length = 2 + ky.flat.length := by simp only [Tr.F.flat, List.append_nil, List.length_cons]; omega
      rw [e]
      refine rule_6 (T := T) (tv := tv) (W := W) (c := c) (B := B) (hN := hN) (hTl := hTl) (x := x) (p := p) (env := env) (ev := ev) (yv := yv) (w := w) (ys := ys) (a := a) (hx := hx) (hB := hB) (hE := hE) (hEF := hEF) (hC := hC) h6 _ _ (fun w' hb => ?_)
      exact function_6 (T := T) (tv := tv) (W := W) (c := c) (B := B) (n := n) (hN := hN) (hTl := hTl) (x := x) (y := y) (ky := ky) (pre := pre) (post := post) (p := p) (env := env) (ev := ev) (yv := yv) (w := w') (ys := ys) (a := a) (hT := by rw [hT]; simp [Tr.F.flat]) (hp := hp) (hO := hO) (hB := below_later hb hB) (hE := hE.later hb) (hEF := hEF) (hys := hys) (hC := hC.later hb) (hup := ih) (hh := by simp only [Tr.F.hgt] at hh; omega) (hm := hmx) h6
    by_cases h8 : x.kind = 8
    · exact rule_let (T := T) (tv := tv) (W := W) (c := c) (B := B) (n := n) (hN := hN) (hTl := hTl) (hTab := hTab) (hcW := hcW) (hBW := hBW) (x := x) (ks := ks) (pre := pre) (post := post) (p := p) (env := env) (ev := ev) (yv := yv) (w := w) (ys := ys) (a := a) (hT := hT) (hp := hp) (hO := hO) (hB := hB) (hE := hE) (hEF := hEF) (hys := hys) (hC := hC) (hup := ih) (hh := by omega) (hm := hmx) (h0 := by omega) h8 (kid_count hmx hO (n := 2) (by rw [h8]; rfl))
    · exact rule_p (T := T) (tv := tv) (W := W) (c := c) (B := B) (n := n) (hN := hN) (hTl := hTl) (hTab := hTab) (hcW := hcW) (hBW := hBW) (x := x) (ks := ks) (pre := pre) (post := post) (p := p) (env := env) (ev := ev) (yv := yv) (w := w) (ys := ys) (a := a) (hT := hT) (hp := hp) (hO := hO) (hB := hB) (hE := hE) (hEF := hEF) (hys := hys) (hC := hC) (hup := ih) (hh := by omega) (hm := hmx) (h0 := by omega) h8
end Go.Proofs.YtdfadmhomjcmeaaGreatDoor

/- The checker: Expr. -/
namespace Go.Proofs.YtdfadmhomjcmeaaGreatDoor
set_option linter.unusedSimpArgs false
set_option linter.unusedVariables false
open Go.RowKit Go.Maps Culp
/-- Texts as they lie in memory. -/
def Txts (w : World) (v : Value) (L : List ByteArray) : Prop := ∃ A c, v = .slice A L.length c ∧ L.length ≤ c ∧ (0 < L.length → ∃ g o, A = some ⟨g, o, none⟩ ∧ ∀ (j : Nat) (s : ByteArray), L[j]? = some s → w.cell? ⟨g, o + j, none⟩ = some (.string s))
theorem Txts.later {w w' : World} {v : Value} {L : List ByteArray} (h : Txts w v L) (hb : Below w.heap.size w w') : Txts w' v L := by
  obtain ⟨A, c, h1, h2, h3⟩ := h
  refine ⟨A, c, h1, h2, fun h0 => ?_⟩
  obtain ⟨g, o, rfl, hc⟩ := h3 h0
  exact ⟨g, o, rfl, fun j s hj => cell_later hb (hc j s hj)⟩
theorem Txts.nil (w : World) : Txts w (.slice none 0 0) [] := ⟨none, 0, rfl, Nat.le_refl _, fun h => absurd h (Nat.lt_irrefl _)⟩
/-- The names with their types, the last one first. -/
def envTo (N S : List ByteArray) : Nat → Tr.Env
  | 0 => []
  | k + 1 => (N.getD k ByteArray.empty, (tyOf (S.getD k ByteArray.empty)).getD .dyn) :: envTo N S k
def argOk (N S : List ByteArray) (j : Nat) : Prop := isTy (S.getD j ByteArray.empty).data.toList = true ∧ Tx.isName (N.getD j ByteArray.empty).data.toList = true
def ArgsOk (N S : List ByteArray) : Prop := N.length = S.length ∧ ∀ j, j < N.length → argOk N S j
theorem argOk_ty {N S : List ByteArray} {j : Nat} (h : argOk N S j) : ∃ T : Ty, S.getD j ByteArray.empty = T.str ∧ T.fits ∧ (tyOf (S.getD j ByteArray.empty)).getD .dyn = T := by
  obtain ⟨T, e, hT⟩ := ty_of _ h.1
  exact ⟨T, e, hT, by rw [e, tyOf_str T hT]; rfl⟩
theorem argOk_ty' {s : ByteArray} (h : isTy s.data.toList = true) : ∃ T : Ty, s = T.str ∧ T.fits ∧ (tyOf s).getD .dyn = T := by
  obtain ⟨T, e, hT⟩ := ty_of _ h
  exact ⟨T, e, hT, by rw [e, tyOf_str T hT]; rfl⟩
theorem envTo_fits {N S : List ByteArray} : ∀ k, (∀ j, j < k → argOk N S j) → EnvFits (envTo N S k)
  | 0, _ => fun b hb => by cases hb
  | k + 1, h => by
    obtain ⟨T, _, hT, e⟩ := argOk_ty (h k (Nat.lt_succ_self k))
    unfold envTo
    rw [e]
    exact (envTo_fits k fun j hj => h j (by omega)).cons hT
theorem getD_of {L : List ByteArray} {j : Nat} (h : j < L.length) : L[j]? = some (L.getD j ByteArray.empty) := by rw [List.getD_eq_getElem?_getD, List.getElem?_eq_getElem h]; rfl
section
variable (T : List Nd) (tv nv sv : Value) (N S : List ByteArray) (w : World) (hn : Nodes w tv T) (hN : Txts w nv N) (hS : Txts w sv S) (hSp : Sp w) (hz : ∀ s ∈ N, s.size ≤ 140737488351232) (hNl : N.length ≤ 1000000000)
include hn hN hS hSp hz hNl
set_option maxRecDepth 100000 in
set_option maxHeartbeats 3200000 in
theorem Expr_tree (hok : ArgsOk N S) (hzT : ∀ x ∈ T, x.s.size ≤ 140737488351232) (hkT : ∀ x ∈ T, x.kids ≤ 9223372036854775807) (hc : (Tr.check T).1 ≠ 0) : Calls Tryz.prog 6 #[tv, nv, sv] w (Makes (.tuple #[.slice none 0 0, .int .i64 (Tr.check T).1, .int .i64 (Tr.check T).2]) w) := by
  have hlen := hok.1
  have HOK := Lib.hid hok.2
  have HN := Lib.hid hN
  have HS := Lib.hid hS
  have HSP := Lib.hid hSp
  have HZ := Lib.hid hz
  have HND := Lib.hid hn
  obtain ⟨A1, c1, rfl, hc1, hN1⟩ := HN.out
  obtain ⟨A2, c2, rfl, hc2, hS1⟩ := HS.out
  have q : (((N.length : Nat) : Int) != ((S.length : Nat) : Int)) = false := neq_lit0 (by rw [hlen])
  have HLEN := Lib.hid hlen
  have HN1 := Lib.hid hN1
  have HS1 := Lib.hid hS1
  clear hn hN hS hSp hz hlen hN1 hS1
  go_enter Tryz.func6, Tryz.ntmps6
  go_wp2_with fail
  go_loopw [9, 24] (fun v i wr => ∃ k : Nat, k ≤ N.length ∧ i = .int .i64 k ∧ Hid (∀ j, j < k → argOk N S j) ∧ Hid (EnvIs wr v (envTo N S k)) ∧ Hid (Below w.heap.size w wr)) (fun _ i _ => N.length - (intOf i).toNat)
  case atStart => exact ⟨0, Nat.zero_le _, rfl, Lib.hid (fun j hj => absurd hj (Nat.not_lt_zero _)), Lib.hid rfl, Lib.hid (Below.refl _ _)⟩
  case round =>
    obtain ⟨k, hk, rfl, HG, HE, HB⟩ := hrel
    by_cases hlt : k < N.length
    ·
      have hlt2 : (k : Int) < (S.length : Int) := by have := HLEN.out; omega
      obtain ⟨g1, o1, rfl, k1⟩ := HN1.out (by omega)
      obtain ⟨g2, o2, rfl, k2⟩ := HS1.out (by have := HLEN.out; omega)
      have x1 : wr.cell? ⟨g1, o1 + k, none⟩ = some (.string (N.getD k ByteArray.empty)) := cell_later HB.out (k1 k _ (getD_of hlt))
      have x2 : wr.cell? ⟨g2, o2 + k, none⟩ = some (.string (S.getD k ByteArray.empty)) := cell_later HB.out (k2 k _ (getD_of (by have := HLEN.out; omega)))
      have hsz : (N.getD k ByteArray.empty).size ≤ 140737488351232 := HZ.out _ (List.mem_of_getElem? (getD_of hlt))
      obtain ⟨ep, hep⟩ := HE.out.shape
      subst hep
      clear k1 k2
      cases ht : isTy (S.getD k ByteArray.empty).data.toList with
      | false =>
        have HCK := Lib.hid (Check_no _ ht wr)
        have HNB : Hid (¬ argOk N S k) := Lib.hid (fun h => by rw [h.1] at ht; cases ht)
        generalize S.getD k ByteArray.empty = sk at *
        clear ht
        go_wp2_with fail
        refine HCK.out.mono ?_
        rintro E w2 ⟨cc, pp, hc20, -, -, rfl, rfl⟩
        have hcz : (cc != 0) = true := by rw [bne, beq_eq_false_iff_ne.2 (by omega)]; rfl
        clear hc20
        exact absurd (HOK.out k (by omega)) HNB.out
      | true =>
        obtain ⟨Tk, e1, hTf, e2⟩ := argOk_ty' ht
        have HCK := Lib.hid (Check_yes Tk hTf wr)
        have HIS := Lib.hid (fun w' h => tIsName_any (N.getD k ByteArray.empty) w' hsz h)
        have HW := Lib.hid (fun w' h => with_any (.pointer ep) (envTo N S k) (N.getD k ByteArray.empty) Tk w' h)
        have HEV : Hid (envTo N S (k + 1) = (N.getD k ByteArray.empty, Tk) :: envTo N S k) := Lib.hid (by show (_, _) :: _ = _; rw [e2])
        cases hnm : Tx.isName (N.getD k ByteArray.empty).data.toList with
        | false =>
          have HNB : Hid (¬ argOk N S k) := Lib.hid (fun h => by rw [h.2] at hnm; cases hnm)
          rw [hnm] at HIS
          rw [e1] at x2
          generalize N.getD k ByteArray.empty = nk at *
          clear ht e1 e2 hnm
          go_wp2_with fail
          refine HCK.out.mono ?_
          rintro E w2 ⟨rfl, rfl⟩
          go_wp2_with fail
          refine (HIS.out _ (HSP.out.later HB.out)).mono ?_
          rintro E w3 ⟨rfl, hb3⟩
          have HB3 := Lib.hid (below_later hb3 HB.out)
          clear hb3
          exact absurd (HOK.out k (by omega)) HNB.out
        | true =>
          have HG2 : Hid (∀ j, j < k + 1 → argOk N S j) := Lib.hid (fun j hj => by
            rcases Nat.lt_succ_iff_lt_or_eq.1 hj with h | rfl
            · exact HG.out j h
            · exact ⟨ht, hnm⟩)
          rw [hnm] at HIS
          rw [e1] at x2
          generalize N.getD k ByteArray.empty = nk at *
          clear ht e1 e2 hnm
          go_wp2_with fail
          refine HCK.out.mono ?_
          rintro E w2 ⟨rfl, rfl⟩
          go_wp2_with fail
          refine (HIS.out _ (HSP.out.later HB.out)).mono ?_
          rintro E w3 ⟨rfl, hb3⟩
          have HB3 := Lib.hid (below_later hb3 HB.out)
          have y2 := cell_later hb3 x2
          have HE3 := Lib.hid (HE.out.later hb3)
          clear hb3 x1 x2
          go_wp2_with fail
          refine (HW.out _ HE3.out).mono ?_
          rintro E w4 ⟨v4, rfl, hE4, hb4⟩
          have HB4 := Lib.hid (below_later hb4 HB3.out)
          have HE4 : Hid (EnvIs w4 v4 (envTo N S (k + 1))) := Lib.hid (by rw [HEV.out]; exact hE4)
          clear hE4 hb4 y2
          go_wp2_with fail
          go_roundw
          case rel => exact ⟨k + 1, by omega, by go_num, HG2, HE4, HB4⟩
          case measure => simp [intOf]; omega
    ·
      obtain rfl : k = N.length := by omega
      have HCK := Lib.hid (fun w' hb => tCheck_any T tv w' (HND.out.later hb) (HSP.out.later hb) hzT hkT)
      have hq := neq_lit (z := 0) (show ((Tr.check T).1 : Int) ≠ 0 by omega)
      generalize Tr.check T = cc at *
      clear hc HG HE
      go_wp2_with fail
      refine (HCK.out _ HB.out).mono ?_
      rintro E w2 ⟨rfl, hb2⟩
      have HB2 := Lib.hid (below_later hb2 HB.out)
      clear hb2 HB
      go_wp2_with fail
      refine bodyPost_ret (v := .tuple #[.slice none 0 0, .int .i64 cc.1, .int .i64 cc.2]) (by simp [results, Tryz.results6, go_sem]) rfl ?_
      exact Makes.mk rfl HB2.out
/-- What Expr answers of a tree that may be. -/
def ExprRes (R : Except Tr.Bad (List Ty)) (w : World) (E : Ending) (w' : World) : Prop := match R with
  | .error b => b.1 ≠ 0 ∧ Makes (.tuple #[.slice none 0 0, .int .i64 b.1, .int .i64 (b.2 : Int)]) w E w'
  | .ok ts => ∃ v, E = .returned (.tuple #[v, .int .i64 0, .int .i64 0]) ∧ w'.ownsRow w.heap.size 9 1 v ts.length (strs ts) ∧ Below w.heap.size w w'
omit hn hN hS hSp hz hNl in
theorem laid_all {ys : List ByteArray} {ts : List Ty} (h : Tr.LaidK ys [(0, ts)]) (hl : ys.length = ts.length) : ys.map Value.string = strs ts := by
  have h2 := (h _ List.mem_cons_self).2
  unfold strs
  apply List.ext_getElem?
  intro j
  rw [List.getElem?_map, List.getElem?_map]
  cases hj : ts[j]? with
  | none =>
    have : ys[j]? = none := by
      rw [List.getElem?_eq_none_iff] at hj ⊢
      omega
    rw [this]; rfl
  | some t =>
    have := (h2 j t hj).1
    rw [Nat.zero_add] at this
    rw [this]; rfl
set_option maxRecDepth 100000 in
set_option maxHeartbeats 6400000 in
theorem Expr_ok (hok : ArgsOk N S) (hTab : Tab w) (x : Nd) (ks : Tr.F) (hTl : T.length ≤ 1000000) (hzT : ∀ x ∈ T, x.s.size ≤ 140737488351232) (hkT : ∀ x ∈ T, x.kids ≤ 9223372036854775807) (hcc : Tr.check T = (0, 0)) (hT : T = x :: ks.flat) (hO : (Tr.F.cons x ks .nil).Ok) (hm : ∀ y ∈ T, Tr.may y = true) :
    Calls Tryz.prog 6 #[tv, nv, sv] w (ExprRes (Tr.chk1 false x ks (envTo N S N.length) 0) w) := by
  have hlen := hok.1
  have HOK := Lib.hid hok.2
  have HTAB := Lib.hid hTab
  have HCC := Lib.hid hcc
  have HTX := Lib.hid hT
  have HO := Lib.hid hO
  have HM := Lib.hid hm
  clear hok hTab hcc hT hO hm
  have HN := Lib.hid hN
  have HS := Lib.hid hS
  have HSP := Lib.hid hSp
  have HZ := Lib.hid hz
  have HND := Lib.hid hn
  obtain ⟨A1, c1, rfl, hc1, hN1⟩ := HN.out
  obtain ⟨A2, c2, rfl, hc2, hS1⟩ := HS.out
  have q : (((N.length : Nat) : Int) != ((S.length : Nat) : Int)) = false := neq_lit0 (by rw [hlen])
  have HLEN := Lib.hid hlen
  have HN1 := Lib.hid hN1
  have HS1 := Lib.hid hS1
  clear hn hN hS hSp hz hlen hN1 hS1
  go_enter Tryz.func6, Tryz.ntmps6
  go_wp2_with fail
  go_loopw [9, 24] (fun v i wr => ∃ k : Nat, k ≤ N.length ∧ i = .int .i64 k ∧ Hid (∀ j, j < k → argOk N S j) ∧ Hid (EnvIs wr v (envTo N S k)) ∧ Hid (Below w.heap.size w wr)) (fun _ i _ => N.length - (intOf i).toNat)
  case atStart => exact ⟨0, Nat.zero_le _, rfl, Lib.hid (fun j hj => absurd hj (Nat.not_lt_zero _)), Lib.hid rfl, Lib.hid (Below.refl _ _)⟩
  case round =>
    obtain ⟨k, hk, rfl, HG, HE, HB⟩ := hrel
    by_cases hlt : k < N.length
    ·
      have hlt2 : (k : Int) < (S.length : Int) := by have := HLEN.out; omega
      obtain ⟨g1, o1, rfl, k1⟩ := HN1.out (by omega)
      obtain ⟨g2, o2, rfl, k2⟩ := HS1.out (by have := HLEN.out; omega)
      have x1 : wr.cell? ⟨g1, o1 + k, none⟩ = some (.string (N.getD k ByteArray.empty)) := cell_later HB.out (k1 k _ (getD_of hlt))
      have x2 : wr.cell? ⟨g2, o2 + k, none⟩ = some (.string (S.getD k ByteArray.empty)) := cell_later HB.out (k2 k _ (getD_of (by have := HLEN.out; omega)))
      have hsz : (N.getD k ByteArray.empty).size ≤ 140737488351232 := HZ.out _ (List.mem_of_getElem? (getD_of hlt))
      obtain ⟨ep, hep⟩ := HE.out.shape
      subst hep
      clear k1 k2
      cases ht : isTy (S.getD k ByteArray.empty).data.toList with
      | false =>
        have HCK := Lib.hid (Check_no _ ht wr)
        have HNB : Hid (¬ argOk N S k) := Lib.hid (fun h => by rw [h.1] at ht; cases ht)
        generalize S.getD k ByteArray.empty = sk at *
        clear ht
        go_wp2_with fail
        refine HCK.out.mono ?_
        rintro E w2 ⟨cc, pp, hc20, -, -, rfl, rfl⟩
        have hcz : (cc != 0) = true := by rw [bne, beq_eq_false_iff_ne.2 (by omega)]; rfl
        clear hc20
        exact absurd (HOK.out k (by omega)) HNB.out
      | true =>
        obtain ⟨Tk, e1, hTf, e2⟩ := argOk_ty' ht
        have HCK := Lib.hid (Check_yes Tk hTf wr)
        have HIS := Lib.hid (fun w' h => tIsName_any (N.getD k ByteArray.empty) w' hsz h)
        have HW := Lib.hid (fun w' h => with_any (.pointer ep) (envTo N S k) (N.getD k ByteArray.empty) Tk w' h)
        have HEV : Hid (envTo N S (k + 1) = (N.getD k ByteArray.empty, Tk) :: envTo N S k) := Lib.hid (by show (_, _) :: _ = _; rw [e2])
        cases hnm : Tx.isName (N.getD k ByteArray.empty).data.toList with
        | false =>
          have HNB : Hid (¬ argOk N S k) := Lib.hid (fun h => by rw [h.2] at hnm; cases hnm)
          rw [hnm] at HIS
          rw [e1] at x2
          generalize N.getD k ByteArray.empty = nk at *
          clear ht e1 e2 hnm
          go_wp2_with fail
          refine HCK.out.mono ?_
          rintro E w2 ⟨rfl, rfl⟩
          go_wp2_with fail
          refine (HIS.out _ (HSP.out.later HB.out)).mono ?_
          rintro E w3 ⟨rfl, hb3⟩
          have HB3 := Lib.hid (below_later hb3 HB.out)
          clear hb3
          exact absurd (HOK.out k (by omega)) HNB.out
        | true =>
          have HG2 : Hid (∀ j, j < k + 1 → argOk N S j) := Lib.hid (fun j hj => by
            rcases Nat.lt_succ_iff_lt_or_eq.1 hj with h | rfl
            · exact HG.out j h
            · exact ⟨ht, hnm⟩)
          rw [hnm] at HIS
          rw [e1] at x2
          generalize N.getD k ByteArray.empty = nk at *
          clear ht e1 e2 hnm
          go_wp2_with fail
          refine HCK.out.mono ?_
          rintro E w2 ⟨rfl, rfl⟩
          go_wp2_with fail
          refine (HIS.out _ (HSP.out.later HB.out)).mono ?_
          rintro E w3 ⟨rfl, hb3⟩
          have HB3 := Lib.hid (below_later hb3 HB.out)
          have y2 := cell_later hb3 x2
          have HE3 := Lib.hid (HE.out.later hb3)
          clear hb3 x1 x2
          go_wp2_with fail
          refine (HW.out _ HE3.out).mono ?_
          rintro E w4 ⟨v4, rfl, hE4, hb4⟩
          have HB4 := Lib.hid (below_later hb4 HB3.out)
          have HE4 : Hid (EnvIs w4 v4 (envTo N S (k + 1))) := Lib.hid (by rw [HEV.out]; exact hE4)
          clear hE4 hb4 y2
          go_wp2_with fail
          go_roundw
          case rel => exact ⟨k + 1, by omega, by go_num, HG2, HE4, HB4⟩
          case measure => simp [intOf]; omega
    ·
      obtain rfl : k = N.length := by omega
      have HCK := Lib.hid (fun w' hb => tCheck_any T tv w' (HND.out.later hb) (HSP.out.later hb) hzT hkT)
      rw [HCC.out] at HCK
      have HEFN := Lib.hid (envTo_fits N.length HG.out)
      obtain ⟨AT, CT, rfl, hlc, -⟩ := HND.out
      clear HG
      go_wp2_with fail
      refine (HCK.out _ HB.out).mono ?_
      rintro E W ⟨rfl, hb2⟩
      have HBW := Lib.hid (below_later hb2 HB.out)
      have HEW := Lib.hid (HE.out.later hb2)
      have HNW := Lib.hid (HND.out.later HBW.out)
      have HTW := Lib.hid (HTAB.out.later HBW.out)
      clear hb2 HB HE HCK
      obtain ⟨i0, hi, hz0, hz1, hz2⟩ := info_parts strings_info
      go_wp2_with (refine wpList_make_full _ rfl (.tmp 63) (.tmp 63) 24 rfl W.heap.size 9 i0 _ 1 Tryz.underlying24 hi hz0 hz1 .i64 .i64 (T.length : Int) (T.length : Int) T.length rfl rfl rfl rfl (by rw [hz2]; omega) (by unfold maxLen; omega) (Nat.le_refl _) ?_)
      intro w3 hown hgr
      have hb3 : Below W.heap.size W w3 := (Below.refl _ _).grown hgr (Nat.le_refl _) fun k hk => by cases hk
      rw [toList_madeCells_one] at hown
      have hys : (List.replicate T.length (Value.string ByteArray.empty)) = (List.replicate T.length ByteArray.empty).map Value.string := by rw [List.map_replicate]
      rw [hys] at hown
      have hln : (List.replicate T.length ByteArray.empty).length = T.length := List.length_replicate
      have hb4 : Below w3.heap.size w3 (w3.alloc (.cells #[.slice AT T.length CT, .slice (some ⟨W.heap.size, 0, none⟩) T.length T.length, .int .i64 0, .int .i64 0] 84)) := (Below.refl _ _).alloc (Nat.le_refl _) _
      have HB4 := Lib.hid (below_later hb4 hb3)
      have HCA : Hid (CkAt w3.heap.size W.heap.size (.slice AT T.length CT) (.slice (some ⟨W.heap.size, 0, none⟩) T.length T.length) (List.replicate T.length ByteArray.empty) 0 0 (w3.alloc (.cells #[.slice AT T.length CT, .slice (some ⟨W.heap.size, 0, none⟩) T.length T.length, .int .i64 0, .int .i64 0] 84))) := Lib.hid ⟨(MapKept.heap_alloc w3 _).1, by rw [hln]; exact own_later hown hb4⟩
      have hcW : W.heap.size ≤ w3.heap.size := hb3.size
      have HPC := Lib.hid (part_all T (.slice AT T.length CT) W w3.heap.size W.heap.size HNW.out hTl HTW.out hcW (Nat.le_refl _) HM.out (ks.hgt + 1) x ks [] [] 0 (envTo N S N.length) _ _ _ _ 0 (Nat.lt_succ_self _) (by rw [HTX.out]; simp) rfl HO.out HB4.out (HEW.out.later (below_later hb4 hb3)) HEFN.out hln HCA.out)
      have HBA : Hid (∀ w' , KeepN w3.heap.size (Value.slice (some ⟨W.heap.size, 0, none⟩) T.length T.length).ownBlock (w3.alloc (.cells #[.slice AT T.length CT, .slice (some ⟨W.heap.size, 0, none⟩) T.length T.length, .int .i64 0, .int .i64 0] 84)) w' → Below w.heap.size w w') := Lib.hid (fun w' k => by
        have := HCA.out.base k HB4.out hcW (Nat.le_refl _)
        exact below_later this HBW.out)
      have HBS : Hid (w.heap.size ≤ W.heap.size) := Lib.hid HBW.out.size
      have HYL := Lib.hid hln
      have HTX2 : Hid (T.length = 1 + ks.flat.length) := Lib.hid (by rw [HTX.out]; simp; omega)
      clear hown hgr hb3 hys hln hb4 HB4 HCA hcW HNW HTW HEW HEFN hi hz0 hz1 hz2
      go_wp2_with fail
      refine HPC.out.mono ?_
      rintro E w5 ⟨s5, ys5, rfl, hC5, hK5, hG5, hS5, hL5⟩
      have HC5 := Lib.hid hC5
      have HB5 := Lib.hid (HBA.out _ hK5)
      have HS5 := Lib.hid hS5
      clear HPC HBA hC5 hK5 hS5
      generalize Tr.chk1 false x ks (envTo N S N.length) 0 = R at *
      cases R with
      | error bb =>
        have c2 : w5.cell? ⟨w3.heap.size, 2, none⟩ = some (.int .i64 bb.1) := HC5.out.c2
        have c3 : w5.cell? ⟨w3.heap.size, 3, none⟩ = some (.int .i64 (bb.2 : Int)) := HC5.out.c3
        have q : (bb.1 != 0) = true := by
          have := hG5 bb rfl
          simpa using this
        have HGB := Lib.hid (hG5 bb rfl)
        have HB6 : Hid (∀ nq, Below w.heap.size w (w5.drewN nq)) := Lib.hid (fun nq => below_later (below_dn w5 nq) HB5.out)
        clear hG5 hL5
        go_wp2_with fail
        go_quiet (fail)
        go_wp2_with fail
        refine bodyPost_ret (v := .tuple #[.slice none 0 0, .int .i64 bb.1, .int .i64 (bb.2 : Int)]) (by simp [results, Tryz.results6, go_sem]) rfl ?_
        exact ⟨HGB.out, Makes.mk rfl (HB6.out _)⟩
      | ok ts =>
        obtain ⟨hla, hln, -⟩ := hL5 ts rfl
        have c1 := HC5.out.c1
        have c2 : w5.cell? ⟨w3.heap.size, 2, none⟩ = some (.int .i64 0) := HC5.out.c2
        have HR : Hid (w5.ownsRow w.heap.size 9 1 (.slice (some ⟨W.heap.size, 0, none⟩) T.length T.length) ts.length (strs ts)) := Lib.hid (by
          have hl : ys5.length = ts.length := by rw [HS5.out.1, HYL.out, HTX2.out, hln]
          have := HC5.out.own
          rw [laid_all hla hl, hl] at this
          exact own_base this HBS.out)
        clear hG5 hL5 hla hln
        go_wp2_with fail
        refine bodyPost_ret (v := .tuple #[.slice (some ⟨W.heap.size, 0, none⟩) T.length T.length, .int .i64 0, .int .i64 0]) (by simp [results, Tryz.results6, go_sem]) rfl ?_
        exact ⟨_, rfl, HR.out, HB5.out⟩
end
end Go.Proofs.YtdfadmhomjcmeaaGreatDoor

/- The statements of check: no idle program. Plain first. -/
namespace Culp.Tr
set_option linter.unusedSimpArgs false
set_option linter.unusedVariables false
open Go
end Culp.Tr
namespace Go.Proofs.YtdfadmhomjcmeaaGreatDoor
set_option linter.unusedSimpArgs false
set_option linter.unusedVariables false
open Go.RowKit Go.Maps Culp
theorem w_args (t : Ty) (h : t.fits) : ArgsOk [⟨#[120]⟩] [t.str] ∧ envTo [⟨#[120]⟩] [t.str] 1 = [(⟨#[120]⟩, t)] := by
  refine ⟨⟨rfl, fun j hj => ?_⟩, ?_⟩
  · simp only [List.length_cons, List.length_nil] at hj
    obtain rfl : j = 0 := by omega
    exact ⟨by show isTy t.str.data.toList = true; rw [str_list]; exact isTy_enc t h, rfl⟩
  · show [(_, (tyOf t.str).getD .dyn)] = _
    rw [tyOf_str t h]; rfl
theorem lit_text (w : World) (a : ByteArray) : Txts (w.alloc (.cells #[.string a] 9)) (.slice (some ⟨w.heap.size, 0, none⟩) 1 1) [a] :=
  ⟨_, 1, rfl, Nat.le_refl _, fun _ => ⟨w.heap.size, 0, rfl, fun j s hj => by
    match j, hj with
    | 0, hj =>
      simp only [List.getElem?_cons_zero, Option.some.injEq] at hj
      subst hj
      rw [Nat.zero_add, World.cell?_alloc_at _ _ _ _ rfl]; rfl
    | j + 1, hj => simp at hj⟩⟩
end Go.Proofs.YtdfadmhomjcmeaaGreatDoor

/- The statements of check: what Expr answers, whatever comes in; texts that are the same; what is too long. -/
namespace Go.Proofs.YtdfadmhomjcmeaaGreatDoor
set_option linter.unusedSimpArgs false
set_option linter.unusedVariables false
open Go.RowKit Go.Maps Culp
theorem Txts.at_ {w : World} {v : Value} {L : List ByteArray} (h : Txts w v L) {k : Nat} (hk : k < L.length) : ∃ g o c, v = .slice (some ⟨g, o, none⟩) L.length c ∧ w.cell? ⟨g, o + k, none⟩ = some (.string L[k]) := by
  obtain ⟨A, c, rfl, _, h3⟩ := h
  obtain ⟨g, o, rfl, hc⟩ := h3 (by omega)
  exact ⟨g, o, c, rfl, hc k _ (List.getElem?_eq_getElem hk)⟩
theorem Txts.form {w : World} {v : Value} {L : List ByteArray} (h : Txts w v L) : ∃ A c, v = .slice A L.length c := by
  obtain ⟨A, c, rfl, _⟩ := h
  exact ⟨A, c, rfl⟩
theorem Txts.own {w : World} {v : Value} {L : List ByteArray} {base n : Nat} {e : TypeId} (h : w.ownsRow base e 1 v n (L.map Value.string)) : Txts w v L := by
  obtain ⟨A, c, rfl, h2, _, h4⟩ := Nms.own h
  refine ⟨A, c, rfl, h2, fun h0 => ?_⟩
  obtain ⟨A', c', e1, _, h3, _⟩ := Nms.own h
  simp only [Value.slice.injEq] at e1
  obtain ⟨rfl, _, rfl⟩ := e1
  cases A with
  | none =>
    have := (h3 rfl).1
    rw [this] at h0
    exact absurd h0 (Nat.lt_irrefl _)
  | some b =>
    obtain ⟨g, rfl, _, hc⟩ := h4 b rfl
    exact ⟨g, 0, rfl, fun j s hj => by rw [Nat.zero_add]; exact hc j s hj⟩
/-- Some of the texts. -/
theorem Txts.cut {w : World} {g o n c : Nat} {L : List ByteArray} (h : Txts w (.slice (some ⟨g, o, none⟩) n c) L) (p m k : Nat) (S : List ByteArray) (hS : (L.drop p).take m = S) (hm : S.length = m) (hk : m ≤ k) : Txts w (.slice (some ⟨g, o + p, none⟩) m k) S := by
  subst hm
  refine ⟨_, k, rfl, hk, fun h0 => ⟨g, o + p, rfl, fun j s hj => ?_⟩⟩
  have hl : 0 < L.length := by
    have := congrArg List.length hS
    rw [List.length_take, List.length_drop] at this
    omega
  obtain ⟨A, c', e1, _, h3⟩ := h
  obtain ⟨g', o', e2, hc⟩ := h3 hl
  simp only [Value.slice.injEq] at e1
  obtain ⟨rfl, _, _⟩ := e1
  simp only [Option.some.injEq, Addr.mk.injEq] at e2
  obtain ⟨rfl, rfl, _⟩ := e2
  have hj2 : L[p + j]? = some s := by
    rw [← hS, List.getElem?_take] at hj
    split at hj
    · rwa [List.getElem?_drop] at hj
    · cases hj
  rw [Nat.add_assoc]
  exact hc _ s hj2
end Go.Proofs.YtdfadmhomjcmeaaGreatDoor
