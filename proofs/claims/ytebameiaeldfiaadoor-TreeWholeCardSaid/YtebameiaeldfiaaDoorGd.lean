
/- The walk of the statement TreeWhole. -/
import Derived.Test.YtebameiaeldfiaaDoorGc
namespace Go.Proofs.YtebameiaeldfiaaDoor
set_option linter.unusedSimpArgs false
set_option linter.unusedVariables false
open Go.RowKit Go.Maps Culp

/-- Facts of a part by itself. -/
structure PartOk (y : Nd) (ky : Tr.F) : Prop where
  ok : (Tr.F.cons y ky .nil).Ok
  may : ∀ z ∈ y :: ky.flat, Tr.may z = true
  hgt : ky.hgt + 1 ≤ 64
  len : (y :: ky.flat).length ≤ 300
  sz : ∀ z ∈ y :: ky.flat, z.s.size ≤ 140737488351232
  kd : ∀ z ∈ y :: ky.flat, z.kids ≤ 9223372036854775807
theorem PartOk.check {y : Nd} {ky : Tr.F} (h : PartOk y ky) : Tr.check (y :: ky.flat) = (0, 0) := Tr.F.check_one (by have := h.len; omega) h.ok h.may h.hgt
theorem PartOk.free {y : Nd} {ky : Tr.F} (h : PartOk y ky) {tv : Value} {w : World} (hn : Nodes w tv (y :: ky.flat)) (hS : Sp w) : Calls Tryd.prog 23 #[tv] w (NmsRes (Tr.F.free y ky) w) :=
  Free_ok (y :: ky.flat) tv y ky w hn hS (by have := h.len; omega) h.sz h.kd h.check rfl h.ok h.may h.hgt
theorem nodes_cells {w : World} {b off n c : Nat} {T : List Nd} {q : Nat} {x : Nd} (h : Nodes w (.slice (some ⟨b, off, none⟩) n c) T) (hx : T[q]? = some x) :
    w.cell? ⟨b, off + q * 8, none⟩ = some (.int .i8 x.kind) ∧ w.cell? ⟨b, off + q * 8 + 1, none⟩ = some (.int .i64 x.kids) ∧ w.cell? ⟨b, off + q * 8 + 2, none⟩ = some (.int .i64 x.n) ∧ w.cell? ⟨b, off + q * 8 + 3, none⟩ = some (.string x.s) ∧
    w.cell? ⟨b, off + q * 8 + 4, none⟩ = some (.string x.t) ∧ w.cell? ⟨b, off + q * 8 + 5, none⟩ = some (.string x.u) ∧ w.cell? ⟨b, off + q * 8 + 6, none⟩ = some (.int .i64 x.line) ∧ w.cell? ⟨b, off + q * 8 + 7, none⟩ = some (.int .i64 x.col) := by
  obtain ⟨A, c', e1, _, h3⟩ := h
  simp only [Value.slice.injEq] at e1
  obtain ⟨rfl, _, rfl⟩ := e1
  obtain ⟨b', off', e2, hM⟩ := h3 (by have := (List.getElem?_eq_some_iff.1 hx).1; omega)
  simp only [Option.some.injEq, Addr.mk.injEq] at e2
  obtain ⟨rfl, rfl, _⟩ := e2
  exact hM.at_ hx
theorem max_cast {m h : Nat} : Value.int .i64 (max (m : Int) (h : Int)) = .int .i64 ((max m h : Nat) : Int) := by congr 1; omega
set_option maxRecDepth 100000 in
set_option maxHeartbeats 12800000 in
theorem whole_walk (T : List Nd) (tv : Value) (w : World) (hn : Nodes w tv T) (hS : Sp w) (hT : T.length ≤ 1000000000000000) (hz : ∀ x ∈ T, x.s.size ≤ 140737488351232) (hkd : ∀ x ∈ T, x.kids ≤ 9223372036854775807) :
    Calls Tryd.prog 5 #[tv] w (Makes (.bool true) w) := by
  have HN := Lib.hid hn
  have HS := Lib.hid hS
  have HZ := Lib.hid hz
  have HK := Lib.hid hkd
  obtain ⟨A, c, rfl, hlc, _⟩ := hn
  clear hS hz hkd
  go_enter Tryd.func5, Tryd.ntmps5
  go_wp2_with fail
  refine (works_any _ HS.out).mono ?_
  rintro e w1 ⟨rfl, hb1⟩
  have HB1 := Lib.hid hb1
  clear hb1
  go_wp2_with fail
  refine (tCheck_any T _ _ (HN.out.later HB1.out) (HS.out.later HB1.out) HZ.out HK.out).mono ?_
  rintro e w2 ⟨rfl, hb2⟩
  have HB2 := Lib.hid (below_later hb2 HB1.out)
  clear hb2 HB1
  have HC := Lib.hid (Tr.F.of_check (T := T))
  generalize (Tr.check T).2 = c2 at *
  generalize (Tr.check T).1 = c1 at *
  by_cases hc : c1 = 0
  rotate_left
  · have e0 := neq_lit (z := 0) (show (c1 : Int) ≠ 0 by omega)
    clear HC
    go_wp2_with fail
    go_ret
    exact Makes.mk rfl HB2.out
  have e0 := neq_lit0 (z := 0) (show (c1 : Int) = 0 by omega)
  obtain ⟨hl4, x0, k0, hT0, hO0, hm0, hh0⟩ := HC.out hc
  have HT0 := Lib.hid hT0
  have HO0 := Lib.hid hO0
  have HM0 := Lib.hid hm0
  have HH0 := Lib.hid hh0
  clear hc hT0 hO0 hm0 hh0 HC
  by_cases hbig : 300 < T.length
  · go_wp2_with fail
    go_ret
    exact Makes.mk rfl HB2.out
  have hl3 : T.length ≤ 300 := by omega
  clear hbig hl4 hT
  go_wp2_with fail
  clear e0
  go_loopw [6] (fun i wr => ∃ q : Nat, q ≤ T.length ∧ i = .int .i64 q ∧ Hid (Below w.heap.size w wr)) (fun i _ => T.length - (intOf i).toNat)
  case atStart => exact ⟨0, Nat.zero_le _, rfl, HB2⟩
  case round =>
    clear HB2
    obtain ⟨q, hq, rfl, HB⟩ := hrel
    obtain ⟨wq, rfl⟩ : ∃ wq, wq = wr := ⟨_, rfl⟩
    by_cases hlt : q < T.length
    rotate_left
    · go_wp2_with fail
      go_ret
      exact Makes.mk rfl HB.out
    obtain ⟨pre, x, ks, post, hTT, hp, hO, hh⟩ := Tr.whole_at HT0.out HO0.out HH0.out hlt
    have hx : T[q]? = some x := by rw [hTT, ← hp]; simp
    have hxm := List.mem_of_getElem? hx
    have hmx := HM0.out x hxm
    have HBH : Hid (Tr.behind T (q : Int) = q + 1 + ks.flat.length) := Lib.hid (by have := Tr.F.behind_at hTT hO; rw [hp] at this; exact this)
    have HKS : Hid (Tr.kidsOf T (q : Int) = ks.places (q + 1)) := Lib.hid (by have := Tr.F.kids_at hTT hO; rw [hp] at this; exact this)
    have HPX : Hid (PartOk x ks) := Lib.hid (by
      have hsub : ∀ z ∈ x :: ks.flat, z ∈ T := by
        intro z hz
        rw [hTT]
        rcases List.mem_cons.1 hz with rfl | hz
        · simp
        · simp [hz]
      exact ⟨hO, fun z hz => HM0.out z (hsub z hz), hh, by
        have := congrArg List.length hTT
        simp only [List.length_append, List.length_cons] at this ⊢
        omega, fun z hz => HZ.out z (hsub z hz), fun z hz => HK.out z (hsub z hz)⟩)
    have hen : q + 1 + ks.flat.length ≤ T.length := by
      have := congrArg List.length hTT
      simp only [List.length_append, List.length_cons] at this
      omega
    have HAR := Lib.hid (Tr.arit_kids hmx hO)
    have HBD : Hid (Bd x) := Lib.hid (Tr.bd_of hmx (HZ.out x hxm))
    have HX := Lib.hid hx
    have HTT := Lib.hid hTT
    have HP := Lib.hid hp
    have hkn : ((ks.cnt : Int) != x.kids) = false := by rw [hO.1]; simp
    have hcl := Tr.F.cnt_le ks
    have HCN := Lib.hid hcl
    clear hTT hp hO hh hx hxm hmx hcl
    go_wp2_with fail
    refine (tBehind_any T _ (q : Int) _ (HN.out.later HB.out) (by omega)).mono ?_
    rw [HBH.out]
    rintro e w3 ⟨rfl, hb3⟩
    have HB3 := Lib.hid (below_later hb3 HB.out)
    clear hb3 HB
    obtain ⟨en, hen0⟩ : ∃ en, q + 1 + ks.flat.length = en := ⟨_, rfl⟩
    rw [hen0] at HBH hen
    rw [hen0]
    have HEN := Lib.hid hen0
    have hqe : q < en := by omega
    have hqe2 : ¬ en ≤ q := by omega
    have hen2 : ¬ T.length < en := by omega
    have hflat : ks.flat.length ≤ 300 := by omega
    clear hen0
    go_wp2_with fail
    refine (tKids_any T _ (q : Int) _ (HN.out.later HB3.out) (by omega)).mono ?_
    rintro e w4 ⟨kv, rfl, hown, hb4⟩
    rw [HKS.out, Tr.F.places_len] at hown
    have HB4 := Lib.hid (below_later hb4 HB3.out)
    have HKW : Hid (w4.ownsRow w.heap.size 3 1 kv ks.cnt ((ks.places (q + 1)).map natV)) := Lib.hid (own_base hown HB3.out.size)
    obtain ⟨Ak, ck, rfl⟩ := own_shape hown
    clear hown hb4 HB3
    obtain ⟨A2, c2', e2, _, hN4⟩ := HN.out.later HB4.out
    simp only [Value.slice.injEq] at e2
    obtain ⟨rfl, _, rfl⟩ := e2
    obtain ⟨b, off, rfl, hM4⟩ := hN4 (by omega)
    obtain ⟨n0, n1, n2, n3, n4, n5, n6, n7⟩ := hM4.at_ HX.out
    clear hN4 hM4
    go_wp2_with fail
    refine (tArity_any x.kind _).mono ?_
    rintro e w' ⟨rfl, rfl⟩
    have hkc : ks.cnt ≤ 300 := by have := HCN.out; omega
    obtain ⟨av, fb, hav, hfb, hcase⟩ : ∃ (av : Int) (fb : Bool), max (Tr.arit x.kind) 0 = av ∧ decide (0 ≤ Tr.arit x.kind) = fb ∧ (fb = false ∨ (fb = true ∧ av = ks.cnt)) := ⟨_, _, rfl, rfl, HAR.out⟩
    rw [hav, hfb]
    clear hav hfb HAR
    rcases hcase with rfl | ⟨rfl, rfl⟩
    · skip
      go_wp2_with fail
      go_loopw [11, 12, 13, 14] (fun nx dp fr i wr => ∃ (k m p' : Nat) (r : Tr.F) (pr : List Nd) (Lr : List ByteArray) (u : Value), nx = .int .i64 p' ∧ dp = .int .i64 m ∧ u = fr ∧ i = .int .i64 k ∧ k + r.cnt = ks.cnt ∧ Lr.length + r.flat.length ≤ 4096 ∧ p' + r.flat.length = en ∧ Hid (pr.length = p') ∧ Hid (T = pr ++ (r.flat ++ post)) ∧ Hid r.Ok ∧ Hid (max m r.hgt = ks.hgt) ∧ Hid (∀ j, (r.places p')[j]? = (ks.places (q + 1))[k + j]?) ∧ Hid (Tr.addAll Lr (r.vars (fun j => Tr.binds x j) k) = Tr.addAll [] (ks.vars (fun j => Tr.binds x j) 0)) ∧ Hid (wr.ownsRow w.heap.size 9 1 u Lr.length (Lr.map Value.string)) ∧ Hid (wr.ownsRow w.heap.size 3 1 (.slice Ak ks.cnt ck) ks.cnt ((ks.places (q + 1)).map natV)) ∧ Hid (Below w.heap.size w wr)) (fun _ _ _ i _ => ks.cnt - (intOf i).toNat)
      case atStart => exact ⟨0, 0, q + 1, ks, pre ++ [x], [], _, by go_num, rfl, rfl, rfl, by omega, by rw [List.length_nil]; omega, HEN.out, Lib.hid (by rw [List.length_append, HP.out]; rfl), Lib.hid (by rw [HTT.out]; simp), Lib.hid HPX.out.ok.2.1, Lib.hid (Nat.max_eq_right (Nat.zero_le _)), Lib.hid (fun j => by rw [Nat.zero_add]), Lib.hid rfl, Lib.hid (World.ownsRow_nil _ _ _ _), HKW, HB4⟩
      case round =>
        clear HKW HB4 n0 n1 n2 n3 n4 n5 n6 n7
        obtain ⟨k, m, p', r, pr, Lr, u, rfl, rfl, rfl, rfl, hk, hLr, hpe, HPP, HTR, HOr, HMX, HKP, HV, HOW, HKW, HB⟩ := hrel
        obtain ⟨wi, rfl⟩ : ∃ wi, wi = wr := ⟨_, rfl⟩
        cases r with
        | nil =>
          have hkc : k = ks.cnt := by simp only [Tr.F.cnt] at hk; omega
          have hpe2 : p' = en := by simp only [Tr.F.flat, List.length_nil] at hpe; omega
          have hmm : m = ks.hgt := by have := HMX.out; simp only [Tr.F.hgt] at this; omega
          have HL2 : Hid (Lr = Tr.addAll [] (ks.vars (fun j => Tr.binds x j) 0)) := Lib.hid (by have := HV.out; rwa [Tr.F.vars, Tr.addAll_nil] at this)
          subst hkc hpe2 hmm
          obtain ⟨Au, cu, rfl⟩ := own_shape HOW.out
          obtain ⟨n0, n1, n2, n3, n4, n5, n6, n7⟩ := nodes_cells (HN.out.later HB.out) HX.out
          have hlr4 : Lr.length ≤ 4096 := by omega
          have hqc : ¬ c = q := by omega
          have hpc : p' ≤ c := by omega
          clear HV HKP HMX HOr HTR HPP hk hLr hpe
          go_wp2_with fail
          refine (CopyNodes_any (x :: ks.flat) _ _ (Nodes.cut (HN.out.later HB.out) q (p' - q) (c - q) (by have := Tr.part_take HTT.out; rw [HP.out] at this; rw [← this]; congr 1; have := HEN.out; omega) (by rw [List.length_cons]; have := HEN.out; omega) (by omega)) (by rw [List.length_cons]; omega)).mono ?_
          rintro e w5 ⟨pv, rfl, hNP, hb5⟩
          have HNP := Lib.hid hNP
          have HB5 := Lib.hid (below_later hb5 HB.out)
          have HOW5 := Lib.hid (own_later HOW.out hb5)
          obtain ⟨Ap, cp, rfl, _, _⟩ := hNP
          clear hb5 HOW HB HKW n0 n1 n2 n3 n4 n5 n6 n7
          go_wp2_with fail
          refine (tCheck_any (x :: ks.flat) _ _ HNP.out (HS.out.later HB5.out) HPX.out.sz HPX.out.kd).mono ?_
          rw [HPX.out.check]
          rintro e w6 ⟨rfl, hb6⟩
          have HNP6 := Lib.hid (HNP.out.later hb6)
          have HB6 := Lib.hid (below_later hb6 HB5.out)
          have HOW6 := Lib.hid (own_later HOW5.out hb6)
          clear hb6 HNP HB5 HOW5
          go_wp2_with fail
          refine (tDeep_any (x :: ks.flat) _ _ HNP6.out (by rw [List.length_cons]; omega)).mono ?_
          rw [Tr.F.one_deep HPX.out.ok]
          rintro e w7 ⟨rfl, hb7⟩
          have HNP7 := Lib.hid (HNP6.out.later hb7)
          have HB7 := Lib.hid (below_later hb7 HB6.out)
          have HOW7 := Lib.hid (own_later HOW6.out hb7)
          have hh64 := HPX.out.hgt
          have ed : ((((ks.hgt + 1 : Nat) : Int)) != (ks.hgt : Int) + 1) = false := by simp
          obtain ⟨n0, n1, n2, n3, n4, n5, n6, n7⟩ := nodes_cells (HN.out.later HB7.out) HX.out
          clear hb7 HNP6 HB6 HOW6
          by_cases h4 : x.kind = 4
          · have e4 : (x.kind != 4) = false := by rw [h4]; rfl
            clear h4
            go_wp2_with fail
            go_roundw
            case rel => exact ⟨q + 1, by omega, by go_num, HB7⟩
            case measure => simp [intOf]; omega
          · have e4 : (x.kind != 4) = true := by rw [bne, beq_no h4]; rfl
            have HL3 : Hid (Lr = Tr.F.free x ks) := Lib.hid (by rw [HL2.out, Tr.F.free_kids h4])
            clear h4
            go_wp2_with fail
            refine (HPX.out.free HNP7.out (HS.out.later HB7.out)).mono ?_
            rintro e w8 ⟨mv, rfl, hM8, hb8⟩
            have HB8 := Lib.hid (below_later hb8 HB7.out)
            have HOW8 := Lib.hid (own_later HOW7.out hb8)
            have HM8 := Lib.hid hM8
            obtain ⟨Am, cm, rfl⟩ := own_shape hM8
            clear hb8 hM8 HB7 HOW7 HNP7 n0 n1 n2 n3 n4 n5 n6 n7
            go_wp2_with fail
            refine (EqTexts_same (Tr.F.free x ks) _ _ _ (Nms.own HM8.out) (by have := Nms.own HOW8.out; rw [HL3.out] at this ⊢; exact this) (by rw [← HL3.out]; omega)).mono ?_
            rintro e w9 ⟨rfl, hb9⟩
            have HB9 := Lib.hid (below_later hb9 HB8.out)
            clear hb9
            go_wp2_with fail
            go_roundw
            case rel => exact ⟨q + 1, by omega, by go_num, HB9⟩
            case measure => simp [intOf]; omega
        | cons y ky r' =>
          have hkl : k < ks.cnt := by simp only [Tr.F.cnt] at hk; omega
          simp only [Tr.F.flat, List.length_cons, List.length_append] at hLr hpe
          obtain ⟨gk, _, e1, _, _, _, _, hc⟩ := own_read HKW.out (by omega)
          simp only [Value.slice.injEq] at e1
          obtain ⟨rfl, _, rfl⟩ := e1
          have x0 : wi.cell? ⟨gk, k, none⟩ = some (.int .i64 (p' : Int)) := hc k _ (by
            have h2 : (ks.places (q + 1))[k]? = some p' := (HKP.out 0).symm
            rw [List.getElem?_map, h2]; rfl)
          have HTY : Hid (T = pr ++ y :: (ky.flat ++ (r'.flat ++ post))) := Lib.hid (by rw [HTR.out]; simp [Tr.F.flat])
          have HPY : Hid (PartOk y ky) := Lib.hid (by
            have hsub : ∀ z ∈ y :: ky.flat, z ∈ T := by
              intro z hz
              rw [HTY.out]
              rcases List.mem_cons.1 hz with rfl | hz
              · simp
              · simp [hz]
            exact ⟨⟨HOr.out.1, HOr.out.2.1, trivial⟩, fun z hz => HM0.out z (hsub z hz), by
              have := HMX.out
              have := HPX.out.hgt
              simp only [Tr.F.hgt] at *
              omega, by
              have := congrArg List.length HTY.out
              simp only [List.length_append, List.length_cons] at this ⊢
              omega, fun z hz => HZ.out z (hsub z hz), fun z hz => HK.out z (hsub z hz)⟩)
          have HBY : Hid (Tr.behind T (p' : Int) = p' + 1 + ky.flat.length) := Lib.hid (by have := Tr.F.behind_at HTY.out HPY.out.ok; rw [HPP.out] at this; exact this)
          obtain ⟨nx, hnx0⟩ : ∃ nx, p' + 1 + ky.flat.length = nx := ⟨_, rfl⟩
          rw [hnx0] at HBY
          have HNX := Lib.hid hnx0
          have hpn : p' < nx := by omega
          have hpn2 : ¬ nx ≤ p' := by omega
          have hne1 : nx ≤ en := by omega
          have hne2 : ¬ en < nx := by omega
          have hky3 : ky.flat.length ≤ 300 := by omega
          have hm64 : m ≤ 64 := by have := HMX.out; have := HPX.out.hgt; omega
          have hky64 := HPY.out.hgt
          have hpc : p' ≤ c := by omega
          have hpc2 : ¬ c = p' := by omega
          have hnc : nx ≤ c := by omega
          have hfl := Tr.F.free_len y ky
          rw [List.length_cons] at hfl
          clear hc hnx0
          go_wp2_with fail
          refine (tBehind_any T _ (p' : Int) _ (HN.out.later HB.out) (by omega)).mono ?_
          rw [HBY.out]
          rintro e w5 ⟨rfl, hb5⟩
          have HB5 := Lib.hid (below_later hb5 HB.out)
          have HKW5 := Lib.hid (own_later HKW.out hb5)
          have HOW5 := Lib.hid (own_later HOW.out hb5)
          have x0 := cell_later hb5 x0
          clear hb5 HB HKW HOW
          go_wp2_with fail
          refine (CopyNodes_any (y :: ky.flat) _ _ (Nodes.cut (HN.out.later HB5.out) p' (nx - p') (c - p') (by have := Tr.part_take HTY.out; rw [HPP.out] at this; rw [← this]; congr 1; have := HNX.out; omega) (by rw [List.length_cons]; have := HNX.out; omega) (by omega)) (by rw [List.length_cons]; omega)).mono ?_
          rintro e w6 ⟨pv, rfl, hNP, hb6⟩
          have HNP := Lib.hid hNP
          have HB6 := Lib.hid (below_later hb6 HB5.out)
          have HKW6 := Lib.hid (own_later HKW5.out hb6)
          have HOW6 := Lib.hid (own_later HOW5.out hb6)
          obtain ⟨Ap, cp, rfl, _, _⟩ := hNP
          clear hb6 HB5 HKW5 HOW5 x0
          go_wp2_with fail
          refine (tDeep_any (y :: ky.flat) _ _ HNP.out (by rw [List.length_cons]; omega)).mono ?_
          rw [Tr.F.one_deep HPY.out.ok]
          rintro e w7 ⟨rfl, hb7⟩
          have HNP7 := Lib.hid (HNP.out.later hb7)
          have HB7 := Lib.hid (below_later hb7 HB6.out)
          have HKW7 := Lib.hid (own_later HKW6.out hb7)
          have HOW7 := Lib.hid (own_later HOW6.out hb7)
          have n7s := nodes_cells (HN.out.later HB7.out) HX.out
          clear hb7 HB6 HKW6 HOW6 HNP
          go_wp2_with fail
          refine wp_region_plan (S := fun w' => w'.cell? ⟨b, off + q * 8, none⟩ = some (.int .i8 x.kind) ∧ w'.cell? ⟨b, off + q * 8 + 1, none⟩ = some (.int .i64 x.kids) ∧ w'.cell? ⟨b, off + q * 8 + 2, none⟩ = some (.int .i64 x.n) ∧ w'.cell? ⟨b, off + q * 8 + 3, none⟩ = some (.string x.s) ∧
            w'.cell? ⟨b, off + q * 8 + 4, none⟩ = some (.string x.t) ∧ w'.cell? ⟨b, off + q * 8 + 5, none⟩ = some (.string x.u) ∧ w'.cell? ⟨b, off + q * 8 + 6, none⟩ = some (.int .i64 x.line) ∧ w'.cell? ⟨b, off + q * 8 + 7, none⟩ = some (.int .i64 x.col))
            [(0, true), (1, true), (3, true), (4, true), (5, true), (6, true), (7, true), (2, false), (8, false), (9, false), (10, true)] (by kernel_rfl) (by kernel_rfl) (by kernel_rfl) (fun _ _ _ _ _ h => h) n7s ?_
          clear n7s
          intro HS7
          repeat (first | (apply wpPlan_look; rfl; rfl; (intro wq hq; (try dsimp only at hq); go_split_ands; go_simp; (try rw [if_neg (by omega)]); (try rw [if_pos (by omega)]); try with_reducible rfl); simp only [Act.put, List.setIfInBounds_toArray, List.set_cons_zero, List.set_cons_succ]) | (apply wpPlan_skip; rfl; rfl; simp only [Act.put, List.setIfInBounds_toArray, List.set_cons_zero, List.set_cons_succ]) | (apply wpPlan_pass; rfl; rfl; assumption; simp only [Act.put, List.setIfInBounds_toArray, List.set_cons_zero, List.set_cons_succ]))
          have hb7d : Below w7.heap.size w7 w7.drew := (Below.refl _ _).drew
          apply wpPlan_call; rfl; rfl; rfl; rfl; kernel_rfl; exact HPY.out.free (HNP7.out.later hb7d) (HS.out.later (below_later hb7d HB7.out)); rfl; rintro e w8 ⟨mv, rfl, hM8, hb8⟩
          have HB8 := Lib.hid (below_later hb8 (below_later hb7d HB7.out))
          have HKW8 := Lib.hid (own_later (own_later HKW7.out hb7d) hb8)
          have HOW8 := Lib.hid (own_later (own_later HOW7.out hb7d) hb8)
          have HM8 := Lib.hid hM8
          have HA8 : Hid (Culp.Apart mv u) := Lib.hid (apart_base hM8 fun g hg => (HOW7.out.lt g hg).2)
          obtain ⟨Am, cm, rfl⟩ := own_shape hM8
          refine ⟨_, rfl, as_S (nodes_cells (HN.out.later HB8.out) HX.out) ?_⟩
          clear HS7 hb8 hM8 HB7 HKW7 HOW7 hb7d
          intro HS8
          simp only [Act.put, List.setIfInBounds_toArray, List.set_cons_zero, List.set_cons_succ]
          repeat (first | (apply wpPlan_look; rfl; rfl; (intro wq hq; (try dsimp only at hq); go_split_ands; go_simp; (try rw [if_neg (by omega)]); (try rw [if_pos (by omega)]); try with_reducible rfl); simp only [Act.put, List.setIfInBounds_toArray, List.set_cons_zero, List.set_cons_succ]) | (apply wpPlan_skip; rfl; rfl; simp only [Act.put, List.setIfInBounds_toArray, List.set_cons_zero, List.set_cons_succ]) | (apply wpPlan_pass; rfl; rfl; assumption; simp only [Act.put, List.setIfInBounds_toArray, List.set_cons_zero, List.set_cons_succ]))
          apply wpPlan_call; rfl; rfl; rfl; rfl; kernel_rfl; exact Binds_any x k _ HBD.out; rfl; rintro e w9 ⟨bv, rfl, hO9, hb9⟩
          have HB9 := Lib.hid (below_later hb9 HB8.out)
          have HKW9 := Lib.hid (own_later HKW8.out hb9)
          have HOW9 := Lib.hid (own_later HOW8.out hb9)
          have HM9 := Lib.hid (own_later HM8.out hb9)
          have HBV9 := Lib.hid hO9
          have HA9 : Hid (Culp.Apart bv u) := Lib.hid (apart_base hO9 fun g hg => (HOW8.out.lt g hg).2)
          obtain ⟨Ab, cb, rfl⟩ := own_shape hO9
          refine ⟨_, rfl, as_S (nodes_cells (HN.out.later HB9.out) HX.out) ?_⟩
          clear HS8 hb9 hO9 HB8 HKW8 HOW8 HM8
          intro HS9
          simp only [Act.put, List.setIfInBounds_toArray, List.set_cons_zero, List.set_cons_succ]
          repeat (first | (apply wpPlan_look; rfl; rfl; (intro wq hq; (try dsimp only at hq); go_split_ands; go_simp; (try rw [if_neg (by omega)]); (try rw [if_pos (by omega)]); try with_reducible rfl); simp only [Act.put, List.setIfInBounds_toArray, List.set_cons_zero, List.set_cons_succ]) | (apply wpPlan_skip; rfl; rfl; simp only [Act.put, List.setIfInBounds_toArray, List.set_cons_zero, List.set_cons_succ]) | (apply wpPlan_pass; rfl; rfl; assumption; simp only [Act.put, List.setIfInBounds_toArray, List.set_cons_zero, List.set_cons_succ]))
          have hbl : (Tr.binds x k).length ≤ 1000000 := by
            unfold Tr.binds
            split
            · simp
            split
            · split <;> simp
            split <;> simp
          apply wpPlan_call; rfl; rfl; rfl; rfl; kernel_rfl; exact without_any w.heap.size Lr (Tr.F.free y ky) (Tr.binds x k) _ _ _ _ HOW9.out (Nms.own HM9.out) (Nms.own HBV9.out) HA8.out HA9.out (by omega) hbl HB9.out.size; rfl; rintro e w10 ⟨u', rfl, hO10, hG10, hU10⟩
          have HB10 : Hid (Below w.heap.size w w10) := Lib.hid (HB9.out.grown hG10 HB9.out.size fun g hg => (HOW9.out.lt g hg).1)
          have HKW10 := Lib.hid (own_apart_grown HKW9.out hG10 (own_apart_type HOW9.out HKW9.out (by decide)))
          have HOW10 := Lib.hid hO10
          refine ⟨_, rfl, as_S (nodes_cells (HN.out.later HB10.out) HX.out) ?_⟩
          clear HS9 hO10 hG10 hU10 HB9 HKW9 HOW9 HM9 HBV9 HA8 HA9 hbl
          intro HS10
          simp only [Act.put, List.setIfInBounds_toArray, List.set_cons_zero, List.set_cons_succ]
          repeat (first | (apply wpPlan_look; rfl; rfl; (intro wq hq; (try dsimp only at hq); go_split_ands; go_simp; (try rw [if_neg (by omega)]); (try rw [if_pos (by omega)]); try with_reducible rfl); simp only [Act.put, List.setIfInBounds_toArray, List.set_cons_zero, List.set_cons_succ]) | (apply wpPlan_skip; rfl; rfl; simp only [Act.put, List.setIfInBounds_toArray, List.set_cons_zero, List.set_cons_succ]) | (apply wpPlan_pass; rfl; rfl; assumption; simp only [Act.put, List.setIfInBounds_toArray, List.set_cons_zero, List.set_cons_succ]))
          apply wpPlan_done
          clear HS10
          have hL' := Tr.addAll_len ((Tr.F.free y ky).filter fun s => decide (s ∉ Tr.binds x k)) Lr
          have hfl2 := List.length_filter_le (fun s => decide (s ∉ Tr.binds x k)) (Tr.F.free y ky)
          have HV' : Hid (Tr.addAll (Tr.behindAll Lr (Tr.F.free y ky) (Tr.binds x k)) (r'.vars (fun j => Tr.binds x j) (k + 1)) = Tr.addAll [] (ks.vars (fun j => Tr.binds x j) 0)) := Lib.hid (by
            have := HV.out
            rw [Tr.F.free_step] at this
            exact this)
          have hLr' : (Tr.behindAll Lr (Tr.F.free y ky) (Tr.binds x k)).length + r'.flat.length ≤ 4096 := by
            unfold Tr.behindAll
            omega
          generalize Tr.behindAll Lr (Tr.F.free y ky) (Tr.binds x k) = L' at *
          have HKP' : Hid (∀ j, (r'.places nx)[j]? = (ks.places (q + 1))[k + 1 + j]?) := Lib.hid (fun j => by
            have := HKP.out (j + 1)
            rw [show k + 1 + j = k + (j + 1) by omega, ← this, ← HNX.out]
            rfl)
          have HT' : Hid (T = (pr ++ y :: ky.flat) ++ (r'.flat ++ post)) := Lib.hid (by rw [HTR.out]; simp [Tr.F.flat])
          have HM' : Hid (max (max m (ky.hgt + 1)) r'.hgt = ks.hgt) := Lib.hid (by have := HMX.out; simp only [Tr.F.hgt] at this; omega)
          have HO' : Hid r'.Ok := Lib.hid HOr.out.2.2
          have HP' : Hid ((pr ++ y :: ky.flat).length = nx) := Lib.hid (by rw [List.length_append, List.length_cons, HPP.out]; have := HNX.out; omega)
          have hk' : k + 1 + r'.cnt = ks.cnt := by simp only [Tr.F.cnt] at hk; omega
          have hpe' : nx + r'.flat.length = en := by have := HNX.out; omega
          clear hL' hfl2 hfl HV HKP HTR HMX HOr HPP HNX HTY HBY HPY HNP7 hpe hk hLr
          go_wp2_with fail
          go_roundw
          case rel => exact ⟨k + 1, max m (ky.hgt + 1), nx, r', _, L', u', rfl, by first | exact max_cast | rfl, rfl, by go_num, hk', hLr', hpe', HP', HT', HO', HM', HKP', HV', HOW10, HKW10, HB10⟩
          case measure => simp [intOf]; omega
    · skip
      go_wp2_with fail
      go_loopw [11, 12, 13, 14] (fun nx dp fr i wr => ∃ (k m p' : Nat) (r : Tr.F) (pr : List Nd) (Lr : List ByteArray) (u : Value), nx = .int .i64 p' ∧ dp = .int .i64 m ∧ u = fr ∧ i = .int .i64 k ∧ k + r.cnt = ks.cnt ∧ Lr.length + r.flat.length ≤ 4096 ∧ p' + r.flat.length = en ∧ Hid (pr.length = p') ∧ Hid (T = pr ++ (r.flat ++ post)) ∧ Hid r.Ok ∧ Hid (max m r.hgt = ks.hgt) ∧ Hid (∀ j, (r.places p')[j]? = (ks.places (q + 1))[k + j]?) ∧ Hid (Tr.addAll Lr (r.vars (fun j => Tr.binds x j) k) = Tr.addAll [] (ks.vars (fun j => Tr.binds x j) 0)) ∧ Hid (wr.ownsRow w.heap.size 9 1 u Lr.length (Lr.map Value.string)) ∧ Hid (wr.ownsRow w.heap.size 3 1 (.slice Ak ks.cnt ck) ks.cnt ((ks.places (q + 1)).map natV)) ∧ Hid (Below w.heap.size w wr)) (fun _ _ _ i _ => ks.cnt - (intOf i).toNat)
      case atStart => exact ⟨0, 0, q + 1, ks, pre ++ [x], [], _, by go_num, rfl, rfl, rfl, by omega, by rw [List.length_nil]; omega, HEN.out, Lib.hid (by rw [List.length_append, HP.out]; rfl), Lib.hid (by rw [HTT.out]; simp), Lib.hid HPX.out.ok.2.1, Lib.hid (Nat.max_eq_right (Nat.zero_le _)), Lib.hid (fun j => by rw [Nat.zero_add]), Lib.hid rfl, Lib.hid (World.ownsRow_nil _ _ _ _), HKW, HB4⟩
      case round =>
        clear HKW HB4 n0 n1 n2 n3 n4 n5 n6 n7
        obtain ⟨k, m, p', r, pr, Lr, u, rfl, rfl, rfl, rfl, hk, hLr, hpe, HPP, HTR, HOr, HMX, HKP, HV, HOW, HKW, HB⟩ := hrel
        obtain ⟨wi, rfl⟩ : ∃ wi, wi = wr := ⟨_, rfl⟩
        cases r with
        | nil =>
          have hkc : k = ks.cnt := by simp only [Tr.F.cnt] at hk; omega
          have hpe2 : p' = en := by simp only [Tr.F.flat, List.length_nil] at hpe; omega
          have hmm : m = ks.hgt := by have := HMX.out; simp only [Tr.F.hgt] at this; omega
          have HL2 : Hid (Lr = Tr.addAll [] (ks.vars (fun j => Tr.binds x j) 0)) := Lib.hid (by have := HV.out; rwa [Tr.F.vars, Tr.addAll_nil] at this)
          subst hkc hpe2 hmm
          obtain ⟨Au, cu, rfl⟩ := own_shape HOW.out
          obtain ⟨n0, n1, n2, n3, n4, n5, n6, n7⟩ := nodes_cells (HN.out.later HB.out) HX.out
          have hlr4 : Lr.length ≤ 4096 := by omega
          have hqc : ¬ c = q := by omega
          have hpc : p' ≤ c := by omega
          clear HV HKP HMX HOr HTR HPP hk hLr hpe
          go_wp2_with fail
          refine (CopyNodes_any (x :: ks.flat) _ _ (Nodes.cut (HN.out.later HB.out) q (p' - q) (c - q) (by have := Tr.part_take HTT.out; rw [HP.out] at this; rw [← this]; congr 1; have := HEN.out; omega) (by rw [List.length_cons]; have := HEN.out; omega) (by omega)) (by rw [List.length_cons]; omega)).mono ?_
          rintro e w5 ⟨pv, rfl, hNP, hb5⟩
          have HNP := Lib.hid hNP
          have HB5 := Lib.hid (below_later hb5 HB.out)
          have HOW5 := Lib.hid (own_later HOW.out hb5)
          obtain ⟨Ap, cp, rfl, _, _⟩ := hNP
          clear hb5 HOW HB HKW n0 n1 n2 n3 n4 n5 n6 n7
          go_wp2_with fail
          refine (tCheck_any (x :: ks.flat) _ _ HNP.out (HS.out.later HB5.out) HPX.out.sz HPX.out.kd).mono ?_
          rw [HPX.out.check]
          rintro e w6 ⟨rfl, hb6⟩
          have HNP6 := Lib.hid (HNP.out.later hb6)
          have HB6 := Lib.hid (below_later hb6 HB5.out)
          have HOW6 := Lib.hid (own_later HOW5.out hb6)
          clear hb6 HNP HB5 HOW5
          go_wp2_with fail
          refine (tDeep_any (x :: ks.flat) _ _ HNP6.out (by rw [List.length_cons]; omega)).mono ?_
          rw [Tr.F.one_deep HPX.out.ok]
          rintro e w7 ⟨rfl, hb7⟩
          have HNP7 := Lib.hid (HNP6.out.later hb7)
          have HB7 := Lib.hid (below_later hb7 HB6.out)
          have HOW7 := Lib.hid (own_later HOW6.out hb7)
          have hh64 := HPX.out.hgt
          have ed : ((((ks.hgt + 1 : Nat) : Int)) != (ks.hgt : Int) + 1) = false := by simp
          obtain ⟨n0, n1, n2, n3, n4, n5, n6, n7⟩ := nodes_cells (HN.out.later HB7.out) HX.out
          clear hb7 HNP6 HB6 HOW6
          by_cases h4 : x.kind = 4
          · have e4 : (x.kind != 4) = false := by rw [h4]; rfl
            clear h4
            go_wp2_with fail
            go_roundw
            case rel => exact ⟨q + 1, by omega, by go_num, HB7⟩
            case measure => simp [intOf]; omega
          · have e4 : (x.kind != 4) = true := by rw [bne, beq_no h4]; rfl
            have HL3 : Hid (Lr = Tr.F.free x ks) := Lib.hid (by rw [HL2.out, Tr.F.free_kids h4])
            clear h4
            go_wp2_with fail
            refine (HPX.out.free HNP7.out (HS.out.later HB7.out)).mono ?_
            rintro e w8 ⟨mv, rfl, hM8, hb8⟩
            have HB8 := Lib.hid (below_later hb8 HB7.out)
            have HOW8 := Lib.hid (own_later HOW7.out hb8)
            have HM8 := Lib.hid hM8
            obtain ⟨Am, cm, rfl⟩ := own_shape hM8
            clear hb8 hM8 HB7 HOW7 HNP7 n0 n1 n2 n3 n4 n5 n6 n7
            go_wp2_with fail
            refine (EqTexts_same (Tr.F.free x ks) _ _ _ (Nms.own HM8.out) (by have := Nms.own HOW8.out; rw [HL3.out] at this ⊢; exact this) (by rw [← HL3.out]; omega)).mono ?_
            rintro e w9 ⟨rfl, hb9⟩
            have HB9 := Lib.hid (below_later hb9 HB8.out)
            clear hb9
            go_wp2_with fail
            go_roundw
            case rel => exact ⟨q + 1, by omega, by go_num, HB9⟩
            case measure => simp [intOf]; omega
        | cons y ky r' =>
          have hkl : k < ks.cnt := by simp only [Tr.F.cnt] at hk; omega
          simp only [Tr.F.flat, List.length_cons, List.length_append] at hLr hpe
          obtain ⟨gk, _, e1, _, _, _, _, hc⟩ := own_read HKW.out (by omega)
          simp only [Value.slice.injEq] at e1
          obtain ⟨rfl, _, rfl⟩ := e1
          have x0 : wi.cell? ⟨gk, k, none⟩ = some (.int .i64 (p' : Int)) := hc k _ (by
            have h2 : (ks.places (q + 1))[k]? = some p' := (HKP.out 0).symm
            rw [List.getElem?_map, h2]; rfl)
          have HTY : Hid (T = pr ++ y :: (ky.flat ++ (r'.flat ++ post))) := Lib.hid (by rw [HTR.out]; simp [Tr.F.flat])
          have HPY : Hid (PartOk y ky) := Lib.hid (by
            have hsub : ∀ z ∈ y :: ky.flat, z ∈ T := by
              intro z hz
              rw [HTY.out]
              rcases List.mem_cons.1 hz with rfl | hz
              · simp
              · simp [hz]
            exact ⟨⟨HOr.out.1, HOr.out.2.1, trivial⟩, fun z hz => HM0.out z (hsub z hz), by
              have := HMX.out
              have := HPX.out.hgt
              simp only [Tr.F.hgt] at *
              omega, by
              have := congrArg List.length HTY.out
              simp only [List.length_append, List.length_cons] at this ⊢
              omega, fun z hz => HZ.out z (hsub z hz), fun z hz => HK.out z (hsub z hz)⟩)
          have HBY : Hid (Tr.behind T (p' : Int) = p' + 1 + ky.flat.length) := Lib.hid (by have := Tr.F.behind_at HTY.out HPY.out.ok; rw [HPP.out] at this; exact this)
          obtain ⟨nx, hnx0⟩ : ∃ nx, p' + 1 + ky.flat.length = nx := ⟨_, rfl⟩
          rw [hnx0] at HBY
          have HNX := Lib.hid hnx0
          have hpn : p' < nx := by omega
          have hpn2 : ¬ nx ≤ p' := by omega
          have hne1 : nx ≤ en := by omega
          have hne2 : ¬ en < nx := by omega
          have hky3 : ky.flat.length ≤ 300 := by omega
          have hm64 : m ≤ 64 := by have := HMX.out; have := HPX.out.hgt; omega
          have hky64 := HPY.out.hgt
          have hpc : p' ≤ c := by omega
          have hpc2 : ¬ c = p' := by omega
          have hnc : nx ≤ c := by omega
          have hfl := Tr.F.free_len y ky
          rw [List.length_cons] at hfl
          clear hc hnx0
          go_wp2_with fail
          refine (tBehind_any T _ (p' : Int) _ (HN.out.later HB.out) (by omega)).mono ?_
          rw [HBY.out]
          rintro e w5 ⟨rfl, hb5⟩
          have HB5 := Lib.hid (below_later hb5 HB.out)
          have HKW5 := Lib.hid (own_later HKW.out hb5)
          have HOW5 := Lib.hid (own_later HOW.out hb5)
          have x0 := cell_later hb5 x0
          clear hb5 HB HKW HOW
          go_wp2_with fail
          refine (CopyNodes_any (y :: ky.flat) _ _ (Nodes.cut (HN.out.later HB5.out) p' (nx - p') (c - p') (by have := Tr.part_take HTY.out; rw [HPP.out] at this; rw [← this]; congr 1; have := HNX.out; omega) (by rw [List.length_cons]; have := HNX.out; omega) (by omega)) (by rw [List.length_cons]; omega)).mono ?_
          rintro e w6 ⟨pv, rfl, hNP, hb6⟩
          have HNP := Lib.hid hNP
          have HB6 := Lib.hid (below_later hb6 HB5.out)
          have HKW6 := Lib.hid (own_later HKW5.out hb6)
          have HOW6 := Lib.hid (own_later HOW5.out hb6)
          obtain ⟨Ap, cp, rfl, _, _⟩ := hNP
          clear hb6 HB5 HKW5 HOW5 x0
          go_wp2_with fail
          refine (tDeep_any (y :: ky.flat) _ _ HNP.out (by rw [List.length_cons]; omega)).mono ?_
          rw [Tr.F.one_deep HPY.out.ok]
          rintro e w7 ⟨rfl, hb7⟩
          have HNP7 := Lib.hid (HNP.out.later hb7)
          have HB7 := Lib.hid (below_later hb7 HB6.out)
          have HKW7 := Lib.hid (own_later HKW6.out hb7)
          have HOW7 := Lib.hid (own_later HOW6.out hb7)
          have n7s := nodes_cells (HN.out.later HB7.out) HX.out
          clear hb7 HB6 HKW6 HOW6 HNP
          go_wp2_with fail
          refine wp_region_plan (S := fun w' => w'.cell? ⟨b, off + q * 8, none⟩ = some (.int .i8 x.kind) ∧ w'.cell? ⟨b, off + q * 8 + 1, none⟩ = some (.int .i64 x.kids) ∧ w'.cell? ⟨b, off + q * 8 + 2, none⟩ = some (.int .i64 x.n) ∧ w'.cell? ⟨b, off + q * 8 + 3, none⟩ = some (.string x.s) ∧
            w'.cell? ⟨b, off + q * 8 + 4, none⟩ = some (.string x.t) ∧ w'.cell? ⟨b, off + q * 8 + 5, none⟩ = some (.string x.u) ∧ w'.cell? ⟨b, off + q * 8 + 6, none⟩ = some (.int .i64 x.line) ∧ w'.cell? ⟨b, off + q * 8 + 7, none⟩ = some (.int .i64 x.col))
            [(0, true), (1, true), (3, true), (4, true), (5, true), (6, true), (7, true), (2, false), (8, false), (9, false), (10, true)] (by kernel_rfl) (by kernel_rfl) (by kernel_rfl) (fun _ _ _ _ _ h => h) n7s ?_
          clear n7s
          intro HS7
          repeat (first | (apply wpPlan_look; rfl; rfl; (intro wq hq; (try dsimp only at hq); go_split_ands; go_simp; (try rw [if_neg (by omega)]); (try rw [if_pos (by omega)]); try with_reducible rfl); simp only [Act.put, List.setIfInBounds_toArray, List.set_cons_zero, List.set_cons_succ]) | (apply wpPlan_skip; rfl; rfl; simp only [Act.put, List.setIfInBounds_toArray, List.set_cons_zero, List.set_cons_succ]) | (apply wpPlan_pass; rfl; rfl; assumption; simp only [Act.put, List.setIfInBounds_toArray, List.set_cons_zero, List.set_cons_succ]))
          have hb7d : Below w7.heap.size w7 w7.drew := (Below.refl _ _).drew
          apply wpPlan_call; rfl; rfl; rfl; rfl; kernel_rfl; exact HPY.out.free (HNP7.out.later hb7d) (HS.out.later (below_later hb7d HB7.out)); rfl; rintro e w8 ⟨mv, rfl, hM8, hb8⟩
          have HB8 := Lib.hid (below_later hb8 (below_later hb7d HB7.out))
          have HKW8 := Lib.hid (own_later (own_later HKW7.out hb7d) hb8)
          have HOW8 := Lib.hid (own_later (own_later HOW7.out hb7d) hb8)
          have HM8 := Lib.hid hM8
          have HA8 : Hid (Culp.Apart mv u) := Lib.hid (apart_base hM8 fun g hg => (HOW7.out.lt g hg).2)
          obtain ⟨Am, cm, rfl⟩ := own_shape hM8
          refine ⟨_, rfl, as_S (nodes_cells (HN.out.later HB8.out) HX.out) ?_⟩
          clear HS7 hb8 hM8 HB7 HKW7 HOW7 hb7d
          intro HS8
          simp only [Act.put, List.setIfInBounds_toArray, List.set_cons_zero, List.set_cons_succ]
          repeat (first | (apply wpPlan_look; rfl; rfl; (intro wq hq; (try dsimp only at hq); go_split_ands; go_simp; (try rw [if_neg (by omega)]); (try rw [if_pos (by omega)]); try with_reducible rfl); simp only [Act.put, List.setIfInBounds_toArray, List.set_cons_zero, List.set_cons_succ]) | (apply wpPlan_skip; rfl; rfl; simp only [Act.put, List.setIfInBounds_toArray, List.set_cons_zero, List.set_cons_succ]) | (apply wpPlan_pass; rfl; rfl; assumption; simp only [Act.put, List.setIfInBounds_toArray, List.set_cons_zero, List.set_cons_succ]))
          apply wpPlan_call; rfl; rfl; rfl; rfl; kernel_rfl; exact Binds_any x k _ HBD.out; rfl; rintro e w9 ⟨bv, rfl, hO9, hb9⟩
          have HB9 := Lib.hid (below_later hb9 HB8.out)
          have HKW9 := Lib.hid (own_later HKW8.out hb9)
          have HOW9 := Lib.hid (own_later HOW8.out hb9)
          have HM9 := Lib.hid (own_later HM8.out hb9)
          have HBV9 := Lib.hid hO9
          have HA9 : Hid (Culp.Apart bv u) := Lib.hid (apart_base hO9 fun g hg => (HOW8.out.lt g hg).2)
          obtain ⟨Ab, cb, rfl⟩ := own_shape hO9
          refine ⟨_, rfl, as_S (nodes_cells (HN.out.later HB9.out) HX.out) ?_⟩
          clear HS8 hb9 hO9 HB8 HKW8 HOW8 HM8
          intro HS9
          simp only [Act.put, List.setIfInBounds_toArray, List.set_cons_zero, List.set_cons_succ]
          repeat (first | (apply wpPlan_look; rfl; rfl; (intro wq hq; (try dsimp only at hq); go_split_ands; go_simp; (try rw [if_neg (by omega)]); (try rw [if_pos (by omega)]); try with_reducible rfl); simp only [Act.put, List.setIfInBounds_toArray, List.set_cons_zero, List.set_cons_succ]) | (apply wpPlan_skip; rfl; rfl; simp only [Act.put, List.setIfInBounds_toArray, List.set_cons_zero, List.set_cons_succ]) | (apply wpPlan_pass; rfl; rfl; assumption; simp only [Act.put, List.setIfInBounds_toArray, List.set_cons_zero, List.set_cons_succ]))
          have hbl : (Tr.binds x k).length ≤ 1000000 := by
            unfold Tr.binds
            split
            · simp
            split
            · split <;> simp
            split <;> simp
          apply wpPlan_call; rfl; rfl; rfl; rfl; kernel_rfl; exact without_any w.heap.size Lr (Tr.F.free y ky) (Tr.binds x k) _ _ _ _ HOW9.out (Nms.own HM9.out) (Nms.own HBV9.out) HA8.out HA9.out (by omega) hbl HB9.out.size; rfl; rintro e w10 ⟨u', rfl, hO10, hG10, hU10⟩
          have HB10 : Hid (Below w.heap.size w w10) := Lib.hid (HB9.out.grown hG10 HB9.out.size fun g hg => (HOW9.out.lt g hg).1)
          have HKW10 := Lib.hid (own_apart_grown HKW9.out hG10 (own_apart_type HOW9.out HKW9.out (by decide)))
          have HOW10 := Lib.hid hO10
          refine ⟨_, rfl, as_S (nodes_cells (HN.out.later HB10.out) HX.out) ?_⟩
          clear HS9 hO10 hG10 hU10 HB9 HKW9 HOW9 HM9 HBV9 HA8 HA9 hbl
          intro HS10
          simp only [Act.put, List.setIfInBounds_toArray, List.set_cons_zero, List.set_cons_succ]
          repeat (first | (apply wpPlan_look; rfl; rfl; (intro wq hq; (try dsimp only at hq); go_split_ands; go_simp; (try rw [if_neg (by omega)]); (try rw [if_pos (by omega)]); try with_reducible rfl); simp only [Act.put, List.setIfInBounds_toArray, List.set_cons_zero, List.set_cons_succ]) | (apply wpPlan_skip; rfl; rfl; simp only [Act.put, List.setIfInBounds_toArray, List.set_cons_zero, List.set_cons_succ]) | (apply wpPlan_pass; rfl; rfl; assumption; simp only [Act.put, List.setIfInBounds_toArray, List.set_cons_zero, List.set_cons_succ]))
          apply wpPlan_done
          clear HS10
          have hL' := Tr.addAll_len ((Tr.F.free y ky).filter fun s => decide (s ∉ Tr.binds x k)) Lr
          have hfl2 := List.length_filter_le (fun s => decide (s ∉ Tr.binds x k)) (Tr.F.free y ky)
          have HV' : Hid (Tr.addAll (Tr.behindAll Lr (Tr.F.free y ky) (Tr.binds x k)) (r'.vars (fun j => Tr.binds x j) (k + 1)) = Tr.addAll [] (ks.vars (fun j => Tr.binds x j) 0)) := Lib.hid (by
            have := HV.out
            rw [Tr.F.free_step] at this
            exact this)
          have hLr' : (Tr.behindAll Lr (Tr.F.free y ky) (Tr.binds x k)).length + r'.flat.length ≤ 4096 := by
            unfold Tr.behindAll
            omega
          generalize Tr.behindAll Lr (Tr.F.free y ky) (Tr.binds x k) = L' at *
          have HKP' : Hid (∀ j, (r'.places nx)[j]? = (ks.places (q + 1))[k + 1 + j]?) := Lib.hid (fun j => by
            have := HKP.out (j + 1)
            rw [show k + 1 + j = k + (j + 1) by omega, ← this, ← HNX.out]
            rfl)
          have HT' : Hid (T = (pr ++ y :: ky.flat) ++ (r'.flat ++ post)) := Lib.hid (by rw [HTR.out]; simp [Tr.F.flat])
          have HM' : Hid (max (max m (ky.hgt + 1)) r'.hgt = ks.hgt) := Lib.hid (by have := HMX.out; simp only [Tr.F.hgt] at this; omega)
          have HO' : Hid r'.Ok := Lib.hid HOr.out.2.2
          have HP' : Hid ((pr ++ y :: ky.flat).length = nx) := Lib.hid (by rw [List.length_append, List.length_cons, HPP.out]; have := HNX.out; omega)
          have hk' : k + 1 + r'.cnt = ks.cnt := by simp only [Tr.F.cnt] at hk; omega
          have hpe' : nx + r'.flat.length = en := by have := HNX.out; omega
          clear hL' hfl2 hfl HV HKP HTR HMX HOr HPP HNX HTY HBY HPY HNP7 hpe hk hLr
          go_wp2_with fail
          go_roundw
          case rel => exact ⟨k + 1, max m (ky.hgt + 1), nx, r', _, L', u', rfl, by first | exact max_cast | rfl, rfl, by go_num, hk', hLr', hpe', HP', HT', HO', HM', HKP', HV', HOW10, HKW10, HB10⟩
          case measure => simp [intOf]; omega
end Go.Proofs.YtebameiaeldfiaaDoor
