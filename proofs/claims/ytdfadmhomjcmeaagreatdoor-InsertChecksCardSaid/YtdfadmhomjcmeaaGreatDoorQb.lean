
/- The walk of the statement InsertChecks. -/
import Derived.Test.YtdfadmhomjcmeaaGreatDoorQa
import Derived.Test.YtdfadmhomjcmeaaGreatDoorPg
import Derived.Test.YtdfadmhomjcmeaaGreatDoorCoreH
namespace Go.Proofs.YtdfadmhomjcmeaaGreatDoor
set_option linter.unusedSimpArgs false
set_option linter.unusedVariables false
open Go.RowKit Go.Maps Culp
/-- Both answers of a closed tree. -/
theorem both_any (T : List Nd) (tv : Value) (w : World) (hn : Nodes w tv T) (hSp : Sp w) (hTab : Tab w) (hzT : ∀ x ∈ T, x.s.size ≤ 140737488351232) (hkT : ∀ x ∈ T, x.kids ≤ 9223372036854775807) :
    (∃ e p : Int, ∀ w', Below w.heap.size w w' → Calls Tryz.prog 6 #[tv, .slice none 0 0, .slice none 0 0] w' (fun E w2 => e ≠ 0 ∧ Makes (.tuple #[.slice none 0 0, .int .i64 e, .int .i64 p]) w' E w2) ∧ Calls Tryz.prog 7 #[.string ⟨#[109]⟩, tv, .slice none 0 0, .slice none 0 0] w' (fun E w2 => e ≠ 0 ∧ Makes (.tuple #[.slice none 0 0, .string ⟨#[]⟩, .slice none 0 0, .int .i64 e, .int .i64 p]) w' E w2)) ∨
    ∃ (x : Nd) (ks : Tr.F) (L : List Ty), T = x :: ks.flat ∧ (Tr.F.cons x ks .nil).Ok ∧ (∀ y ∈ T, Tr.may y = true) ∧ Tr.chk1 false x ks [] 0 = .ok L ∧
      ∀ w', Below w.heap.size w w' → Calls Tryz.prog 6 #[tv, .slice none 0 0, .slice none 0 0] w' (ExprRes (.ok L) w') ∧ Calls Tryz.prog 7 #[.string ⟨#[109]⟩, tv, .slice none 0 0, .slice none 0 0] w' (IMade x ks L [] ⟨#[109]⟩ w') := by
  have ha : ArgsOk [] [] := ⟨rfl, fun j hj => absurd hj (Nat.not_lt_zero _)⟩
  have hm : Tx.isName (⟨#[109]⟩ : ByteArray).data.toList = true := by decide
  have hz : ∀ s ∈ ([] : List ByteArray), s.size ≤ 140737488351232 := fun s hs => by cases hs
  by_cases hc : (Tr.check T).1 = 0
  · obtain ⟨hl, x, ks, hT, hO, hmy, hh⟩ := Tr.F.of_check hc
    have hcc : Tr.check T = (0, 0) := by rw [hT]; exact Tr.F.check_one (by rw [← hT]; exact hl) hO (by rw [← hT]; exact hmy) hh
    have HC : ∀ w', Below w.heap.size w w' → Calls Tryz.prog 6 #[tv, .slice none 0 0, .slice none 0 0] w' (ExprRes (Tr.chk1 false x ks [] 0) w') := fun w' hb => Expr_ok T tv _ _ [] [] w' (hn.later hb) (Txts.nil _) (Txts.nil _) (hSp.later hb) hz (by decide) ha (hTab.later hb) x ks (by omega) hzT hkT hcc hT hO hmy
    cases hR : Tr.chk1 false x ks [] 0 with
    | error b =>
      rw [hR] at HC
      exact .inl ⟨b.1, b.2, fun w' hb => ⟨HC w' hb, IExpr_bad ⟨#[109]⟩ tv _ _ w' hm (by decide) (hSp.later hb) b.1 b.2 (fun w2 hb2 => HC w2 (below_later hb2 hb))⟩⟩
    | ok L =>
      rw [hR] at HC
      exact .inr ⟨x, ks, L, hT, hO, hmy, hR, fun w' hb => ⟨HC w' hb, IExpr_made ⟨#[109]⟩ T tv _ _ [] [] w' x ks L hm (by decide) (hn.later hb) (Txts.nil _) (hSp.later hb) (by decide) hT hO hmy hh hl hR (fun w2 hb2 => HC w2 (below_later hb2 hb))⟩⟩
  · have HC : ∀ w', Below w.heap.size w w' → Calls Tryz.prog 6 #[tv, .slice none 0 0, .slice none 0 0] w' (fun E w2 => ((Tr.check T).1 : Int) ≠ 0 ∧ Makes (.tuple #[.slice none 0 0, .int .i64 (Tr.check T).1, .int .i64 (Tr.check T).2]) w' E w2) := fun w' hb => (Expr_tree T tv _ _ [] [] w' (hn.later hb) (Txts.nil _) (Txts.nil _) (hSp.later hb) hz (by decide) ha hzT hkT hc).mono fun E w2 h => ⟨by omega, h⟩
    exact .inl ⟨_, _, fun w' hb => ⟨HC w' hb, IExpr_bad ⟨#[109]⟩ tv _ _ w' hm (by decide) (hSp.later hb) _ _ (fun w2 hb2 => HC w2 (below_later hb2 hb))⟩⟩
theorem bool_info : (Tryz.prog.info? 4).map (fun i => (i.zero, i.size, i.bytes)) = some (some (.bool false), 1, 1) := by kernel_rfl
/-- Which labels were seen. -/
def seenL (R : List Nd) (n k : Nat) : List Value := (List.range n).map fun j => .bool (decide (((j + 1 : Nat) : Int) ∈ Ins.labN (R.take k)))
theorem seen_get (R : List Nd) (n k j : Nat) (h : j < n) : (seenL R n k)[j]? = some (.bool (decide (((j + 1 : Nat) : Int) ∈ Ins.labN (R.take k)))) := by
  unfold seenL
  rw [List.getElem?_map, List.getElem?_range h]
  rfl
theorem seen_same {R : List Nd} {n k : Nat} {y : Nd} (hy : R[k]? = some y) (h : y.kind ≠ 30) : seenL R n (k + 1) = seenL R n k := by
  unfold seenL
  rw [Ins.labN_take hy, if_neg h, List.append_nil]
theorem seen_set {R : List Nd} {n k j : Nat} {y : Nd} (hy : R[k]? = some y) (h : y.kind = 30) (hn : y.n = ((j + 1 : Nat) : Int)) : (seenL R n k).set j (.bool true) = seenL R n (k + 1) := by
  unfold seenL
  rw [Ins.labN_take hy, if_pos h, hn]
  apply List.ext_getElem?
  intro i
  rw [List.getElem?_set, List.getElem?_map, List.getElem?_map, List.length_map, List.length_range]
  by_cases hi : i < n
  · rw [List.getElem?_range hi]
    simp only [Option.map_some]
    split
    · rename_i hij
      subst hij
      rw [if_pos hi]
      simp
    · rename_i hij
      have e : (((i + 1 : Nat) : Int) ∈ Ins.labN (R.take k) ++ [((j + 1 : Nat) : Int)]) ↔ ((i + 1 : Nat) : Int) ∈ Ins.labN (R.take k) := by
        rw [List.mem_append, List.mem_singleton]
        constructor
        · rintro (h | h)
          · exact h
          · omega
        · exact .inl
      simp only [e]
  · rw [List.getElem?_eq_none (by rw [List.length_range]; omega)]
    split
    · rename_i hij
      rw [if_neg (by omega)]
      rfl
    · rfl
theorem seen_none (R : List Nd) (n : Nat) : seenL R n 0 = List.replicate n (.bool false) := by
  unfold seenL
  apply List.ext_getElem?
  intro i
  rw [List.getElem?_map, List.getElem?_replicate]
  by_cases hi : i < n
  · rw [List.getElem?_range hi, if_pos hi]
    simp [Ins.labN]
  · rw [List.getElem?_eq_none (by rw [List.length_range]; omega), if_neg hi]
    rfl
/-- Cells of a row of sites. -/
theorem site_row {w : World} {B C : Nat} {A : Option Addr} {m : ByteArray} {S : List Ins.Sit} {j : Nat} {s : Ins.Sit} (h : w.ownsRow B 41 5 (.slice A S.length C) S.length (S.flatMap (scells m))) (hj : S[j]? = some s) :
    ∃ g, A = some ⟨g, 0, none⟩ ∧ w.cell? ⟨g, j * 5 + 2, none⟩ = some (.int .i64 s.1) ∧ w.cell? ⟨g, j * 5 + 3, none⟩ = some (.int .i64 s.2.1) ∧ B ≤ g := by
  have hlt := (List.getElem?_eq_some_iff.1 hj).1
  rcases h.2 with ⟨_, h0⟩ | ⟨g, cap, cur, e, hb, hh, hc, hm, hsz, htk⟩
  · omega
  · simp only [Value.slice.injEq] at e
    obtain ⟨rfl, _, rfl⟩ := e
    have hcl : ∀ (i : Nat) (u : Value), i < 5 → (scells m s)[i]? = some u → w.cell? ⟨g, j * 5 + i, none⟩ = some u := fun i u hi hu => by
      have h1 := flat_get (f := scells m) (n := 5) S j i s u (fun _ _ => rfl) hi hj hu
      rw [← htk, List.getElem?_take] at h1
      split at h1
      · simp only [World.cell?, hh]; simpa using h1
      · cases h1
    exact ⟨g, rfl, hcl 2 _ (by decide) rfl, hcl 3 _ (by decide) rfl, hb⟩
theorem nodes_own {w : World} {B n : Nat} {v : Value} {R : List Nd} (h : w.ownsRow B 38 8 v n (nfl R)) : Nodes w v R := by
  have hl := h.1
  rw [nfl_len] at hl
  have hn : n = R.length := by omega
  subst hn
  by_cases h0 : 0 < R.length
  · obtain ⟨g, C, rfl, _, hM, _, hC⟩ := node_row h h0
    exact ⟨_, C, rfl, hC, fun _ => ⟨g, 0, rfl, hM⟩⟩
  · have : R = [] := List.eq_nil_of_length_eq_zero (by omega)
    subst this
    rcases h.2 with ⟨rfl, _⟩ | ⟨g, cap, cur, rfl, _, _, hc, _⟩
    · exact ⟨none, 0, rfl, Nat.le_refl _, fun h => absurd h (Nat.lt_irrefl _)⟩
    · exact ⟨_, cap, rfl, hc, fun h => absurd h (Nat.lt_irrefl _)⟩
set_option maxRecDepth 100000 in
set_option maxHeartbeats 6400000 in
theorem ichecks_law (T : List Nd) (tv : Value) (w : World) (hn : Nodes w tv T) (hSp : Sp w) (hTab : Tab w) (hzT : ∀ x ∈ T, x.s.size ≤ 140737488351232) (hkT : ∀ x ∈ T, x.kids ≤ 9223372036854775807) :
    Calls Tryz.prog 3 #[tv] w (Makes (.bool true) w) := by
  have HN := Lib.hid hn
  have HSP := Lib.hid hSp
  have HTB := Lib.hid hTab
  have HBO := Lib.hid (both_any T tv w hn hSp hTab hzT hkT)
  obtain ⟨A, C, rfl, hlc, hNN⟩ := hn
  clear hSp hTab hzT hkT hNN
  go_enter Tryz.func3, Tryz.ntmps3
  go_wp2_with fail
  refine (jworks_any _ HSP.out HTB.out).mono ?_
  rintro E w2 ⟨rfl, hb2⟩
  have HB2 := Lib.hid hb2
  clear hb2
  by_cases hlg : 400 < T.length
  · go_wp2_with fail
    go_ret
    exact Makes.mk rfl HB2.out
  · rcases HBO.out with ⟨e, p, hbad⟩ | ⟨x, ks, L, hT, hO, hmy, hL, hgood⟩
    · have HBA := Lib.hid hbad
      clear hbad HBO
      go_wp2_with fail
      refine (HBA.out _ HB2.out).1.mono ?_
      rintro E w3 ⟨he, rfl, hb3⟩
      have HB3 := Lib.hid (below_later hb3 HB2.out)
      have HE := Lib.hid he
      clear he hb3
      go_wp2_with fail
      refine (HBA.out _ HB3.out).2.mono ?_
      rintro E w4 ⟨he, rfl, hb4⟩
      have HB4 := Lib.hid (below_later hb4 HB3.out)
      have q : (e != 0) = true := by simpa using he
      clear he hb4
      go_wp2_with fail
      go_ret
      exact Makes.mk (by first | rfl | (simp)) HB4.out
    · have HG := Lib.hid hgood
      have hMD := Ins.made_of (x := x) (ks := ks) (L := L) (ts := fun q => L.getD q .dyn) hO (by rw [← hT]; exact hmy) (by rw [← hT]; omega) hL (fun j t hj => by
        rw [Nat.zero_add]
        show L.getD j .dyn = t
        rw [List.getD_eq_getElem?_getD, hj]; rfl)
      have hLl : 0 < L.length := by
        have := Ins.ilen hL
        omega
      have hRl : (Ins.ins1 (fun q => L.getD q .dyn) x ks [] 0 0).1.length ≤ 100000 := by
        have h1 := Ins.ins1_size (fun q => L.getD q .dyn) x ks [] 0 0
        have h2 : T.length = 1 + ks.flat.length := by rw [hT]; simp; omega
        omega
      have hSl : (Ins.ins1 (fun q => L.getD q .dyn) x ks [] 0 0).2.length ≤ 100000 := by
        have h1 := Ins.ins1_sites (fun q => L.getD q .dyn) x ks [] 0 0
        have h2 : T.length = 1 + ks.flat.length := by rw [hT]; simp; omega
        omega
      have HRL := Lib.hid hRl
      have HSL := Lib.hid hSl
      have HMD := Lib.hid hMD
      clear hgood HBO hMD hRl hSl hO hmy hL hT
      go_wp2_with fail
      refine (HG.out _ HB2.out).1.mono ?_
      rintro E w3 ⟨v3, rfl, hown3, hb3⟩
      have HB3 := Lib.hid (below_later hb3 HB2.out)
      obtain ⟨g3, C3, rfl, _, _, _, _, hc3⟩ := own_read hown3 hLl
      have HT0 : Hid (w3.cell? ⟨g3, 0, none⟩ = some (.string (L.headD .dyn).str)) := Lib.hid (hc3 0 _ (by
        cases L with
        | nil => exact absurd hLl (Nat.lt_irrefl _)
        | cons t l => rfl))
      clear hown3 hb3 hc3
      go_wp2_with fail
      refine (HG.out _ HB3.out).2.mono ?_
      rintro E w4 ⟨v, sv, rfl, hv, hs, hb4⟩
      simp only [List.reverse_nil] at hv hs
      have HB4 := Lib.hid (below_later hb4 HB3.out)
      have HT4 := Lib.hid (cell_later hb4 HT0.out)
      generalize (Ins.ins1 (fun q => L.getD q .dyn) x ks [] 0 0).1 = R at *
      generalize (Ins.ins1 (fun q => L.getD q .dyn) x ks [] 0 0).2 = S at *
      generalize (L.headD .dyn) = t0 at *
      have HV := Lib.hid hv
      have HS := Lib.hid hs
      obtain ⟨Av, Cv, rfl⟩ := own_shape hv
      obtain ⟨As, Cs, rfl⟩ := own_shape hs
      have HCK := Lib.hid (coreCheck_any R (.slice Av R.length Cv) w4 (nodes_own hv) (by have := HRL.out; omega))
      rw [HMD.out.ok] at HCK
      clear hv hs hb4 HB3 HG HT0
      go_wp2_with fail
      refine HCK.out.mono ?_
      rintro E w5 ⟨he, hb5⟩
      obtain rfl : E = .returned (.tuple #[.string t0.str, .int .i64 0, .int .i64 0]) := he
      have HB5 := Lib.hid (below_later hb5 HB4.out)
      have k0 := cell_later hb5 HT4.out
      have HV5 := Lib.hid (own_later HV.out hb5)
      have HS5 := Lib.hid (own_later HS.out hb5)
      have hRl := HRL.out
      have hSl := HSL.out
      have hl0 : ((L.length : Int) == 0) = false := beq_eq_false_iff_ne.2 (by omega)
      have hl1 : ¬ L.length = 0 := by omega
      have hl2 : ¬ L = [] := fun e => by rw [e] at hLl; exact absurd hLl (Nat.lt_irrefl _)
      clear hb5 HB4 HT4 HV HS HCK
      obtain ⟨i0, hi, hz0, hz1, hz2⟩ := info_parts bool_info
      go_wp2_with (refine wpList_make_full _ rfl (.tmp 91) (.tmp 91) 33 rfl w5.heap.size 4 i0 _ 1 Tryz.underlying33 hi hz0 hz1 .i64 .i64 (S.length : Int) (S.length : Int) S.length rfl rfl rfl rfl (by rw [hz2]; omega) (by unfold maxLen; omega) (Nat.le_refl _) ?_)
      intro w6 hown6 hgr6
      have hb6 : Below w5.heap.size w5 w6 := (Below.refl _ _).grown hgr6 (Nat.le_refl _) fun k hk => by cases hk
      rw [toList_madeCells_one, ← seen_none R S.length] at hown6
      have HO6 := Lib.hid hown6
      have HB6 := Lib.hid hb6
      clear hown6 hgr6 hb6 hi hz0 hz1 hz2
      go_wp2_with fail
      go_loopw [16] (fun i w' => ∃ k : Nat, k ≤ R.length ∧ i = .int .i64 k ∧ Hid (w'.ownsRow w5.heap.size 4 1 (.slice (some ⟨w5.heap.size, 0, none⟩) S.length S.length) S.length (seenL R S.length k)) ∧ Hid (Below w5.heap.size w5 w')) (fun i _ => R.length - (intOf i).toNat)
      case atStart => exact ⟨0, Nat.zero_le _, by go_num, HO6, HB6⟩
      case round =>
        clear HO6 HB6 k0
        obtain ⟨k, hk, rfl, HO, HB⟩ := hrel
        by_cases hlt : k < R.length
        · obtain ⟨g, C', e1, -, hM, -⟩ := node_row (own_later HV5.out HB.out) (by omega)
          simp only [Value.slice.injEq] at e1
          obtain ⟨rfl, _, rfl⟩ := e1
          obtain ⟨y, hy⟩ : ∃ y, R[k]? = some y := ⟨_, List.getElem?_eq_getElem hlt⟩
          obtain ⟨n0, n1, n2, n3, n4, n5, n6, n7⟩ := hM.at_ hy
          simp only [Nat.zero_add] at n0 n1 n2 n3 n4 n5 n6 n7
          clear hM
          by_cases h30 : y.kind = 30
          · obtain ⟨⟨s, u, e1, e2, f1, f2, hcs, hne⟩, j, si, hsj, hyn, hyl, hyc⟩ := HMD.out.cast y (List.mem_of_getElem? hy) h30
            have hjl : j < S.length := (List.getElem?_eq_some_iff.1 hsj).1
            have hnot : ((j + 1 : Nat) : Int) ∉ Ins.labN (R.take k) := by
              have h1 := HMD.out.once
              have e : Ins.labN R = Ins.labN (R.take k) ++ [y.n] ++ Ins.labN (R.drop (k + 1)) := by
                have := Ins.labN_take hy
                rw [if_pos h30] at this
                rw [← this]
                unfold Ins.labN
                rw [← List.map_append, ← List.filter_append, List.take_append_drop]
              rw [e, hyn, List.append_assoc, List.nodup_append] at h1
              intro hm
              exact h1.2.2 _ hm _ (by simp) rfl
            have HSET := Lib.hid (seen_set (n := S.length) hy h30 hyn)
            have hyn' : y.n = (j : Int) + 1 := by rw [hyn]; omega
            obtain ⟨sc, sf⟩ := own_get HO.out (i := j) (v := .bool false) (by
              rw [seen_get R S.length k j hjl, decide_eq_false hnot])
            obtain ⟨gs, rfl, t2, t3, _⟩ := site_row (own_later HS5.out HB.out) hsj
            rw [h30] at n0
            rw [hyn'] at n2
            rw [e1] at n4
            rw [e2] at n5
            rw [hyl] at n6
            rw [hyc] at n7
            have HCO := Lib.hid (fun w' => Consistent_any s u f1 f2 w')
            rw [hcs] at HCO
            have hst : (s.str.toList == u.str.toList) = false := beq_eq_false_iff_ne.2 (by rw [toL', toL']; exact fun h => hne (str_inj (str_inj' h)))
            have hb7 : Below wr.heap.size wr (wr.alloc (.cells #[.int .i8 30, .int .i64 y.kids, .int .i64 ((j : Int) + 1), .string y.s, .string s.str, .string u.str, .int .i64 si.1, .int .i64 si.2.1] 38)) := (Below.refl _ _).alloc (Nat.le_refl _) _
            have hX : (wr.alloc (.cells #[.int .i8 30, .int .i64 y.kids, .int .i64 ((j : Int) + 1), .string y.s, .string s.str, .string u.str, .int .i64 si.1, .int .i64 si.2.1] 38)).heap[wr.heap.size]? = some (.cells #[.int .i8 30, .int .i64 y.kids, .int .i64 ((j : Int) + 1), .string y.s, .string s.str, .string u.str, .int .i64 si.1, .int .i64 si.2.1] 38 (0, 0)) := (MapKept.heap_alloc wr _).1
            have HX := Lib.hid hX
            have HO7 := Lib.hid (own_later HO.out hb7)
            have HB7 := Lib.hid (below_later hb7 HB.out)
            have u0 := cell_later hb7 sc
            have u2 := cell_later hb7 t2
            have u3 := cell_later hb7 t3
            clear hcs hne hnot hyn hyn' hyl hyc e1 e2 f1 f2 hy h30 hsj HO HB sc sf t2 t3 hb7 hX
            go_wp2_with fail
            generalize wr.alloc (.cells #[.int .i8 30, .int .i64 y.kids, .int .i64 ((j : Int) + 1), .string y.s, .string s.str, .string u.str, .int .i64 si.1, .int .i64 si.2.1] 38) = w7 at *
            have p2 : w7.cell? ⟨wr.heap.size, 2, none⟩ = some (.int .i64 ((j : Int) + 1)) := by unfold World.cell?; simp only; rw [HX.out]; rfl
            have p4 : w7.cell? ⟨wr.heap.size, 4, none⟩ = some (.string s.str) := by unfold World.cell?; simp only; rw [HX.out]; rfl
            have p5 : w7.cell? ⟨wr.heap.size, 5, none⟩ = some (.string u.str) := by unfold World.cell?; simp only; rw [HX.out]; rfl
            have p6 : w7.cell? ⟨wr.heap.size, 6, none⟩ = some (.int .i64 si.1) := by unfold World.cell?; simp only; rw [HX.out]; rfl
            have p7 : w7.cell? ⟨wr.heap.size, 7, none⟩ = some (.int .i64 si.2.1) := by unfold World.cell?; simp only; rw [HX.out]; rfl
            have d1 : decide ((j : Int) + 1 < 1) = false := decide_eq_false (by omega)
            have d2 : decide ((S.length : Int) < (j : Int) + 1) = false := decide_eq_false (by omega)
            have wj : IntKind.i64.wrap (j : Int) = (j : Int) := IntWalk.i64_in _ (by omega)
            have wj1 : IntKind.i64.wrap ((j : Int) + 1 - 1) = (j : Int) := by rw [show (j : Int) + 1 - 1 = j by omega]; exact wj
            refine wp_region_plan (S := fun w' => w'.cell? ⟨wr.heap.size, 2, none⟩ = some (.int .i64 ((j : Int) + 1)) ∧ w'.cell? ⟨wr.heap.size, 4, none⟩ = some (.string s.str) ∧ w'.cell? ⟨wr.heap.size, 5, none⟩ = some (.string u.str) ∧ w'.cell? ⟨wr.heap.size, 6, none⟩ = some (.int .i64 si.1) ∧ w'.cell? ⟨wr.heap.size, 7, none⟩ = some (.int .i64 si.2.1) ∧ w'.cell? ⟨w5.heap.size, j, none⟩ = some (.bool false) ∧ w'.cell? ⟨gs, j * 5 + 2, none⟩ = some (.int .i64 si.1) ∧ w'.cell? ⟨gs, j * 5 + 3, none⟩ = some (.int .i64 si.2.1)) [(0, true), (1, true), (2, true), (3, true), (4, true), (5, true), (6, true), (7, true), (8, true), (9, true), (10, false), (11, true), (12, true), (13, true), (14, true), (15, true), (16, true), (17, true), (18, true), (19, true), (20, true), (21, true), (22, true), (23, true), (24, true), (25, true), (26, true), (27, true), (28, true), (29, true), (30, true), (31, true), (32, true), (33, true), (34, true), (35, true), (36, true), (37, true), (38, true), (39, true), (40, true), (41, true), (42, true), (43, true), (44, true)] (by kernel_rfl) (by kernel_rfl) (by kernel_rfl) (fun _ _ _ _ _ h => h) ⟨p2, p4, p5, p6, p7, u0, u2, u3⟩ ?_
            intro HS
            repeat (first | (apply wpPlan_look; rfl; rfl; (intro wq hq; (try dsimp only at hq); go_split_ands; go_simp; (try rw [if_neg (by omega)]); (try rw [if_pos (by omega)]); try with_reducible rfl); simp only [Act.put, List.setIfInBounds_toArray, List.set_cons_zero, List.set_cons_succ]) | (apply wpPlan_skip; rfl; rfl; simp only [Act.put, List.setIfInBounds_toArray, List.set_cons_zero, List.set_cons_succ]) | (apply wpPlan_pass; rfl; rfl; assumption; simp only [Act.put, List.setIfInBounds_toArray, List.set_cons_zero, List.set_cons_succ]))
            apply wpPlan_call; rfl; rfl; rfl; rfl; kernel_rfl; exact HCO.out _; rfl; rintro E w9 ⟨rfl, hb9⟩
            have hb9' : Below w7.heap.size w7 w9 := below_later hb9 (Below.refl _ _).drew
            have r2 := cell_later hb9' p2
            have ru := cell_later hb9' u0
            refine ⟨_, rfl, as_S ⟨r2, cell_later hb9' p4, cell_later hb9' p5, cell_later hb9' p6, cell_later hb9' p7, ru, cell_later hb9' u2, cell_later hb9' u3⟩ ?_⟩
            intro HS2
            simp only [Act.put, List.setIfInBounds_toArray, List.set_cons_zero, List.set_cons_succ]
            repeat (first | (apply wpPlan_look; rfl; rfl; (intro wq hq; (try dsimp only at hq); go_split_ands; go_simp; (try rw [if_neg (by omega)]); (try rw [if_pos (by omega)]); try with_reducible rfl); simp only [Act.put, List.setIfInBounds_toArray, List.set_cons_zero, List.set_cons_succ]) | (apply wpPlan_skip; rfl; rfl; simp only [Act.put, List.setIfInBounds_toArray, List.set_cons_zero, List.set_cons_succ]) | (apply wpPlan_pass; rfl; rfl; assumption; simp only [Act.put, List.setIfInBounds_toArray, List.set_cons_zero, List.set_cons_succ]))
            apply wpPlan_done
            obtain ⟨_, rf⟩ := own_get (own_later HO7.out hb9') (i := j) (v := .bool false) (by
              have h1 := (own_get HO7.out (i := j) (v := (seenL R S.length k)[j]?.getD (.bool false)) (by rw [seen_get R S.length k j hjl]; rfl)).1
              rw [seen_get R S.length k j hjl] at h1
              rw [seen_get R S.length k j hjl]
              rw [u0] at h1
              exact h1.symm)
            have HO9 : Hid ((w9.setCell ⟨w5.heap.size, j, none⟩ (.bool true)).ownsRow w5.heap.size 4 1 (.slice (some ⟨w5.heap.size, 0, none⟩) S.length S.length) S.length (seenL R S.length (k + 1))) := Lib.hid (by
              have h1 := own_setv (own_later HO7.out hb9') j (.bool true)
              rw [HSET.out] at h1
              exact h1)
            have HB9 : Hid (Below w5.heap.size w5 (w9.setCell ⟨w5.heap.size, j, none⟩ (.bool true))) := Lib.hid ((below_later hb9' HB7.out).setCell (p := ⟨w5.heap.size, j, none⟩) (Nat.le_refl _) _)
            clear HS HS2 p2 p4 p5 p6 p7 u0 u2 u3 d1 d2 hb9 hb9' HO7 HB7 HX n0 n1 n2 n3 n4 n5 n6 n7
            go_wp2_with fail
            go_roundw
            case rel => exact ⟨k + 1, by omega, by go_num, HO9, HB9⟩
            case measure => simp [intOf]; omega
          · have e30 : (y.kind == 30) = false := beq_no h30
            have hb7 : Below wr.heap.size wr (wr.alloc (.cells #[.int .i8 y.kind, .int .i64 y.kids, .int .i64 y.n, .string y.s, .string y.t, .string y.u, .int .i64 y.line, .int .i64 y.col] 38)) := (Below.refl _ _).alloc (Nat.le_refl _) _
            have HO7 : Hid ((wr.alloc (.cells #[.int .i8 y.kind, .int .i64 y.kids, .int .i64 y.n, .string y.s, .string y.t, .string y.u, .int .i64 y.line, .int .i64 y.col] 38)).ownsRow w5.heap.size 4 1 (.slice (some ⟨w5.heap.size, 0, none⟩) S.length S.length) S.length (seenL R S.length (k + 1))) := Lib.hid (by
              rw [seen_same hy h30]
              exact own_later HO.out hb7)
            have HB7 := Lib.hid (below_later hb7 HB.out)
            have HX : Hid ((wr.alloc (.cells #[.int .i8 y.kind, .int .i64 y.kids, .int .i64 y.n, .string y.s, .string y.t, .string y.u, .int .i64 y.line, .int .i64 y.col] 38)).heap[wr.heap.size]? = some (.cells #[.int .i8 y.kind, .int .i64 y.kids, .int .i64 y.n, .string y.s, .string y.t, .string y.u, .int .i64 y.line, .int .i64 y.col] 38 (0, 0))) := Lib.hid (MapKept.heap_alloc wr _).1
            have p0 : (wr.alloc (.cells #[.int .i8 y.kind, .int .i64 y.kids, .int .i64 y.n, .string y.s, .string y.t, .string y.u, .int .i64 y.line, .int .i64 y.col] 38)).cell? ⟨wr.heap.size, 0, none⟩ = some (.int .i8 y.kind) := by unfold World.cell?; simp only; rw [HX.out]; rfl
            clear hb7 HO HB hy h30
            go_wp2_with fail
            go_roundw
            case rel => exact ⟨k + 1, by omega, by go_num, HO7, HB7⟩
            case measure => simp [intOf]; omega
        · have htk : R.take k = R := List.take_of_length_le (by omega)
          obtain ⟨w7, rfl⟩ : ∃ w0, w0 = wr := ⟨_, rfl⟩
          have HB7 := Lib.hid (below_later HB.out HB5.out)
          have HAL : Hid (∀ j, j < S.length → w7.cell? ⟨w5.heap.size, j, none⟩ = some (.bool true)) := Lib.hid (fun j hj => (own_get HO.out (i := j) (v := .bool true) (by
            rw [seen_get R S.length k j hj, htk, decide_eq_true (HMD.out.all j hj)])).1)
          clear HO HB htk HV5 HS5 HB5
          go_wp2_with fail
          go_loopw [18] (fun i w' => ∃ k : Nat, k ≤ S.length ∧ i = .int .i64 k ∧ w' = w7) (fun i _ => S.length - (intOf i).toNat)
          case atStart => exact ⟨0, Nat.zero_le _, by go_num, rfl⟩
          case round =>
            obtain ⟨k, hk, rfl, rfl⟩ := hrel
            by_cases hlt : k < S.length
            · have x0 := HAL.out k hlt
              go_wp2_with fail
              go_roundw
              case rel => exact ⟨k + 1, by omega, by go_num, by trivial⟩
              case measure => simp [intOf]; omega
            · go_wp2_with fail
              go_ret
              exact Makes.mk rfl HB7.out
end Go.Proofs.YtdfadmhomjcmeaaGreatDoor
