
/- Walks of erase: the slots of a module are gone over. -/
import Derived.Test.YtidholghbjljaaaGreatDoorWb
import Derived.Test.YtidholghbjljaaaGreatDoorWq
import Derived.Test.YtidholghbjljaaaGreatDoorVc
import Derived.Test.YtidholghbjljaaaGreatDoorR4W
import Derived.Shelf.Abstract
import Derived.Shelf.RegionOpen
import Derived.WalkKit
import Derived.OwnWalkIn
import Derived.TacticsInMore
import Derived.LoopNIn
import Derived.LoopIn
namespace Culp.Er
set_option linter.unusedSimpArgs false
set_option linter.unusedVariables false
open Go Culp
def slotV (s : Sl) (t : ByteArray) : Value := .agg #[.string s.mod, .bool s.imp, .int .i64 s.item, .int .i64 s.node, .bool s.res, .string t]
def addr (sk : Sk) (p : Pos) : Addr := if p.1 = 0 then ⟨sk.ib p.2.1, sk.io p.2.1 + p.2.2.1 * 5 + 2, none⟩ else if p.1 = 1 then ⟨sk.db p.2.1, sk.do_ p.2.1 + p.2.2.1 * 6 + 2, none⟩ else if p.1 = 2 then ⟨sk.tb p.2.1 p.2.2.1, sk.to_ p.2.1 p.2.2.1 + p.2.2.2 * 8 + 4, none⟩ else ⟨sk.tb p.2.1 p.2.2.1, sk.to_ p.2.1 p.2.2.1 + p.2.2.2 * 8 + 5, none⟩
def placeV (sk : Sk) (s : Sl) : Value := .agg #[.pointer (some (addr sk s.pos)), .bool s.absent]
theorem slI_len (nm : ByteArray) (m : Nat) : ∀ (i : Nat) (I : List Im), (slI nm m i I).length = I.length
  | _, [] => rfl
  | i, x :: I => by rw [slI, List.length_cons, List.length_cons, slI_len nm m (i + 1) I]
section
variable {nm : ByteArray} {m i k : Nat} {x : Nd}
theorem slX_5 (h : x.kind = 5) : slX nm m i k x = [⟨(2, m, i, k), nm, false, i, k, false, true⟩, ⟨(3, m, i, k), nm, false, i, k, true, true⟩] := by simp [slX, one, both, h]
theorem slX_6 (h : x.kind = 6) : slX nm m i k x = [⟨(2, m, i, k), nm, false, i, k, false, true⟩, ⟨(3, m, i, k), nm, false, i, k, true, true⟩] := by simp [slX, one, both, h]
theorem slX_8 (h : x.kind = 8) : slX nm m i k x = [⟨(2, m, i, k), nm, false, i, k, false, true⟩] := by simp [slX, one, both, h]
theorem slX_29 (h : x.kind = 29) : slX nm m i k x = [⟨(2, m, i, k), nm, false, i, k, false, false⟩] := by simp [slX, one, both, h]
end
/-- What the k-th round is handed. -/
def argsOf (sk : Sk) (S : List Sl) (τ : Nat → Pos → ByteArray) (k : Nat) : Array Value := match S[k]? with
  | some s => #[slotV s (τ k s.pos), placeV sk s]
  | none => #[undef, undef]
theorem drop_head {α : Type} {S R : List α} {k : Nat} {s : α} (h : S.drop k = s :: R) : S[k]? = some s ∧ S.drop (k + 1) = R ∧ k < S.length := by
  have h1 : (S.drop k)[0]? = some s := by rw [h]; rfl
  rw [List.getElem?_drop, Nat.add_zero] at h1
  exact ⟨h1, by rw [← List.drop_drop, h]; rfl, (List.getElem?_eq_some_iff.1 h1).1⟩
theorem yield_any {m m' : Nat} {P : Program} {l : Nat} {args : Array Value} {W : World} {R : Ending → World → Prop} (h : YieldAt Fence.wide m P l args W R) : YieldAt Fence.wide m' P l args W R := by
  obtain ⟨fn, tmps, assign, body, hy, hF, hR⟩ := h
  exact ⟨fn, tmps, assign, body, hy, hF, fun c cs _ => hR c cs (room_wide _)⟩
end Culp.Er
namespace Go.Proofs.YtidholghbjljaaaGreatDoor
set_option linter.unusedSimpArgs false
set_option linter.unusedVariables false
open Go.RowKit Culp Culp.Er
section
variable (sk : Sk) (L : List Md) (τ : Nat → Pos → ByteArray) (l : Nat) (J : Nat → World → Prop) (hJ : Er.Calm J) (hM : ∀ k W, J k W → MAt sk W L (τ k))
  (hY : ∀ k W m, k < (slots L).length → J k W → YieldAt Fence.wide m Tryz.prog l (argsOf sk (slots L) τ k) W fun e W' => e = .returned (.bool true) ∧ J (k + 1) W')
include hJ hM hY
set_option maxRecDepth 100000 in
set_option maxHeartbeats 6400000 in
theorem within_in (n q m : Nat) (md : Md) (R : List Sl) (hm : L[m]? = some md) (hS : (slots L).drop q = slI md.name m 0 md.imps ++ (slD md.name m 0 md.defs ++ R)) (hlen : (slots L).length ≤ 1000000000) (hB : md.defs.length ≤ 1000000000000 ∧ ∀ (i : Nat) (d : Df), md.defs[i]? = some d → d.tree.length ≤ 1000000000000) (W : World) (h0 : J q W) :
    CallsIn Fence.wide n Tryz.prog 116 #[.pointer (some ⟨sk.b, sk.o + m * 5, none⟩), .func (.yield l) #[] #[]] W fun e W' => e = .returned (.bool true) ∧ J (q + (slI md.name m 0 md.imps).length + (slD md.name m 0 md.defs).length) W' := by
  have HJ := Lib.hid hJ
  have hdb := hB.1
  have HTB := Lib.hid hB.2
  have HM := Lib.hid hM
  have HY := Lib.hid hY
  have HMM := Lib.hid hm
  have HS := Lib.hid hS
  have H0 := Lib.hid h0
  obtain ⟨A, c, hv, hc, hA⟩ := (hM q W h0 m md hm).iv
  have HIV := Lib.hid hv
  obtain ⟨n0, n1, n2, n3, n4⟩ := (hM q W h0 m md hm).cells
  rw [hv] at n1
  clear hJ hM hY hm hS h0 hv hB
  refine callsIn_of_wp Tryz.func116 rfl trivial ?_ rfl
  simp only [Tryz.ntmps116, List.size_toArray, List.length_cons, List.length_nil, Nat.reduceAdd, Nat.reduceSub, Array.replicate_succ, Array.replicate_zero, List.push_toArray, List.append_toArray, List.nil_append, List.cons_append]
  gi_wp2
  gi_loopw [18] (fun iv wr => ∃ i : Nat, i ≤ md.imps.length ∧ iv = .int .i64 i ∧ Hid (J (q + i) wr) ∧ Hid ((slots L).drop (q + i) = slI md.name m i (md.imps.drop i) ++ (slD md.name m 0 md.defs ++ R))) (fun iv _ => md.imps.length - (intOf iv).toNat)
  case atStart => exact ⟨0, Nat.zero_le _, rfl, H0, HS⟩
  case round =>
    clear H0 HS n0 n1 n2 n3 n4
    obtain ⟨i, hi, rfl, HK, HD⟩ := hrel
    obtain ⟨n0, n1, n2, n3, n4⟩ := (HM.out _ _ HK.out m md HMM.out).cells
    rw [HIV.out] at n1
    by_cases hlt : i < md.imps.length
    · have hx : md.imps[i]? = some md.imps[i] := List.getElem?_eq_getElem hlt
      obtain ⟨q0, q1, q2, q3, q4⟩ := (HM.out _ _ HK.out m md HMM.out).imps i _ hx
      have hdr := HD.out
      rw [List.drop_eq_getElem_cons hlt, slI, List.cons_append] at hdr
      obtain ⟨hs1, hs2, hs3⟩ := drop_head hdr
      obtain rfl := hA (by omega)
      obtain ⟨fn, tmps, assign, body, hy, hR⟩ := HY.out (q + i) wr.drew (n - 1) hs3 (HJ.out _ _ _ HK.out ⟨rfl, rfl, rfl, Nat.le_refl _, fun _ _ _ => rfl⟩)
      unfold argsOf at hy
      rw [hs1] at hy
      simp only [slotV, placeV, addr, if_true] at hy
      have q2' : wr.cell? ⟨sk.ib m, sk.io m + i * 5 + 2, none⟩ = some (.string (τ (q + i) (0, m, i, 0))) := q2
      have mixed : Tryz.prog.follows .mixedOrders = true := by kernel_rfl
      clear q0 q1 q2 q3 q4
      gi_wp2
      refine wpIn_region_act (S := fun w' => w'.cell? ⟨sk.b, sk.o + m * 5, none⟩ = some (.string md.name) ∧ w'.cell? ⟨sk.ib m, sk.io m + i * 5 + 2, none⟩ = some (.string (τ (q + i) (0, m, i, 0)))) [0, 1, 2, 3, 4, 5, 6, 7, 8, 9, 10, 11] 12 [13] rfl (by kernel_rfl) (by kernel_rfl) (by kernel_rfl) (fun _ _ _ _ _ h => h) ⟨n0, q2'⟩ ?_
      intro HSX
      repeat (first | (apply walkB_look; rfl; rfl; (intro _; rfl); (intro wq hq; (try dsimp only at hq); go_split_ands; go_simp; (try with_reducible rfl)); simp only [Act.put, List.setIfInBounds_toArray, List.set_cons_zero, List.set_cons_succ]))
      refine walkB_round rfl rfl (fun _ => trivial) rfl rfl rfl rfl rfl hy hR ?_
      rintro e W' ⟨rfl, hJ'⟩
      refine ⟨_, rfl, ?_⟩
      simp only [Act.put, List.setIfInBounds_toArray, List.set_cons_zero, List.set_cons_succ]
      repeat (first | (apply walkA_look; rfl; rfl; (intro _; rfl); (intro wq; go_simp; (try with_reducible rfl)); simp only [Act.put, List.setIfInBounds_toArray, List.set_cons_zero, List.set_cons_succ]))
      apply walkA_done
      clear HSX
      · gi_wp2
        go_roundw
        case rel => exact ⟨i + 1, by omega, by go_num, Lib.hid (by rw [← Nat.add_assoc]; exact hJ'), Lib.hid (by rw [← Nat.add_assoc]; exact hs2)⟩
        case measure => simp [intOf]; omega
    · have hie : i = md.imps.length := by omega
      have hdr := HD.out
      rw [List.drop_of_length_le (l := md.imps) (by omega), slI, List.nil_append] at hdr
      have HD2 := Lib.hid hdr
      have HCN : Hid (q + i + (slD md.name m 0 md.defs).length = q + (slI md.name m 0 md.imps).length + (slD md.name m 0 md.defs).length) := Lib.hid (by rw [slI_len, hie])
      obtain ⟨Ad, cd, hdv, hcd, hAd⟩ := (HM.out _ _ HK.out m md HMM.out).dv
      have HDV := Lib.hid hdv
      rw [hdv] at n2
      clear HD hdr hdv hA hie
      gi_wp2
      clear n0 n1 n2 n3 n4
      gi_loopw [48] (fun iv wr => ∃ j k : Nat, j ≤ md.defs.length ∧ iv = .int .i64 j ∧ Hid (J k wr) ∧ Hid ((slots L).drop k = slD md.name m j (md.defs.drop j) ++ R) ∧ Hid (k + (slD md.name m j (md.defs.drop j)).length = q + (slI md.name m 0 md.imps).length + (slD md.name m 0 md.defs).length)) (fun iv _ => md.defs.length - (intOf iv).toNat)
      case atStart => exact ⟨0, q + i, Nat.zero_le _, rfl, HK, HD2, HCN⟩
      case round =>
        clear HK HD2 HCN
        obtain ⟨j, k, hj, rfl, HK, HD, HCN⟩ := hrel
        obtain ⟨n0, n1, n2, n3, n4⟩ := (HM.out _ _ HK.out m md HMM.out).cells
        rw [HDV.out] at n2
        by_cases hltd : j < md.defs.length
        · have hx : md.defs[j]? = some md.defs[j] := List.getElem?_eq_getElem hltd
          obtain ⟨⟨q0, q1, q2, q3, q4, q5⟩, At, ct, htv, hct, hAt⟩ := (HM.out _ _ HK.out m md HMM.out).defs j _ hx
          have hdr := HD.out
          rw [List.drop_eq_getElem_cons hltd, slD, List.cons_append, List.append_assoc] at hdr
          obtain ⟨hs1, hs2, hs3⟩ := drop_head hdr
          have hcn := HCN.out
          rw [List.drop_eq_getElem_cons hltd, slD, List.length_cons, List.length_append] at hcn
          obtain rfl := hAd (by omega)
          obtain ⟨fn, tmps, assign, body, hy, hR⟩ := HY.out k wr.drew (n - 1) hs3 (HJ.out _ _ _ HK.out ⟨rfl, rfl, rfl, Nat.le_refl _, fun _ _ _ => rfl⟩)
          unfold argsOf at hy
          rw [hs1] at hy
          simp only [slotV, placeV, addr, if_true, Nat.one_ne_zero, if_false] at hy
          have htb := HTB.out j _ hx
          have HX := Lib.hid hx
          have HTV := Lib.hid htv
          generalize md.defs[j] = d at *
          have q2' : wr.cell? ⟨sk.db m, sk.do_ m + j * 6 + 2, none⟩ = some (.string (τ k (1, m, j, 0))) := q2
          have mixed : Tryz.prog.follows .mixedOrders = true := by kernel_rfl
          have HS2 := Lib.hid hs2
          have HCN2 := Lib.hid hcn
          clear q0 q1 q2 q3 q4 q5 hx htv hdr hs2 hcn HD HCN
          gi_wp2
          refine wpIn_region_act (S := fun w' => w'.cell? ⟨sk.b, sk.o + m * 5, none⟩ = some (.string md.name) ∧ w'.cell? ⟨sk.db m, sk.do_ m + j * 6 + 2, none⟩ = some (.string (τ k (1, m, j, 0)))) [0, 1, 2, 3, 4, 5, 6, 7, 8, 9, 10, 11, 12, 13, 14] 15 [16] rfl (by kernel_rfl) (by kernel_rfl) (by kernel_rfl) (fun _ _ _ _ _ h => h) ⟨n0, q2'⟩ ?_
          intro HSX
          repeat (first | (apply walkB_look; rfl; rfl; (intro _; rfl); (intro wq hq; (try dsimp only at hq); go_split_ands; go_simp; (try with_reducible rfl)); simp only [Act.put, List.setIfInBounds_toArray, List.set_cons_zero, List.set_cons_succ]))
          refine walkB_round rfl rfl (fun _ => trivial) rfl rfl rfl rfl rfl hy hR ?_
          rintro e W' ⟨rfl, hJ'⟩
          refine ⟨_, rfl, ?_⟩
          simp only [Act.put, List.setIfInBounds_toArray, List.set_cons_zero, List.set_cons_succ]
          repeat (first | (apply walkA_look; rfl; rfl; (intro _; rfl); (intro wq; go_simp; (try with_reducible rfl)); simp only [Act.put, List.setIfInBounds_toArray, List.set_cons_zero, List.set_cons_succ]))
          apply walkA_done
          clear HSX
          · skip
            have HK2 := Lib.hid hJ'
            obtain ⟨-, -, -, p3, -, -⟩ := ((HM.out _ _ hJ' m md HMM.out).defs j _ HX.out).1
            replace p3 : W'.cell? ⟨sk.db m, sk.do_ m + j * 6 + 3, none⟩ = some (sk.tv m j) := p3
            rw [HTV.out] at p3
            clear hJ' hR hy n0 n1 n2 n3 n4 q2'
            gi_wp2
            gi_loopw [79] (fun iv wr => ∃ z k : Nat, z ≤ d.tree.length ∧ iv = .int .i64 z ∧ Hid (J k wr) ∧ Hid ((slots L).drop k = slT md.name m j z (d.tree.drop z) ++ (slD md.name m (j + 1) (md.defs.drop (j + 1)) ++ R)) ∧ Hid (k + ((slT md.name m j z (d.tree.drop z)).length + (slD md.name m (j + 1) (md.defs.drop (j + 1))).length) = q + (slI md.name m 0 md.imps).length + (slD md.name m 0 md.defs).length)) (fun iv _ => d.tree.length - (intOf iv).toNat)
            case atStart => exact ⟨0, k + 1, Nat.zero_le _, rfl, HK2, HS2, Lib.hid (by have := HCN2.out; rw [← this]; simp only [List.drop_zero]; omega)⟩
            case round =>
              clear HK2 HS2 HCN2 HK p3
              obtain ⟨z, k, hz, rfl, HK, HD, HCN⟩ := hrel
              have p3 : wr.cell? ⟨sk.db m, sk.do_ m + j * 6 + 3, none⟩ = some (sk.tv m j) := ((HM.out _ _ HK.out m md HMM.out).defs j _ HX.out).1.2.2.2.1
              rw [HTV.out] at p3
              have n0 : wr.cell? ⟨sk.b, sk.o + m * 5, none⟩ = some (.string md.name) := (HM.out _ _ HK.out m md HMM.out).cells.1
              by_cases hltz : z < d.tree.length
              · have hx : d.tree[z]? = some d.tree[z] := List.getElem?_eq_getElem hltz
                have hdr := HD.out
                have hcn := HCN.out
                rw [List.drop_eq_getElem_cons hltz, slT] at hdr hcn
                obtain rfl := hAt (by omega)
                have HXZ := Lib.hid hx
                have c0 : wr.cell? ⟨sk.tb m j, sk.to_ m j + z * 8, none⟩ = some (.int .i8 d.tree[z].kind) := (HM.out _ _ HK.out m md HMM.out).nodes j _ HX.out z _ hx 0 _ rfl
                have c4 : wr.cell? ⟨sk.tb m j, sk.to_ m j + z * 8 + 4, none⟩ = some (.string (τ k (2, m, j, z))) := (HM.out _ _ HK.out m md HMM.out).nodes j _ HX.out z _ hx 4 _ rfl
                generalize d.tree[z] = x at *
                have mixed : Tryz.prog.follows .mixedOrders = true := by kernel_rfl
                clear hx HD HCN
                by_cases hb : x.kind = 5 ∨ x.kind = 6
                · rcases hb with hk | hk
                  · skip
                    have hsl := slX_5 (nm := md.name) (m := m) (i := j) (k := z) hk
                    rw [hsl] at hdr
                    rw [hsl] at hcn
                    simp only [List.cons_append, List.nil_append, List.length_cons] at hdr hcn
                    obtain ⟨hs1, hs2, hs3⟩ := drop_head hdr
                    obtain ⟨fn, tmps, assign, body, hy, hR⟩ := HY.out k wr.drew (n - 1) hs3 (HJ.out _ _ _ HK.out ⟨rfl, rfl, rfl, Nat.le_refl _, fun _ _ _ => rfl⟩)
                    unfold argsOf at hy
                    rw [hs1] at hy
                    simp [slotV, placeV, addr] at hy
                    rw [hk] at c0
                    have HS2 := Lib.hid hs2
                    have HCN := Lib.hid hcn
                    have HKD := Lib.hid hk
                    clear hdr hcn hsl hs2 hk
                    gi_wp2
                    refine wpIn_region_act (S := fun w' => w'.cell? ⟨sk.b, sk.o + m * 5, none⟩ = some (.string md.name) ∧ w'.cell? ⟨sk.tb m j, sk.to_ m j + z * 8, none⟩ = some (.int .i8 5) ∧ w'.cell? ⟨sk.tb m j, sk.to_ m j + z * 8 + 4, none⟩ = some (.string (τ k (2, m, j, z)))) [0, 1, 2, 3, 4, 5, 6, 7, 8, 9, 10, 11, 12, 13, 14, 15, 16, 17, 18, 19, 20, 21, 22] 23 [24, 25] rfl (by kernel_rfl) (by kernel_rfl) (by kernel_rfl) (fun _ _ _ _ _ h => h) ⟨n0, c0, c4⟩ ?_
                    intro HSX
                    repeat (first | (apply walkB_look; rfl; rfl; (intro _; rfl); (intro wq hq; (try dsimp only at hq); go_split_ands; go_simp; (try with_reducible rfl)); simp only [Act.put, List.setIfInBounds_toArray, List.set_cons_zero, List.set_cons_succ]))
                    refine walkB_round rfl rfl (fun _ => trivial) rfl rfl rfl rfl rfl hy hR ?_
                    rintro e W' ⟨rfl, hJ'⟩
                    refine ⟨_, rfl, ?_⟩
                    simp only [Act.put, List.setIfInBounds_toArray, List.set_cons_zero, List.set_cons_succ]
                    repeat (first | (apply walkA_look; rfl; rfl; (intro _; rfl); (intro wq; go_simp; (try with_reducible rfl)); simp only [Act.put, List.setIfInBounds_toArray, List.set_cons_zero, List.set_cons_succ]))
                    apply walkA_done
                    clear HSX
                    have HK2 := Lib.hid hJ'
                    clear hJ' hR hy n0 c0 c4 p3
                    obtain ⟨hs4, hs5, hs6⟩ := drop_head HS2.out
                    have n0 : W'.cell? ⟨sk.b, sk.o + m * 5, none⟩ = some (.string md.name) := (HM.out _ _ HK2.out m md HMM.out).cells.1
                    have c5 : W'.cell? ⟨sk.tb m j, sk.to_ m j + z * 8 + 5, none⟩ = some (.string (τ (k + 1) (3, m, j, z))) := (HM.out _ _ HK2.out m md HMM.out).nodes j _ HX.out z _ HXZ.out 5 _ rfl
                    obtain ⟨fn, tmps, assign, body, hy, hR⟩ := HY.out (k + 1) W'.drew (n - 1) hs6 (HJ.out _ _ _ HK2.out ⟨rfl, rfl, rfl, Nat.le_refl _, fun _ _ _ => rfl⟩)
                    unfold argsOf at hy
                    rw [hs4] at hy
                    simp [slotV, placeV, addr] at hy
                    have HS5 := Lib.hid hs5
                    clear hs5
                    gi_wp2
                    refine wpIn_region_act (S := fun w' => w'.cell? ⟨sk.b, sk.o + m * 5, none⟩ = some (.string md.name) ∧ w'.cell? ⟨sk.tb m j, sk.to_ m j + z * 8 + 5, none⟩ = some (.string (τ (k + 1) (3, m, j, z)))) [0, 1, 2, 3, 4, 5, 6, 7, 8, 9, 10, 11, 12, 13, 14, 15, 16, 17] 18 [19, 20] rfl (by kernel_rfl) (by kernel_rfl) (by kernel_rfl) (fun _ _ _ _ _ h => h) ⟨n0, c5⟩ ?_
                    intro HSX
                    repeat (first | (apply walkB_look; rfl; rfl; (intro _; rfl); (intro wq hq; (try dsimp only at hq); go_split_ands; go_simp; (try with_reducible rfl)); simp only [Act.put, List.setIfInBounds_toArray, List.set_cons_zero, List.set_cons_succ]))
                    refine walkB_round rfl rfl (fun _ => trivial) rfl rfl rfl rfl rfl hy hR ?_
                    rintro e W2 ⟨rfl, hJ2⟩
                    refine ⟨_, rfl, ?_⟩
                    simp only [Act.put, List.setIfInBounds_toArray, List.set_cons_zero, List.set_cons_succ]
                    repeat (first | (apply walkA_look; rfl; rfl; (intro _; rfl); (intro wq; go_simp; (try with_reducible rfl)); simp only [Act.put, List.setIfInBounds_toArray, List.set_cons_zero, List.set_cons_succ]))
                    apply walkA_done
                    clear HSX
                    have HK3 := Lib.hid hJ2
                    clear hJ2 hR hy n0 c5
                    gi_wp2
                    go_roundw
                    case rel => exact ⟨z + 1, k + 1 + 1, by omega, by go_num, HK3, HS5, Lib.hid (by have := HCN.out; omega)⟩
                    case measure => simp [intOf]; omega
                  · skip
                    have hsl := slX_6 (nm := md.name) (m := m) (i := j) (k := z) hk
                    rw [hsl] at hdr
                    rw [hsl] at hcn
                    simp only [List.cons_append, List.nil_append, List.length_cons] at hdr hcn
                    obtain ⟨hs1, hs2, hs3⟩ := drop_head hdr
                    obtain ⟨fn, tmps, assign, body, hy, hR⟩ := HY.out k wr.drew (n - 1) hs3 (HJ.out _ _ _ HK.out ⟨rfl, rfl, rfl, Nat.le_refl _, fun _ _ _ => rfl⟩)
                    unfold argsOf at hy
                    rw [hs1] at hy
                    simp [slotV, placeV, addr] at hy
                    rw [hk] at c0
                    have HS2 := Lib.hid hs2
                    have HCN := Lib.hid hcn
                    have HKD := Lib.hid hk
                    clear hdr hcn hsl hs2 hk
                    gi_wp2
                    refine wpIn_region_act (S := fun w' => w'.cell? ⟨sk.b, sk.o + m * 5, none⟩ = some (.string md.name) ∧ w'.cell? ⟨sk.tb m j, sk.to_ m j + z * 8, none⟩ = some (.int .i8 6) ∧ w'.cell? ⟨sk.tb m j, sk.to_ m j + z * 8 + 4, none⟩ = some (.string (τ k (2, m, j, z)))) [0, 1, 2, 3, 4, 5, 6, 7, 8, 9, 10, 11, 12, 13, 14, 15, 16, 17, 18, 19, 20, 21, 22] 23 [24, 25] rfl (by kernel_rfl) (by kernel_rfl) (by kernel_rfl) (fun _ _ _ _ _ h => h) ⟨n0, c0, c4⟩ ?_
                    intro HSX
                    repeat (first | (apply walkB_look; rfl; rfl; (intro _; rfl); (intro wq hq; (try dsimp only at hq); go_split_ands; go_simp; (try with_reducible rfl)); simp only [Act.put, List.setIfInBounds_toArray, List.set_cons_zero, List.set_cons_succ]))
                    refine walkB_round rfl rfl (fun _ => trivial) rfl rfl rfl rfl rfl hy hR ?_
                    rintro e W' ⟨rfl, hJ'⟩
                    refine ⟨_, rfl, ?_⟩
                    simp only [Act.put, List.setIfInBounds_toArray, List.set_cons_zero, List.set_cons_succ]
                    repeat (first | (apply walkA_look; rfl; rfl; (intro _; rfl); (intro wq; go_simp; (try with_reducible rfl)); simp only [Act.put, List.setIfInBounds_toArray, List.set_cons_zero, List.set_cons_succ]))
                    apply walkA_done
                    clear HSX
                    have HK2 := Lib.hid hJ'
                    clear hJ' hR hy n0 c0 c4 p3
                    obtain ⟨hs4, hs5, hs6⟩ := drop_head HS2.out
                    have n0 : W'.cell? ⟨sk.b, sk.o + m * 5, none⟩ = some (.string md.name) := (HM.out _ _ HK2.out m md HMM.out).cells.1
                    have c5 : W'.cell? ⟨sk.tb m j, sk.to_ m j + z * 8 + 5, none⟩ = some (.string (τ (k + 1) (3, m, j, z))) := (HM.out _ _ HK2.out m md HMM.out).nodes j _ HX.out z _ HXZ.out 5 _ rfl
                    obtain ⟨fn, tmps, assign, body, hy, hR⟩ := HY.out (k + 1) W'.drew (n - 1) hs6 (HJ.out _ _ _ HK2.out ⟨rfl, rfl, rfl, Nat.le_refl _, fun _ _ _ => rfl⟩)
                    unfold argsOf at hy
                    rw [hs4] at hy
                    simp [slotV, placeV, addr] at hy
                    have HS5 := Lib.hid hs5
                    clear hs5
                    gi_wp2
                    refine wpIn_region_act (S := fun w' => w'.cell? ⟨sk.b, sk.o + m * 5, none⟩ = some (.string md.name) ∧ w'.cell? ⟨sk.tb m j, sk.to_ m j + z * 8 + 5, none⟩ = some (.string (τ (k + 1) (3, m, j, z)))) [0, 1, 2, 3, 4, 5, 6, 7, 8, 9, 10, 11, 12, 13, 14, 15, 16, 17] 18 [19, 20] rfl (by kernel_rfl) (by kernel_rfl) (by kernel_rfl) (fun _ _ _ _ _ h => h) ⟨n0, c5⟩ ?_
                    intro HSX
                    repeat (first | (apply walkB_look; rfl; rfl; (intro _; rfl); (intro wq hq; (try dsimp only at hq); go_split_ands; go_simp; (try with_reducible rfl)); simp only [Act.put, List.setIfInBounds_toArray, List.set_cons_zero, List.set_cons_succ]))
                    refine walkB_round rfl rfl (fun _ => trivial) rfl rfl rfl rfl rfl hy hR ?_
                    rintro e W2 ⟨rfl, hJ2⟩
                    refine ⟨_, rfl, ?_⟩
                    simp only [Act.put, List.setIfInBounds_toArray, List.set_cons_zero, List.set_cons_succ]
                    repeat (first | (apply walkA_look; rfl; rfl; (intro _; rfl); (intro wq; go_simp; (try with_reducible rfl)); simp only [Act.put, List.setIfInBounds_toArray, List.set_cons_zero, List.set_cons_succ]))
                    apply walkA_done
                    clear HSX
                    have HK3 := Lib.hid hJ2
                    clear hJ2 hR hy n0 c5
                    gi_wp2
                    go_roundw
                    case rel => exact ⟨z + 1, k + 1 + 1, by omega, by go_num, HK3, HS5, Lib.hid (by have := HCN.out; omega)⟩
                    case measure => simp [intOf]; omega
                · by_cases ho : x.kind = 8 ∨ x.kind = 29
                  · rcases ho with hk | hk
                    · skip
                      have hsl := slX_8 (nm := md.name) (m := m) (i := j) (k := z) hk
                      rw [hsl] at hdr
                      rw [hsl] at hcn
                      simp only [List.cons_append, List.nil_append, List.length_cons] at hdr hcn
                      obtain ⟨hs1, hs2, hs3⟩ := drop_head hdr
                      obtain ⟨fn, tmps, assign, body, hy, hR⟩ := HY.out k wr.drew (n - 1) hs3 (HJ.out _ _ _ HK.out ⟨rfl, rfl, rfl, Nat.le_refl _, fun _ _ _ => rfl⟩)
                      unfold argsOf at hy
                      rw [hs1] at hy
                      simp [slotV, placeV, addr] at hy
                      rw [hk] at c0
                      have HS2 := Lib.hid hs2
                      have HCN := Lib.hid hcn
                      have HKD := Lib.hid hk
                      clear hdr hcn hsl hs2 hk
                      gi_wp2
                      refine wpIn_region_act (S := fun w' => w'.cell? ⟨sk.b, sk.o + m * 5, none⟩ = some (.string md.name) ∧ w'.cell? ⟨sk.tb m j, sk.to_ m j + z * 8, none⟩ = some (.int .i8 8) ∧ w'.cell? ⟨sk.tb m j, sk.to_ m j + z * 8 + 4, none⟩ = some (.string (τ k (2, m, j, z)))) [0, 1, 2, 3, 4, 5, 6, 7, 8, 9, 10, 11, 12, 13, 14, 15, 16, 17, 18, 19, 20, 21, 22] 23 [24, 25] rfl (by kernel_rfl) (by kernel_rfl) (by kernel_rfl) (fun _ _ _ _ _ h => h) ⟨n0, c0, c4⟩ ?_
                      intro HSX
                      repeat (first | (apply walkB_look; rfl; rfl; (intro _; rfl); (intro wq hq; (try dsimp only at hq); go_split_ands; go_simp; (try with_reducible rfl)); simp only [Act.put, List.setIfInBounds_toArray, List.set_cons_zero, List.set_cons_succ]))
                      refine walkB_round rfl rfl (fun _ => trivial) rfl rfl rfl rfl rfl hy hR ?_
                      rintro e W' ⟨rfl, hJ'⟩
                      refine ⟨_, rfl, ?_⟩
                      simp only [Act.put, List.setIfInBounds_toArray, List.set_cons_zero, List.set_cons_succ]
                      repeat (first | (apply walkA_look; rfl; rfl; (intro _; rfl); (intro wq; go_simp; (try with_reducible rfl)); simp only [Act.put, List.setIfInBounds_toArray, List.set_cons_zero, List.set_cons_succ]))
                      apply walkA_done
                      clear HSX
                      have HKX : Hid (J (k + 1) W'.drew) := Lib.hid (HJ.out _ _ _ hJ' ⟨rfl, rfl, rfl, Nat.le_refl _, fun _ _ _ => rfl⟩)
                      clear hJ' hR hy n0 c0 c4 p3
                      gi_wp2
                      refine wpIn_wide.2 ?_
                      refine wp_region_plan (S := fun _ => True) [(0, true), (1, true), (2, true), (3, true), (4, true), (5, true), (6, true), (7, true), (8, true), (9, true), (10, true), (11, true), (12, true), (13, true), (14, true), (15, true), (16, true), (17, true), (18, false), (19, true), (20, true)] (by kernel_rfl) (by kernel_rfl) (by kernel_rfl) (fun _ _ _ _ _ h => h) trivial ?_
                      intro _
                      repeat (first | (apply wpPlan_look; rfl; rfl; (intro wq hq; (try dsimp only at hq); go_split_ands; go_simp; (try rw [if_neg (by omega)]); (try rw [if_pos (by omega)]); try with_reducible rfl); simp only [Act.put, List.setIfInBounds_toArray, List.set_cons_zero, List.set_cons_succ]) | (apply wpPlan_skip; rfl; rfl; simp only [Act.put, List.setIfInBounds_toArray, List.set_cons_zero, List.set_cons_succ]) | (apply wpPlan_pass; rfl; rfl; assumption; simp only [Act.put, List.setIfInBounds_toArray, List.set_cons_zero, List.set_cons_succ]))
                      apply wpPlan_done
                      gi_wp2
                      go_roundw
                      case rel => exact ⟨z + 1, k + 1, by omega, by go_num, HKX, HS2, Lib.hid (by have := HCN.out; omega)⟩
                      case measure => simp [intOf]; omega
                    · skip
                      have hsl := slX_29 (nm := md.name) (m := m) (i := j) (k := z) hk
                      rw [hsl] at hdr
                      rw [hsl] at hcn
                      simp only [List.cons_append, List.nil_append, List.length_cons] at hdr hcn
                      obtain ⟨hs1, hs2, hs3⟩ := drop_head hdr
                      obtain ⟨fn, tmps, assign, body, hy, hR⟩ := HY.out k wr.drew (n - 1) hs3 (HJ.out _ _ _ HK.out ⟨rfl, rfl, rfl, Nat.le_refl _, fun _ _ _ => rfl⟩)
                      unfold argsOf at hy
                      rw [hs1] at hy
                      simp [slotV, placeV, addr] at hy
                      rw [hk] at c0
                      have HS2 := Lib.hid hs2
                      have HCN := Lib.hid hcn
                      have HKD := Lib.hid hk
                      clear hdr hcn hsl hs2 hk
                      gi_wp2
                      refine wpIn_region_act (S := fun w' => w'.cell? ⟨sk.b, sk.o + m * 5, none⟩ = some (.string md.name) ∧ w'.cell? ⟨sk.tb m j, sk.to_ m j + z * 8, none⟩ = some (.int .i8 29) ∧ w'.cell? ⟨sk.tb m j, sk.to_ m j + z * 8 + 4, none⟩ = some (.string (τ k (2, m, j, z)))) [0, 1, 2, 3, 4, 5, 6, 7, 8, 9, 10, 11, 12, 13, 14, 15, 16, 17, 18, 19, 20, 21, 22] 23 [24, 25] rfl (by kernel_rfl) (by kernel_rfl) (by kernel_rfl) (fun _ _ _ _ _ h => h) ⟨n0, c0, c4⟩ ?_
                      intro HSX
                      repeat (first | (apply walkB_look; rfl; rfl; (intro _; rfl); (intro wq hq; (try dsimp only at hq); go_split_ands; go_simp; (try with_reducible rfl)); simp only [Act.put, List.setIfInBounds_toArray, List.set_cons_zero, List.set_cons_succ]))
                      refine walkB_round rfl rfl (fun _ => trivial) rfl rfl rfl rfl rfl hy hR ?_
                      rintro e W' ⟨rfl, hJ'⟩
                      refine ⟨_, rfl, ?_⟩
                      simp only [Act.put, List.setIfInBounds_toArray, List.set_cons_zero, List.set_cons_succ]
                      repeat (first | (apply walkA_look; rfl; rfl; (intro _; rfl); (intro wq; go_simp; (try with_reducible rfl)); simp only [Act.put, List.setIfInBounds_toArray, List.set_cons_zero, List.set_cons_succ]))
                      apply walkA_done
                      clear HSX
                      have HKX : Hid (J (k + 1) W'.drew) := Lib.hid (HJ.out _ _ _ hJ' ⟨rfl, rfl, rfl, Nat.le_refl _, fun _ _ _ => rfl⟩)
                      clear hJ' hR hy n0 c0 c4 p3
                      gi_wp2
                      refine wpIn_wide.2 ?_
                      refine wp_region_plan (S := fun _ => True) [(0, true), (1, true), (2, true), (3, true), (4, true), (5, true), (6, true), (7, true), (8, true), (9, true), (10, true), (11, true), (12, true), (13, true), (14, true), (15, true), (16, true), (17, true), (18, false), (19, true), (20, true)] (by kernel_rfl) (by kernel_rfl) (by kernel_rfl) (fun _ _ _ _ _ h => h) trivial ?_
                      intro _
                      repeat (first | (apply wpPlan_look; rfl; rfl; (intro wq hq; (try dsimp only at hq); go_split_ands; go_simp; (try rw [if_neg (by omega)]); (try rw [if_pos (by omega)]); try with_reducible rfl); simp only [Act.put, List.setIfInBounds_toArray, List.set_cons_zero, List.set_cons_succ]) | (apply wpPlan_skip; rfl; rfl; simp only [Act.put, List.setIfInBounds_toArray, List.set_cons_zero, List.set_cons_succ]) | (apply wpPlan_pass; rfl; rfl; assumption; simp only [Act.put, List.setIfInBounds_toArray, List.set_cons_zero, List.set_cons_succ]))
                      apply wpPlan_done
                      gi_wp2
                      go_roundw
                      case rel => exact ⟨z + 1, k + 1, by omega, by go_num, HKX, HS2, Lib.hid (by have := HCN.out; omega)⟩
                      case measure => simp [intOf]; omega
                  · have hsl : slX md.name m j z x = [] := by simp [slX, one, both]; omega
                    rw [hsl, List.nil_append] at hdr
                    rw [hsl, List.nil_append] at hcn
                    have HDR := Lib.hid hdr
                    have HCR := Lib.hid hcn
                    have e5 : (x.kind == 5) = false := beq_eq_false_iff_ne.2 (by omega)
                    have e6 : (x.kind == 6) = false := beq_eq_false_iff_ne.2 (by omega)
                    have e8 : (x.kind == 8) = false := beq_eq_false_iff_ne.2 (by omega)
                    have e29 : (x.kind == 29) = false := beq_eq_false_iff_ne.2 (by omega)
                    have HKD : Hid (J k wr.drew.drew) := Lib.hid (HJ.out _ _ _ (HJ.out _ _ _ HK.out ⟨rfl, rfl, rfl, Nat.le_refl _, fun _ _ _ => rfl⟩) ⟨rfl, rfl, rfl, Nat.le_refl _, fun _ _ _ => rfl⟩)
                    clear hdr hcn hsl hb ho
                    gi_wp2
                    refine wpIn_wide.2 ?_
                    refine wp_region_plan (S := fun _ => True) [(0, true), (1, true), (2, true), (3, true), (4, true), (5, true), (6, true), (7, true), (8, true), (9, true), (10, true), (11, true), (12, true), (13, true), (14, true), (15, true), (16, true), (17, true), (18, true), (19, true), (20, true), (21, true), (22, true), (23, false), (24, true), (25, true)] (by kernel_rfl) (by kernel_rfl) (by kernel_rfl) (fun _ _ _ _ _ h => h) trivial ?_
                    intro _
                    repeat (first | (apply wpPlan_look; rfl; rfl; (intro wq hq; (try dsimp only at hq); go_split_ands; go_simp; (try rw [if_neg (by omega)]); (try rw [if_pos (by omega)]); try with_reducible rfl); simp only [Act.put, List.setIfInBounds_toArray, List.set_cons_zero, List.set_cons_succ]) | (apply wpPlan_skip; rfl; rfl; simp only [Act.put, List.setIfInBounds_toArray, List.set_cons_zero, List.set_cons_succ]) | (apply wpPlan_pass; rfl; rfl; assumption; simp only [Act.put, List.setIfInBounds_toArray, List.set_cons_zero, List.set_cons_succ]))
                    apply wpPlan_done
                    gi_wp2
                    refine wpIn_wide.2 ?_
                    refine wp_region_plan (S := fun _ => True) [(0, true), (1, true), (2, true), (3, true), (4, true), (5, true), (6, true), (7, true), (8, true), (9, true), (10, true), (11, true), (12, true), (13, true), (14, true), (15, true), (16, true), (17, true), (18, false), (19, true), (20, true)] (by kernel_rfl) (by kernel_rfl) (by kernel_rfl) (fun _ _ _ _ _ h => h) trivial ?_
                    intro _
                    repeat (first | (apply wpPlan_look; rfl; rfl; (intro wq hq; (try dsimp only at hq); go_split_ands; go_simp; (try rw [if_neg (by omega)]); (try rw [if_pos (by omega)]); try with_reducible rfl); simp only [Act.put, List.setIfInBounds_toArray, List.set_cons_zero, List.set_cons_succ]) | (apply wpPlan_skip; rfl; rfl; simp only [Act.put, List.setIfInBounds_toArray, List.set_cons_zero, List.set_cons_succ]) | (apply wpPlan_pass; rfl; rfl; assumption; simp only [Act.put, List.setIfInBounds_toArray, List.set_cons_zero, List.set_cons_succ]))
                    apply wpPlan_done
                    gi_wp2
                    go_roundw
                    case rel => exact ⟨z + 1, k, by omega, by go_num, HKD, HDR, HCR⟩
                    case measure => simp [intOf]; omega
              · skip
                have hdr := HD.out
                have hcn := HCN.out
                rw [List.drop_of_length_le (l := d.tree) (by omega), slT] at hdr hcn
                rw [List.nil_append] at hdr
                rw [List.length_nil, Nat.zero_add] at hcn
                have HDR := Lib.hid hdr
                have HCR := Lib.hid hcn
                clear hdr hcn HD HCN hAt
                gi_wp2
                go_roundw
                case rel => exact ⟨j + 1, k, by omega, by go_num, HK, HDR, HCR⟩
                case measure => simp [intOf]; omega
        · have hje : j = md.defs.length := by omega
          have hdr := HCN.out
          rw [List.drop_of_length_le (l := md.defs) (by omega), slD, List.length_nil, Nat.add_zero] at hdr
          clear HD HCN hAd
          gi_wp2
          go_ret
          rw [← hdr]
          exact ⟨rfl, HK.out⟩
end
end Go.Proofs.YtidholghbjljaaaGreatDoor
