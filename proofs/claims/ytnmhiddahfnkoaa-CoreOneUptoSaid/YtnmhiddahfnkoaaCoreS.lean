/- Walks of package core: the shape of a term. -/
import Derived.Test.YtnmhiddahfnkoaaCoreW
namespace Go.Proofs.Ytnmhiddahfnkoaa
set_option linter.unusedSimpArgs false
set_option linter.unusedVariables false
open Go.RowKit Culp

set_option maxHeartbeats 1600000 in
theorem shape_step {T : List Nd} (hT : T.length ≤ 16384) (f : Nat) (ih : ShapeC T f) : ShapeC T (f + 1) := by
  intro g tv mv p d w hd hc htv hmv hn hp
  cases hx : T[p]? with
  | none => exact shape_end hT (f + 1) g tv mv p d w hc hn hx hp
  | some x =>
    cases hk : kidsOk x with
    | false => exact shape_bad hT (f + 1) g tv mv p d w x hc hn hx hk
    | true =>
      have hn0 := hn
      obtain ⟨A, c, rfl, hlc, hN⟩ := hn
      have c0 := hc.c0
      have c1 := hc.c1
      have fz := hc.free 1
      have hgl := hc.lt
      have hpl : p < T.length := (List.getElem?_eq_some_iff.1 hx).1
      obtain ⟨b, off, rfl, hM⟩ := hN (by omega)
      obtain ⟨n0, n1, n2, n3, n4, n5, n6, n7⟩ := hM.at_ hx
      have X : Hid (shapeM T (f + 1) p = timesM (shapeM T f) x.kids.toNat (p + 1)) := by rw [Hid, shapeM.eq_def]; simp only [hx, hk]; rfl
      have i1 : (p : Int) < (T.length : Int) := by omega
      have i2 : (d : Int) ≤ 1024 := by omega
      obtain ⟨a, ha, k0, k1⟩ := kids_facts hk
      have A := Lib.hid (carity_any x.kind)
      unfold arV at A
      rw [ha] at A
      obtain ⟨n, hn'⟩ : ∃ n : Nat, x.kids = n := ⟨x.kids.toNat, by omega⟩
      rw [hn'] at n1 k0 k1 X
      rw [Int.toNat_natCast] at X
      have fz2 : ∀ o, (w.alloc o).frozen? ⟨g, 1, none⟩ = false := fun o => by rw [World.frozen?_alloc_old _ _ _ (by simp; omega)]; exact fz
      have c12 : ∀ o, (w.alloc o).cell? ⟨g, 1, none⟩ = some (.int .i64 p) := fun o => by rw [World.cell?_alloc_lt w o _ (by simpa using hgl)]; exact c1
      have HTV := Lib.hid htv; have HMV := Lib.hid hmv; clear htv hmv
      have HD := Lib.hid hd
      have HN := Lib.hid hn0
      have HC := Lib.hid hc
      clear hx hN hM ha hk hd hn0 hn' hc
      rcases k1 with k1 | ⟨k1, k2⟩
      all_goals
        go_enter Try.func26, Try.ntmps26
        go_wp2_with fail
        refine (need_yes _ _ _).mono ?_
        rintro e w' ⟨rfl, rfl⟩
        go_wp2_with fail
        refine (A.out _).mono ?_
        rintro e w' ⟨rfl, rfl⟩
        go_wp2_with fail
        refine (need_yes _ _ _).mono ?_
        rintro e w' ⟨rfl, rfl⟩
        go_wp2_with fail
        refine (need_yes _ _ _).mono ?_
        rintro e w' ⟨rfl, rfl⟩
        go_wp2_with fail
        go_loopw [65] (fun i wr => ∃ (k q : Nat), k ≤ n ∧ k ≤ q ∧ q ≤ T.length ∧ i = .int .i64 k ∧ Hid (shapeM T (f + 1) p = timesM (shapeM T f) (n - k) q) ∧ Ck g (.slice (some ⟨b, off, none⟩) T.length c) mv q wr ∧ Keep g w wr ∧ Nodes wr (.slice (some ⟨b, off, none⟩) T.length c) T) (fun i _ => n - (intOf i).toNat)
        case atStart =>
          have h1 : ∀ o, Ck g (.slice (some ⟨b, off, none⟩) T.length c) mv (p + 1) ((w.setCell ⟨g, 1, none⟩ (.int .i64 ((p : Int) + 1))).alloc o) := fun o => (HC.out.set1 (.int .i64 ((p : Int) + 1))).later ((Below.refl _ _).alloc (Nat.le_refl _) o)
          have h3 : ∀ o, Nodes ((w.setCell ⟨g, 1, none⟩ (.int .i64 ((p : Int) + 1))).alloc o) (.slice (some ⟨b, off, none⟩) T.length c) T := fun o => (HN.out.keep ((Keep.refl g _).setCell 1 (.int .i64 ((p : Int) + 1))) HC.out HTV.out HMV.out).later ((Below.refl _ _).alloc (Nat.le_refl _) o)
          exact ⟨0, p + 1, by omega, by omega, by omega, rfl, X, h1 _, ((Keep.refl g w).setCell 1 _).alloc _, h3 _⟩
        case round =>
          obtain ⟨k, q, hk, hkq, hq, rfl, H, hC, hK, hN⟩ := hrel
          have HC2 := Lib.hid hC; have HK := Lib.hid hK; have HN2 := Lib.hid hN
          clear hC hK hN
          by_cases hlt : k < n
          · obtain ⟨m, hm⟩ : ∃ m, n - k = m + 1 := ⟨n - k - 1, by omega⟩
            have H2 := H.out
            rw [hm, timesM] at H2
            cases hr : shapeM T f q with
            | error fl =>
              rw [hr] at H2
              have HR := Lib.hid hr; have Y := Lib.hid H2
              clear hr H2 H hm
              go_wp2_with fail
              refine (ih g _ mv q (d + 1) _ (by have := HD.out; omega) HC2.out HTV.out HMV.out HN2.out hq).mono ?_
              rw [HR.out]
              obtain ⟨e0, p0⟩ := fl
              rintro e w' ⟨h1, h2⟩
              subst h2
              show bodyPost Try.prog Try.f26 (ShapeRes g (.slice (some ⟨b, off, none⟩) T.length c) mv w (shapeM T (f + 1) p)) (Exit.panic (flawV e0 p0)) _ w'
              rw [Y.out]
              exact ⟨rfl, HK.out.trans h1, rfl⟩
            | ok q2 =>
              rw [hr] at H2
              have hq2 := shapeM_le T f q q2 hr
              have hq3 := shapeM_lt T f q q2 hr
              have HR := Lib.hid hr; have Y : Hid (shapeM T (f + 1) p = timesM (shapeM T f) (n - (k + 1)) q2) := by rw [Hid, H2, show n - (k + 1) = m by omega]
              clear hr H2 H hm
              go_wp2_with fail
              refine (ih g _ mv q (d + 1) _ (by have := HD.out; omega) HC2.out HTV.out HMV.out HN2.out hq).mono ?_
              rw [HR.out]
              rintro e w' ⟨h1, rfl, h3⟩
              have hN3 := HN2.out.keep h1 HC2.out HTV.out HMV.out
              have hK3 := HK.out.trans h1
              have HA := Lib.hid h3; have HB := Lib.hid hN3; have HE := Lib.hid hK3
              clear h1 h3 hN3 hK3
              go_wp2_with fail
              go_roundw
              case rel => exact ⟨k + 1, q2, by omega, by omega, hq2, by go_num, Y, HA.out, HE.out, HB.out⟩
              case measure => simp [intOf]; omega
          · have Y : Hid (shapeM T (f + 1) p = .ok q) := by rw [Hid, H.out, show n - k = 0 by omega]; rfl
            clear H
            go_wp2_with fail
            go_end0
            rw [Y.out]
            exact ⟨HK.out, rfl, HC2.out⟩

theorem shape_any {T : List Nd} (hT : T.length ≤ 16384) : ∀ f, ShapeC T f
  | 0 => shape_zero hT
  | f + 1 => shape_step hT f (shape_any hT f)
end Go.Proofs.Ytnmhiddahfnkoaa
