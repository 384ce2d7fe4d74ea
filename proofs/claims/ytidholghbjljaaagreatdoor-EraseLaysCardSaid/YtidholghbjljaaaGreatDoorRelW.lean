
/- Walks of package relate: Consistent, Precise. -/
import Derived.Test.YtidholghbjljaaaGreatDoorR4W
import Derived.Laws.EntriesVeiled
import Derived.Deep.LoopGhost
import Derived.BigQuiet
namespace Go.Proofs.YtidholghbjljaaaGreatDoor
set_option linter.unusedSimpArgs false
set_option linter.unusedVariables false
open Go.RowKit Culp

theorem below_dn (w : World) (n : Nat) : Below w.heap.size w (w.drewN n) := ⟨rfl, rfl, rfl, Nat.le_refl _, fun _ _ => rfl⟩
def askP (s t : Ty) : Int := if t = .dyn then 1 else if s.hd = t.hd then -1 else 0

set_option maxHeartbeats 800000 in
theorem askP_any (s t : Ty) (w : World) : Calls Tryz.prog 107 #[.string s.str, .string t.str] w (Makes (.int .i64 (askP s t)) w) := by
  have hps : 0 < s.str.size := by rw [str_size]; exact s.enc_pos
  have hpt : 0 < t.str.size := by rw [str_size]; exact t.enc_pos
  have i1 : (0 : Int) < (s.str.size : Int) := by omega
  have i2 : (0 : Int) < (t.str.size : Int) := by omega
  by_cases h2 : t = .dyn
  · subst h2
    have q' := str_isdyn
    go_enter Tryz.func107, Tryz.ntmps107
    go_wp2
    go_ret
    exact Makes.mk (int_congr (by simp [askP])) (Below.refl _ _)
  · have q' := str_dyn h2
    have e1 := str_get s hps
    have e2 := str_get t hpt
    have X : Hid (askP s t = if s.hd = t.hd then -1 else 0) := by rw [Hid, askP, if_neg h2]
    have hh := hd_ne s t
    by_cases h3 : s.hd = t.hd
    · rw [if_pos h3] at X
      rw [decide_eq_true h3, Bool.not_true] at hh
      clear h2 h3
      go_enter Tryz.func107, Tryz.ntmps107
      go_wp2
      go_quiet (fail)
      go_wp2
      go_ret
      exact Makes.mk (int_congr X.out.symm) (below_dn _ _)
    · rw [if_neg h3] at X
      rw [decide_eq_false h3, Bool.not_false] at hh
      clear h2 h3
      go_enter Tryz.func107, Tryz.ntmps107
      go_wp2
      go_quiet (fail)
      go_wp2
      go_ret
      exact Makes.mk (int_congr X.out.symm) (below_dn _ _)

/-- The walk of two types, as a closure sees it: what is asked, and itself, each in a variable of its own. -/
structure RelMem (ask : Nat) (p q : Nat) (w : World) : Prop where
  ask_ : w.cell? ⟨p, 0, none⟩ = some (.func (.func ask) #[] #[])
  self_ : w.cell? ⟨q, 0, none⟩ = some (.func (.func 126) #[] #[.pointer (some ⟨p, 0, none⟩), .pointer (some ⟨q, 0, none⟩)])
theorem RelMem.later {ask p q : Nat} {w w' : World} (h : RelMem ask p q w) (hb : Below w.heap.size w w') : RelMem ask p q w' := ⟨cell_later hb h.ask_, cell_later hb h.self_⟩

theorem rel_nowP (s t : Ty) (h : 0 ≤ askP s t) : (askP s t = 1 ∧ prec s t = true) ∨ (askP s t = 0 ∧ prec s t = false) := by
  unfold askP at *
  split at h
  · rename_i h1
    left
    rw [if_pos h1]
    exact ⟨rfl, by rw [h1]; simp⟩
  · rename_i h1
    split at h
    · omega
    · rename_i h2
      right
      rw [if_neg h1, if_neg h2]
      exact ⟨rfl, prec_head h1 h2⟩

def RelCP (n : Nat) : Prop := ∀ (s t : Ty) (p q : Nat) (w : World), s.fits → t.fits → s.sz ≤ n → RelMem 107 p q w →
  Calls Tryz.prog 126 #[.string s.str, .string t.str, .pointer (some ⟨p, 0, none⟩), .pointer (some ⟨q, 0, none⟩)] w (Makes (.bool (prec s t)) w)
theorem rel_stepP {n : Nat} (ih : RelCP n) : RelCP (n + 1) := by
  intro s t p q w hs ht hn hm
  have hm1 := hm.ask_
  have hm2 := hm.self_
  have A := Lib.hid (askP_any s t)
  by_cases h1 : 0 ≤ askP s t
  · have hv := rel_nowP s t h1
    rcases hv with ⟨h2, hv⟩ | ⟨h2, hv⟩
    all_goals
      rw [h2] at A
      have X := Lib.hid hv
      clear h1 h2 hv
      go_enter Tryz.func126, Tryz.ntmps126
      go_wp2_with fail
      go_step3
      go_wp2_with fail
      refine (A.out _).mono ?_
      rintro e w1 ⟨rfl, hb1⟩
      go_wp2_with fail
      rw [Exit.noGoto_ret]
      go_ret
      exact Makes.mk (bool_congr X.out.symm) hb1
  · have h2 : askP s t = -1 := by unfold askP at *; repeat' split at * <;> simp_all
    have HH : Hid (s.hd = t.hd) := by unfold Hid; unfold askP at h2; repeat' split at h2 <;> simp_all
    rw [h2] at A
    go_enter Tryz.func126, Tryz.ntmps126
    go_wp2_with fail
    go_step3
    go_wp2_with fail
    refine (A.out _).mono ?_
    rintro e w1 ⟨rfl, hb1⟩
    go_wp2_with fail
    refine (Parts_any s hs _).mono ?_
    rintro e w2 ⟨v1, rfl, ho1, hb2⟩
    go_wp2_with fail
    refine (Parts_any t ht _).mono ?_
    rintro e w3 ⟨v2, rfl, ho2, hb3⟩
    have hM := (((hm.later hb1).later hb2).later hb3)
    have hB : Below w.heap.size w w3 := below_later hb3 (below_later hb2 hb1)
    obtain ⟨A1, c1, rfl, hl1, hc1⟩ := own_form ho1
    obtain ⟨A2, c2, rfl, hl2, hc2⟩ := own_form ho2
    have hhd : s.hd = t.hd := HH.out
    have hlen := kids_same hhd
    have hsame := Lib.hid (prec_same hhd)
    have hc1' : 0 < s.kids.length → ∃ g, A1 = some ⟨g, 0, none⟩ ∧ ∀ j (h : j < s.kids.length), w3.cell? ⟨g, j, none⟩ = some (.string (s.kids[j]).str) := fun h => by
      obtain ⟨g, e, _, hc⟩ := hc1 h
      exact ⟨g, e, fun j hj => cell_later hb3 (hc j _ (by simp [strs, hj]))⟩
    have hc2' : 0 < t.kids.length → ∃ g, A2 = some ⟨g, 0, none⟩ ∧ ∀ j (h : j < t.kids.length), w3.cell? ⟨g, j, none⟩ = some (.string (t.kids[j]).str) := fun h => by
      obtain ⟨g, e, _, hc⟩ := hc2 h
      exact ⟨g, e, fun j hj => hc j _ (by simp [strs, hj])⟩
    have hk2 : s.kids.length ≤ 2 := by cases s <;> simp [Ty.kids]
    have HC1 := Lib.hid hc1'; have HC2 := Lib.hid hc2'; have HM := Lib.hid hM; have HL := Lib.hid hlen
    clear ho1 ho2 hc1 hc2 hc1' hc2' hl1 hl2 hb1 hb2 hb3 hm1 hm2 hm hM hhd HH hlen
    go_wp2_with fail
    go_step3
    go_wp2_with fail
    go_loopw [8, 26] (fun g i wr => ∃ k : Nat, k ≤ s.kids.length ∧ i = .int .i64 k ∧ g = .bool true ∧ Hid (prec s t = allK prec (s.kids.drop k) (t.kids.drop k)) ∧ Below w3.heap.size w3 wr) (fun _ i _ => s.kids.length - (intOf i).toNat)
    case atStart => exact ⟨0, by omega, rfl, rfl, hsame, Below.refl _ _⟩
    case round =>
      obtain ⟨k, hk, rfl, rfl, H, hbr⟩ := hrel
      by_cases hlt : k < s.kids.length
      · have hks : k < s.kids.length := hlt
        have hkt : k < t.kids.length := by rw [← HL.out]; exact hlt
        obtain ⟨g1, rfl, hg1⟩ := HC1.out (by omega)
        obtain ⟨g2, rfl, hg2⟩ := HC2.out (by have := HL.out; omega)
        have q1 := hg1 k hks
        have q2 := hg2 k hkt
        have q3 := HM.out.self_
        have fa := fits_sub hs (List.getElem_mem hks)
        have fb := fits_sub ht (List.getElem_mem hkt)
        have sz := kids_sz (List.getElem_mem hks)
        have st := allK_step prec s.kids t.kids k hks hkt
        have i2 : (k : Int) < (t.kids.length : Int) := by have := HL.out; omega
        generalize s.kids[k] = a at q1 fa sz st
        generalize t.kids[k] = b at q2 fb st
        have r1 := cell_later hbr q1
        have r2 := cell_later hbr q2
        have r3 := cell_later hbr q3
        have hask := cell_later hbr HM.out.ask_
        have X := Lib.hid (H.out.trans st)
        clear q1 q2 q3 hg1 hg2 st H hks hkt
        cases hf : prec a b
        all_goals
          have HF := Lib.hid hf; clear hf
          go_wp2_with fail
          refine wp_region_plan (S := fun w' => w'.cell? ⟨q, 0, none⟩ = some (.func (.func 126) #[] #[.pointer (some ⟨p, 0, none⟩), .pointer (some ⟨q, 0, none⟩)]) ∧ w'.cell? ⟨g1, k, none⟩ = some (.string a.str) ∧ w'.cell? ⟨g2, k, none⟩ = some (.string b.str) ∧ w'.cell? ⟨p, 0, none⟩ = some (.func (.func 107) #[] #[]) ∧ Below w3.heap.size w3 w')
            [(0, true), (1, true), (2, true), (3, true), (4, true), (5, true), (6, true), (7, true), (8, true), (9, false), (10, true)] (by kernel_rfl) (by kernel_rfl) (by kernel_rfl) (fun _ _ _ _ _ h => h) ⟨r3, r1, r2, hask, hbr.drew⟩ ?_
          intro HS
          repeat (first | (apply wpPlan_look; rfl; rfl; (intro wq hq; (try dsimp only at hq); go_split_ands; go_simp; (try rw [if_neg (by omega)]); (try rw [if_pos (by omega)]); try with_reducible rfl); simp only [Act.put, List.setIfInBounds_toArray, List.set_cons_zero, List.set_cons_succ]) | (apply wpPlan_skip; rfl; rfl; simp only [Act.put, List.setIfInBounds_toArray, List.set_cons_zero, List.set_cons_succ]) | (apply wpPlan_pass; rfl; rfl; assumption; simp only [Act.put, List.setIfInBounds_toArray, List.set_cons_zero, List.set_cons_succ]))
          apply wpPlan_call; rfl; rfl; rfl; rfl; kernel_rfl; exact ih a b p q _ fa fb (by omega) ⟨HS.2.2.2.1, HS.1⟩; rfl; rintro e w4 ⟨rfl, hb4⟩
          obtain ⟨p1, p2, p3, p4, p5⟩ := HS
          refine ⟨_, rfl, as_S ⟨cell_later hb4 p1, cell_later hb4 p2, cell_later hb4 p3, cell_later hb4 p4, below_later hb4 p5⟩ ?_⟩
          clear p1 p2 p3 p4 p5 hb4; intro HS; rw [HF.out]; simp only [Act.put, List.setIfInBounds_toArray, List.set_cons_zero, List.set_cons_succ]
          repeat (first | (apply wpPlan_look; rfl; rfl; (intro wq hq; (try dsimp only at hq); go_split_ands; go_simp; (try rw [if_neg (by omega)]); (try rw [if_pos (by omega)]); try with_reducible rfl); simp only [Act.put, List.setIfInBounds_toArray, List.set_cons_zero, List.set_cons_succ]) | (apply wpPlan_skip; rfl; rfl; simp only [Act.put, List.setIfInBounds_toArray, List.set_cons_zero, List.set_cons_succ]) | (apply wpPlan_pass; rfl; rfl; assumption; simp only [Act.put, List.setIfInBounds_toArray, List.set_cons_zero, List.set_cons_succ]))
          apply wpPlan_done
          have hB' := HS.2.2.2.2
          clear HS r1 r2 r3 hask hbr
          go_wp2
          first
            | (rw [Exit.noGoto_ret]
               go_ret
               exact Makes.mk (bool_congr (by rw [X.out, HF.out]; rfl)) (below_later hB' hB))
            | (go_roundw
               case rel => exact ⟨k + 1, by omega, by go_num, rfl, Lib.hid (X.out.trans (by rw [HF.out, Bool.true_and])), hB'⟩
               case measure => (simp [intOf]; omega))
      · have X : Hid (prec s t = true) := H.out.trans (allK_end _ _ _ _ (by omega))
        clear H
        go_wp2
        rw [Exit.noGoto_ret]
        go_ret
        exact Makes.mk (bool_congr X.out.symm) (below_later hbr hB)
theorem rel_allP : ∀ n, RelCP n
  | 0 => fun s _ _ _ _ _ _ h _ => by have := s.sz_pos; omega
  | n + 1 => rel_stepP (rel_allP n)
set_option maxHeartbeats 800000 in
theorem Precise_any (s t : Ty) (hs : s.fits) (ht : t.fits) (w : World) : Calls Tryz.prog 76 #[.string s.str, .string t.str] w (Makes (.bool (prec s t)) w) := by
  have S1 : Hid (isTy s.str.data.toList = true) := by rw [Hid, str_list]; exact isTy_enc s hs
  have T1 : Hid (isTy t.str.data.toList = true) := by rw [Hid, str_list]; exact isTy_enc t ht
  go_enter Tryz.func76, Tryz.ntmps76
  go_wp2_with fail
  go_enter Tryz.func106, Tryz.ntmps106
  go_wp2_with fail
  refine (ris_any _ _).mono ?_
  rw [S1.out]
  rintro e w' ⟨rfl, rfl⟩
  go_wp2_with fail
  refine (ris_any _ _).mono ?_
  rw [T1.out]
  rintro e w' ⟨rfl, rfl⟩
  go_wp2_with fail
  refine (rel_allP _ s t w.heap.size (w.heap.size + 1) _ hs ht (Nat.le_refl _) ⟨by go_simp, by go_simp⟩).mono ?_
  rintro e w' ⟨rfl, hb⟩
  have hB := below_later hb (((Below.refl w.heap.size w).alloc (Nat.le_refl _) _).alloc (by simp) _)
  clear hb
  go_wp2_with fail
  go_ret
  exact Makes.mk rfl hB
end Go.Proofs.YtidholghbjljaaaGreatDoor
