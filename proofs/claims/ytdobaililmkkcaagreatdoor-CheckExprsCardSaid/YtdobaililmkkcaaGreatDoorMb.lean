
/- Walks of the document's chapter 8: types: their parts, consistent, the meet, heads, annotations. -/
import Derived.Test.YtdobaililmkkcaaGreatDoorKf
import Derived.Test.YtdobaililmkkcaaGreatDoorKj
import Derived.Test.YtdobaililmkkcaaGreatDoorTrB
namespace Go.Proofs.YtdobaililmkkcaaGreatDoor
set_option linter.unusedSimpArgs false
set_option linter.unusedVariables false
open Go.RowKit Culp

set_option maxHeartbeats 800000 in
theorem rParts_any (t : Ty) (ht : t.fits) (w : World) :
    Calls Tryz.prog 138 #[.string t.str] w (PartsRes t.kids w) := by
  have hsz : t.str.size ≤ 64 := by rw [str_size]; exact ht
  have hse : Hid (t.str.size = 1 + (Ty.encs t.kids).length) := by rw [Hid, str_size, enc_kids]; simp; omega
  go_enter Tryz.func138, Tryz.ntmps138
  go_wp2
  go_loopw [3, 4] (fun v a wr => ∃ (d r : List Ty) (k : Nat), Hid (t.kids = d ++ r) ∧ k ≤ t.str.size ∧ Hid (k = 1 + (Ty.encs d).length) ∧ a = .int .i64 k ∧ wr.ownsRow w.heap.size 9 1 v d.length (strs d) ∧ Below w.heap.size w wr) (fun _ a _ => t.str.size - (intOf a).toNat)
  case atStart => exact ⟨[], t.kids, 1, rfl, by have := hse.out; omega, rfl, rfl, World.ownsRow_nil _ _ _ _, Below.refl _ _⟩
  case round =>
    obtain ⟨d, r, k, hk, hks, hke, rfl, hown, hbel⟩ := hrel
    rcases r with _ | ⟨c, r⟩
    · have hlt : ¬ k < t.str.size := by have h1 := hse.out; have h2 := hke.out; have h3 := hk.out; simp at h3; rw [h3] at h1; omega
      have X : Hid (t.kids = d) := Lib.hid (by have := hk.out; simpa using this)
      clear hse hk hke
      go_wp2
      go_ret
      exact ⟨_, rfl, by rw [X.out]; exact hown, hbel⟩
    · obtain ⟨h1, h2, h3, h4⟩ := part_at hk.out
      generalize hj : 1 + (Ty.encs (d ++ [c])).length = j at h1 h2 h3 h4
      have hjk : k < j := by have := hke.out; omega
      have hlt : k < t.str.size := by omega
      rw [← hke.out] at h1 h2
      have HE := Lib.hid (end_some h3 h1)
      have H2 := Lib.hid h2
      have HJ := Lib.hid hj
      have hdl : d.length ≤ 64 := by
        have h5 : ∀ l : List Ty, l.length ≤ (Ty.encs l).length := fun l => by
          induction l with
          | nil => simp
          | cons x l ih => rw [encs_cons]; have := x.enc_pos; simp; omega
        have := h5 d; have := hke.out; omega
      have HT := Lib.hid (TypeEnd_any t.str k wr hks (by omega))
      rw [HE.out] at HT
      clear h1 h2 hj h4
      go_wp2_with fail
      refine HT.out.mono ?_
      rintro e w' ⟨rfl, rfl⟩
      clear HT HE
      go_wp2_with (at_builtin; refine append_one rfl (.tmp 13) (.tmp 18) 23 9 rfl w.heap.size _ 16 Tryz.underlying23 string_info rfl _ _ _ rfl hown _ rfl rfl ?_ ?_ ?_ ?_)
      · omega
      · omega
      · exact hbel.size
      · intro v' w' hown' hg hb'
        rw [H2.out] at hown'
        have hb2 := hbel.trans hb'
        clear hown hbel hg hb'
        have hown2 : w'.ownsRow w.heap.size 9 1 v' (d ++ [c]).length (strs (d ++ [c])) := by simpa [strs] using hown'
        clear hown'
        go_wp2
        go_roundw
        case rel => exact ⟨d ++ [c], r, j, by have := hk.out; rw [Hid, this]; simp, by omega, HJ.out.symm, rfl, hown2, hb2⟩
        case measure => simp [intOf]; omega
def RConsC (n : Nat) : Prop := ∀ (s t : Ty) (w : World), s.fits → t.fits → s.sz ≤ n →
  Calls Tryz.prog 122 #[.string s.str, .string t.str] w (Makes (.bool (cons s t)) w)
theorem hd_dyn {t : Ty} : (((t.hd.toNat : Nat) : Int) == 63) = decide (t = .dyn) := by cases t <;> rfl
set_option maxHeartbeats 1600000 in
theorem rcons_step {n : Nat} (ih : RConsC n) : RConsC (n + 1) := by
  intro s t w hs ht hn
  have hp : 0 < s.str.size := by rw [str_size]; exact s.enc_pos
  have hp2 : 0 < t.str.size := by rw [str_size]; exact t.enc_pos
  have e1 := str_get s hp
  have e2 := str_get t hp2
  by_cases h1 : s = .dyn
  · subst h1
    have q : (((Ty.dyn.hd.toNat : Nat) : Int) == 63) = true := rfl
    go_enter Tryz.func122, Tryz.ntmps122
    go_wp2_with fail
    go_ret
    exact Makes.mk (bool_congr (dyn_cons t).symm) (Below.refl _ _)
  have q1 : (((s.hd.toNat : Nat) : Int) == 63) = false := by rw [hd_dyn, decide_eq_false h1]
  by_cases h2 : t = .dyn
  · subst h2
    have q : (((Ty.dyn.hd.toNat : Nat) : Int) == 63) = true := rfl
    go_enter Tryz.func122, Tryz.ntmps122
    go_wp2_with fail
    go_ret
    exact Makes.mk (bool_congr (cons_dyn s).symm) (Below.refl _ _)
  have q2 : (((t.hd.toNat : Nat) : Int) == 63) = false := by rw [hd_dyn, decide_eq_false h2]
  by_cases h3 : s.hd = t.hd
  rotate_left
  · have HC : Hid (cons s t = false) := Lib.hid (cons_head h1 h2 h3)
    have q3 : (((s.hd.toNat : Nat) : Int) != ((t.hd.toNat : Nat) : Int)) = true := by rw [hd_ne, decide_eq_false h3]; rfl
    clear h1 h2 h3
    go_enter Tryz.func122, Tryz.ntmps122
    go_wp2_with fail
    go_quiet (fail)
    go_wp2_with fail
    go_ret
    exact Makes.mk (bool_congr HC.out.symm) (below_dn _ _)
  have q3 : (((s.hd.toNat : Nat) : Int) != ((t.hd.toNat : Nat) : Int)) = false := by rw [hd_ne, decide_eq_true h3]; rfl
  have HC : Hid (cons s t = allK cons s.kids t.kids) := Lib.hid (cons_same h3)
  have HL := Lib.hid (kids_same h3)
  have HPS := Lib.hid (rParts_any s hs)
  have HPT := Lib.hid (rParts_any t ht)
  have HIH := Lib.hid (fun a b w (ha : a ∈ s.kids) (hb : b ∈ t.kids) => ih a b w (fits_sub hs ha) (fits_sub ht hb) (by have := kids_sz ha; omega))
  have hk2 : s.kids.length ≤ 2 := by cases s <;> simp [Ty.kids]
  generalize cons s t = R at *
  clear h1 h2 h3
  go_enter Tryz.func122, Tryz.ntmps122
  go_wp2_with fail
  go_quiet (fail)
  go_wp2_with fail
  refine (HPS.out _).mono ?_
  rintro E w1 ⟨v1, rfl, ho1, hb1⟩
  obtain ⟨A1, c1, rfl⟩ := own_shape ho1
  have HB1 := Lib.hid (below_later hb1 (below_dn w nq))
  go_wp2_with fail
  refine (HPT.out _).mono ?_
  rintro E w2 ⟨v2, rfl, ho2, hb2⟩
  obtain ⟨A2, c2, rfl⟩ := own_shape ho2
  have HO1 := Lib.hid (own_later ho1 hb2)
  have HO2 := Lib.hid ho2
  have HB2 := Lib.hid (below_later hb2 HB1.out)
  clear ho1 ho2 hb1 hb2 HB1 HPS HPT
  go_wp2_with fail
  go_loopw [7] (fun i wr => ∃ k : Nat, k ≤ s.kids.length ∧ i = .int .i64 k ∧ Hid (R = allK cons (s.kids.drop k) (t.kids.drop k)) ∧ Hid (Below w2.heap.size w2 wr)) (fun i _ => s.kids.length - (intOf i).toNat)
  case atStart => exact ⟨0, Nat.zero_le _, by go_num, HC, Lib.hid (Below.refl _ _)⟩
  case round =>
    obtain ⟨k, hk, rfl, HR, HB⟩ := hrel
    by_cases hlt : k < s.kids.length
    · have hlt2 : k < t.kids.length := by rw [← HL.out]; exact hlt
      obtain ⟨g1, _, e1', _, _, _, _, hc1⟩ := own_read HO1.out (by omega)
      obtain ⟨g2, _, e2', _, _, _, _, hc2⟩ := own_read HO2.out (by omega)
      simp only [Value.slice.injEq] at e1' e2'
      obtain ⟨rfl, -, rfl⟩ := e1'
      obtain ⟨rfl, -, rfl⟩ := e2'
      have x1 : wr.cell? ⟨g1, k, none⟩ = some (.string s.kids[k].str) := cell_later HB.out (hc1 k _ (by simp [strs, hlt]))
      have x2 : wr.cell? ⟨g2, k, none⟩ = some (.string t.kids[k].str) := cell_later HB.out (hc2 k _ (by simp [strs, hlt2]))
      have HST := Lib.hid (HR.out.trans (allK_step cons s.kids t.kids k hlt hlt2))
      have HCA := Lib.hid (fun w => HIH.out s.kids[k] t.kids[k] w (List.getElem_mem hlt) (List.getElem_mem hlt2))
      have i2 : (k : Int) < (t.kids.length : Int) := by omega
      generalize s.kids[k] = a at *
      generalize t.kids[k] = b at *
      clear hc1 hc2 HR
      cases hf : cons a b
      all_goals
        rw [hf] at HCA HST
        clear hf
        go_wp2_with fail
        refine wp_region_plan (S := fun w' => w'.cell? ⟨g1, k, none⟩ = some (.string a.str) ∧ w'.cell? ⟨g2, k, none⟩ = some (.string b.str))
          [(0, true), (1, true), (2, true), (3, true), (4, true), (5, true), (6, true), (7, true), (8, false), (9, true)] (by kernel_rfl) (by kernel_rfl) (by kernel_rfl) (fun _ _ _ _ _ h => h) ⟨x1, x2⟩ ?_
        intro HS
        repeat (first | (apply wpPlan_look; rfl; rfl; (intro wq hq; (try dsimp only at hq); go_split_ands; go_simp; (try rw [if_neg (by omega)]); (try rw [if_pos (by omega)]); try with_reducible rfl); simp only [Act.put, List.setIfInBounds_toArray, List.set_cons_zero, List.set_cons_succ]) | (apply wpPlan_skip; rfl; rfl; simp only [Act.put, List.setIfInBounds_toArray, List.set_cons_zero, List.set_cons_succ]) | (apply wpPlan_pass; rfl; rfl; assumption; simp only [Act.put, List.setIfInBounds_toArray, List.set_cons_zero, List.set_cons_succ]))
        apply wpPlan_call; rfl; rfl; rfl; rfl; kernel_rfl; exact HCA.out _; rfl; rintro E w4 ⟨rfl, hb4⟩
        refine ⟨_, rfl, as_S ⟨cell_later hb4 HS.1, cell_later hb4 HS.2⟩ ?_⟩
        intro _
        have HB4 := Lib.hid (below_later hb4 (below_later (below_dn wr 1) HB.out))
        clear hb4 HS x1 x2 HCA
        simp only [Act.put, List.setIfInBounds_toArray, List.set_cons_zero, List.set_cons_succ]
        repeat (first | (apply wpPlan_look; rfl; rfl; (intro wq hq; (try dsimp only at hq); go_split_ands; go_simp; (try rw [if_neg (by omega)]); (try rw [if_pos (by omega)]); try with_reducible rfl); simp only [Act.put, List.setIfInBounds_toArray, List.set_cons_zero, List.set_cons_succ]) | (apply wpPlan_skip; rfl; rfl; simp only [Act.put, List.setIfInBounds_toArray, List.set_cons_zero, List.set_cons_succ]) | (apply wpPlan_pass; rfl; rfl; assumption; simp only [Act.put, List.setIfInBounds_toArray, List.set_cons_zero, List.set_cons_succ]))
        apply wpPlan_done
        first
          | (go_wp2_with fail
             go_ret
             exact Makes.mk (bool_congr (by rw [HST.out]; rfl)) (below_later HB4.out HB2.out))
          | (go_wp2_with fail
             go_roundw
             case rel => exact ⟨k + 1, by omega, by go_num, Lib.hid (by rw [HST.out, Bool.true_and]), HB4⟩
             case measure => (simp [intOf]; omega))
    · have X : Hid (R = true) := Lib.hid (HR.out.trans (allK_end _ _ _ _ (by omega)))
      clear HR
      go_wp2_with fail
      go_ret
      exact Makes.mk (bool_congr X.out.symm) (below_later HB.out HB2.out)
theorem rcons_all : ∀ n, RConsC n
  | 0 => fun s _ _ _ _ h => by have := s.sz_pos; omega
  | n + 1 => rcons_step (rcons_all n)
theorem rConsistent_any (s t : Ty) (w : World) (hs : s.fits) (ht : t.fits) : Calls Tryz.prog 122 #[.string s.str, .string t.str] w (Makes (.bool (cons s t)) w) := rcons_all _ s t w hs ht (Nat.le_refl _)
def RMeetC (n : Nat) : Prop := ∀ (s t : Ty) (w : World), s.fits → t.fits → cons s t = true → s.sz ≤ n →
  Calls Tryz.prog 124 #[.string s.str, .string t.str] w (Makes (.string (meet s t).str) w)
set_option maxHeartbeats 1600000 in
theorem rmeet_step {n : Nat} (ih : RMeetC n) : RMeetC (n + 1) := by
  intro s t w hs ht hc hn
  by_cases h1 : s = .dyn
  · subst h1
    have q := str_isdyn
    go_enter Tryz.func124, Tryz.ntmps124
    go_wp2_with fail
    go_ret
    exact Makes.mk rfl (Below.refl _ _)
  have q := str_dyn h1
  by_cases h2 : t = .dyn
  · subst h2
    have q' := str_isdyn
    have HM := Lib.hid (meet_dyn s)
    go_enter Tryz.func124, Tryz.ntmps124
    go_wp2_with fail
    go_ret
    exact Makes.mk (str_congr (by rw [HM.out])) (Below.refl _ _)
  have q' := str_dyn h2
  have hh : s.hd = t.hd := by
    by_cases h3 : s.hd = t.hd
    · exact h3
    · rw [cons_head h1 h2 h3] at hc; cases hc
  have hp : 0 < s.str.size := by rw [str_size]; exact s.enc_pos
  have HE := Lib.hid (meetB_0 (s := s) (t := t) hp)
  have HF := Lib.hid (meetB_end hh hc)
  have HL := Lib.hid (kids_same hh)
  have hk2 : s.kids.length ≤ 2 := by cases s <;> simp [Ty.kids]
  have HPS := Lib.hid (rParts_any s hs)
  have HPT := Lib.hid (rParts_any t ht)
  have HHH := Lib.hid hh
  have HCC := Lib.hid hc
  clear h1 h2 hh hc
  go_enter Tryz.func124, Tryz.ntmps124
  go_wp2_with fail
  rw [HE.out]
  refine (HPS.out _).mono ?_
  rintro e w1 ⟨v1, rfl, ho1, hb1⟩
  obtain ⟨A1, c1, rfl⟩ := own_shape ho1
  go_wp2_with fail
  refine (HPT.out _).mono ?_
  rintro e w2 ⟨v2, rfl, ho2, hb2⟩
  obtain ⟨A2, c2, rfl⟩ := own_shape ho2
  have HO1 := Lib.hid (own_later ho1 hb2)
  have HO2 := Lib.hid ho2
  have HB := Lib.hid (below_later hb2 hb1)
  clear ho1 ho2 hb1 hb2 HE HPS HPT
  go_wp2_with fail
  go_loopw [5, 8] (fun o i wr => ∃ k : Nat, k ≤ s.kids.length ∧ i = .int .i64 k ∧ o = .string (meetB s t k) ∧ Hid (Below w2.heap.size w2 wr)) (fun _ i _ => s.kids.length - (intOf i).toNat)
  case atStart => exact ⟨0, Nat.zero_le _, by go_num, rfl, Lib.hid (Below.refl _ _)⟩
  case round =>
    obtain ⟨k, hk, rfl, rfl, HBR⟩ := hrel
    by_cases hlt : k < s.kids.length
    · have hlt2 : k < t.kids.length := by rw [← HL.out]; exact hlt
      obtain ⟨g2, _, e2, _, _, _, _, hc2⟩ := own_read HO2.out (by omega)
      obtain ⟨g1, _, e1, _, _, _, _, hc1⟩ := own_read HO1.out (by omega)
      simp only [Value.slice.injEq] at e1 e2
      obtain ⟨rfl, -, rfl⟩ := e1
      obtain ⟨rfl, -, rfl⟩ := e2
      have x2 : wr.cell? ⟨g2, k, none⟩ = some (.string t.kids[k].str) := cell_later HBR.out (hc2 k _ (by simp [strs, hlt2]))
      have x1 : wr.cell? ⟨g1, k, none⟩ = some (.string s.kids[k].str) := cell_later HBR.out (hc1 k _ (by simp [strs, hlt]))
      have hm := meetB_step hlt hlt2
      have HCS := Lib.hid (cons_sub HHH.out HCC.out hlt hlt2)
      have fa := fits_sub hs (List.getElem_mem hlt)
      have fb := fits_sub ht (List.getElem_mem hlt2)
      have sz := kids_sz (List.getElem_mem hlt)
      have i2 : (k : Int) < (t.kids.length : Int) := by omega
      have hsz := meetB_size s t k hs ht
      have hml := meet_len s.kids[k] t.kids[k]
      rw [← str_size] at hml
      generalize s.kids[k] = a at *
      generalize t.kids[k] = b at *
      have HM := Lib.hid hm
      have hml2 : (meet a b).str.size ≤ 128 := by unfold Ty.fits at fa fb; omega
      have HIH := Lib.hid (fun w => ih a b w fa fb HCS.out (by omega))
      clear hc1 hc2 hm hml fa fb sz
      generalize meetB s t k = o at *
      go_wp2_with fail
      refine wp_region_plan (S := fun w' => w'.cell? ⟨g1, k, none⟩ = some (.string a.str) ∧ w'.cell? ⟨g2, k, none⟩ = some (.string b.str))
        [(0, true), (1, true), (2, true), (3, true), (4, true), (5, true), (6, true), (7, true), (8, true), (9, false), (10, true), (11, true)] (by kernel_rfl) (by kernel_rfl) (by kernel_rfl) (fun _ _ _ _ _ h => h) ⟨x1, x2⟩ ?_
      intro HS
      repeat (first | (apply wpPlan_look; rfl; rfl; (intro wq hq; (try dsimp only at hq); go_split_ands; go_simp; (try rw [if_neg (by omega)]); (try rw [if_pos (by omega)]); try with_reducible rfl); simp only [Act.put, List.setIfInBounds_toArray, List.set_cons_zero, List.set_cons_succ]) | (apply wpPlan_skip; rfl; rfl; simp only [Act.put, List.setIfInBounds_toArray, List.set_cons_zero, List.set_cons_succ]) | (apply wpPlan_pass; rfl; rfl; assumption; simp only [Act.put, List.setIfInBounds_toArray, List.set_cons_zero, List.set_cons_succ]))
      apply wpPlan_call; rfl; rfl; rfl; rfl; kernel_rfl; exact HIH.out _; rfl; rintro E w4 ⟨rfl, hb4⟩
      refine ⟨_, rfl, as_S ⟨cell_later hb4 HS.1, cell_later hb4 HS.2⟩ ?_⟩
      intro _
      have HB4 := Lib.hid (below_later hb4 (below_later (below_dn wr 1) HBR.out))
      clear hb4 HS x1 x2 HIH HBR
      simp only [Act.put, List.setIfInBounds_toArray, List.set_cons_zero, List.set_cons_succ]
      repeat (first | (apply wpPlan_look; rfl; rfl; (intro wq hq; (try dsimp only at hq); go_split_ands; go_simp; (try rw [if_neg (by omega)]); (try rw [if_pos (by omega)]); try with_reducible rfl); simp only [Act.put, List.setIfInBounds_toArray, List.set_cons_zero, List.set_cons_succ]) | (apply wpPlan_skip; rfl; rfl; simp only [Act.put, List.setIfInBounds_toArray, List.set_cons_zero, List.set_cons_succ]) | (apply wpPlan_pass; rfl; rfl; assumption; simp only [Act.put, List.setIfInBounds_toArray, List.set_cons_zero, List.set_cons_succ]))
      apply wpPlan_done
      go_wp2_with fail
      rw [HM.out]
      go_roundw
      case rel => exact ⟨k + 1, by omega, by go_num, rfl, HB4⟩
      case measure => simp [intOf]; omega
    · obtain rfl : k = s.kids.length := by omega
      rw [HF.out]
      have HB3 := Lib.hid (below_later HBR.out HB.out)
      clear HBR
      go_wp2_with fail
      go_ret
      exact Makes.mk rfl HB3.out
theorem rmeet_all : ∀ n, RMeetC n
  | 0 => fun s _ _ _ _ _ h => by have := s.sz_pos; omega
  | n + 1 => rmeet_step (rmeet_all n)
theorem rMeet_any (s t : Ty) (w : World) (hs : s.fits) (ht : t.fits) (hc : cons s t = true) : Calls Tryz.prog 124 #[.string s.str, .string t.str] w (Makes (.string (meet s t).str) w) := rmeet_all _ s t w hs ht hc (Nat.le_refl _)
theorem r8Note_any (s : ByteArray) (h : NoteOk s) (w : World) : Calls Tryz.prog 83 #[.string s] w (Gives (.string (Tr.noteT s).str) w) := by
  by_cases h0 : s.size = 0
  · have q := empty_list h0
    have HR : Hid (Tr.noteT s = .dyn) := Lib.hid (by unfold Tr.noteT; rw [if_pos h0])
    clear h0 h
    go_enter Tryz.func83, Tryz.ntmps83
    go_wp2_with fail
    go_ret
    rw [HR.out]
    exact Gives.mk rfl
  · have q := some_list h0
    obtain ⟨t, rfl, _, h2⟩ := h h0
    rw [h2]
    clear h0 h h2
    go_enter Tryz.func83, Tryz.ntmps83
    go_wp2_with fail
    go_ret
    exact Gives.mk rfl
end Go.Proofs.YtdobaililmkkcaaGreatDoor

/- Walks of the document's checker: its state; refusals; types that must fit; heads. -/
namespace Culp.Tr
set_option linter.unusedSimpArgs false
set_option linter.unusedVariables false
/-- Two types must fit, after what came before. -/
def fitG {α : Type} (same : Bool) (R : Except Bad α) (s t : Ty) (n : Int) (p : Nat) : Except Bad α := match R with
  | .error b => .error b
  | .ok x => (fitT same s t n p).map fun _ => x
theorem fitG_good {α : Type} {same : Bool} {R : Except Bad α} {s t : Ty} {n : Int} {p : Nat} (h : Good R) (hn : n ≠ 0) : Good (fitG same R s t n p) := by
  cases R with
  | ok x => exact map_good _ (fitT_good hn)
  | error b => exact fun c hc => h c (by injection hc with hc; rw [hc])
/-- The document's text of an answer. -/
def strQ : Except Bad Ty → ByteArray | .ok t => t.str | .error _ => Ty.dyn.str
def tyQ : Except Bad Ty → Ty | .ok t => t | .error _ => .dyn
theorem strQ_ty (R : Except Bad Ty) : strQ R = (tyQ R).str := by cases R <;> rfl
theorem tyQ_fits {R : Except Bad Ty} (h : FitsR R) : (tyQ R).fits := by
  cases R with
  | ok t => exact h t rfl
  | error b => show Ty.dyn.fits; unfold Ty.fits; decide
theorem fitG_ok {α : Type} {same : Bool} {R : Except Bad α} {s t : Ty} {n : Int} {p : Nat} {v : α} (h : fitG same R s t n p = .ok v) : R = .ok v := by
  cases R with
  | error b => cases h
  | ok x =>
    unfold fitG at h
    dsimp only at h
    cases hf : fitT same s t n p with
    | error b => rw [hf] at h; cases h
    | ok u => rw [hf] at h; exact h
theorem fitG_map {α β : Type} {same : Bool} {R : Except Bad α} {s t : Ty} {n : Int} {p : Nat} (f : α → β) : (fitG same R s t n p).map f = fitG same (R.map f) s t n p := by
  cases R with
  | error b => rfl
  | ok x =>
    show (((fitT same s t n p).map fun _ => x).map f) = (fitT same s t n p).map fun _ => f x
    cases fitT same s t n p <;> rfl
theorem strQ_size {R : Except Bad Ty} (h : FitsR R) : (strQ R).size ≤ 64 := by
  cases R with
  | ok t => show t.str.size ≤ 64; rw [str_size]; exact h t rfl
  | error b => show Ty.dyn.str.size ≤ 64; decide
end Culp.Tr
namespace Go.Proofs.YtdobaililmkkcaaGreatDoor
set_option linter.unusedSimpArgs false
set_option linter.unusedVariables false
open Go.RowKit Culp
/-- The document's checker in its block. -/
structure RkAt (c B : Nat) (sm : Bool) (tv yv : Value) (ys : List ByteArray) (e : Int) (a : Nat) (w : World) : Prop where
  box : w.heap[c]? = some (.cells #[tv, yv, .int .i64 e, .int .i64 (a : Int), .bool sm] 91 (0, 0))
  own : w.ownsRow B 9 1 yv ys.length (ys.map Value.string)
section
variable {c B a a' : Nat} {sm : Bool} {tv yv : Value} {ys : List ByteArray} {e e' : Int} {w w' : World}
theorem RkAt.lt (h : RkAt c B sm tv yv ys e a w) : c < w.heap.size := (Array.getElem?_eq_some_iff.1 h.box).1
theorem RkAt.c0 (h : RkAt c B sm tv yv ys e a w) : w.cell? ⟨c, 0, none⟩ = some tv := by simp [World.cell?, h.box]
theorem RkAt.c1 (h : RkAt c B sm tv yv ys e a w) : w.cell? ⟨c, 1, none⟩ = some yv := by simp [World.cell?, h.box]
theorem RkAt.c2 (h : RkAt c B sm tv yv ys e a w) : w.cell? ⟨c, 2, none⟩ = some (.int .i64 e) := by simp [World.cell?, h.box]
theorem RkAt.c3 (h : RkAt c B sm tv yv ys e a w) : w.cell? ⟨c, 3, none⟩ = some (.int .i64 (a : Int)) := by simp [World.cell?, h.box]
theorem RkAt.c4 (h : RkAt c B sm tv yv ys e a w) : w.cell? ⟨c, 4, none⟩ = some (.bool sm) := by simp [World.cell?, h.box]
theorem RkAt.free (h : RkAt c B sm tv yv ys e a w) (i : Nat) (hi : i < 4) : w.frozen? ⟨c, i, none⟩ = false := by
  match i, hi with
  | 0, _ => simp [World.frozen?, h.box]
  | 1, _ => simp [World.frozen?, h.box]
  | 2, _ => simp [World.frozen?, h.box]
  | 3, _ => simp [World.frozen?, h.box]
theorem RkAt.later (h : RkAt c B sm tv yv ys e a w) (hb : Below w.heap.size w w') : RkAt c B sm tv yv ys e a w' := ⟨(hb.block c h.lt).trans h.box, own_later h.own hb⟩
theorem RkAt.ne (h : RkAt c B sm tv yv ys e a w) : yv.ownBlock ≠ some c := own_ne h.own fun cur hc => by
  have := h.box
  rw [hc] at this
  simp only [Option.some.injEq, Obj.cells.injEq] at this
  exact absurd this.2.1 (by decide)
theorem RkAt.put (h : RkAt c B sm tv yv ys e a w) : RkAt c B sm tv yv ys e' a' ((w.setCell ⟨c, 2, none⟩ (.int .i64 e')).setCell ⟨c, 3, none⟩ (.int .i64 (a' : Int))) := by
  have hb := h.box
  refine ⟨by simp [World.setCell, Array.getElem?_modify, hb], own_apart_keep h.own (((Keep.refl c w).setCell 2 _).setCell 3 _) h.ne⟩
theorem RkAt.read (h : RkAt c B sm tv yv ys e a w) {k : Nat} {s : ByteArray} (hk : ys[k]? = some s) :
    ∃ g C, yv = .slice (some ⟨g, 0, none⟩) ys.length C ∧ w.cell? ⟨g, k, none⟩ = some (.string s) ∧ k < ys.length ∧ w.frozen? ⟨g, k, none⟩ = false := by
  have hlt : k < ys.length := (List.getElem?_eq_some_iff.1 hk).1
  obtain ⟨A, C, rfl⟩ := own_shape h.own
  obtain ⟨g, _, e1, _, _, _, _, _⟩ := own_read h.own (by omega)
  simp only [Value.slice.injEq] at e1
  obtain ⟨rfl, _, rfl⟩ := e1
  have h2 := own_get h.own (i := k) (v := .string s) (by rw [List.getElem?_map, hk]; rfl)
  exact ⟨g, _, rfl, h2.1, hlt, h2.2⟩
end
/-- A call of the checker that writes no type. -/
def RkRes (v : Value) (c B : Nat) (sm : Bool) (tv yv : Value) (ys : List ByteArray) (e : Int) (a : Nat) (w : World) (E : Ending) (w' : World) : Prop := E = .returned v ∧ RkAt c B sm tv yv ys e a w' ∧ Keep c w w'
section
variable (c B : Nat) (sm : Bool) (tv yv : Value) (ys : List ByteArray) (a : Nat) (w : World)
theorem rno_any (e : Nat) (p : Nat) (h : RkAt c B sm tv yv ys 0 a w) :
    Calls Tryz.prog 84 #[.pointer (some ⟨c, 0, none⟩), .int .i64 (e : Int), .int .i64 (p : Int)] w (RkRes (.tuple #[]) c B sm tv yv ys e p w) := by
  have c2 := h.c2
  have f2 := h.free 2 (by decide)
  have f3 := h.free 3 (by decide)
  have c3 := h.c3
  have HR := Lib.hid (h.put (e' := e) (a' := p))
  have HK : Hid (Keep c w ((w.setCell ⟨c, 2, none⟩ (.int .i64 e)).setCell ⟨c, 3, none⟩ (.int .i64 (p : Int)))) := Lib.hid (((Keep.refl c w).setCell 2 _).setCell 3 _)
  clear h
  go_enter Tryz.func84, Tryz.ntmps84
  go_wp2_with fail
  exact bodyPost_end (v := .tuple #[]) (by simp [results, Tryz.results84, go_sem]) rfl ⟨rfl, HR.out, HK.out⟩
theorem rfits_skip (n p : Nat) (s t : ByteArray) (e : Int) (he : e ≠ 0) (h : RkAt c B sm tv yv ys e a w) :
    Calls Tryz.prog 105 #[.pointer (some ⟨c, 0, none⟩), .string s, .string t, .int .i64 (n : Int), .int .i64 (p : Int)] w (RkRes (.tuple #[]) c B sm tv yv ys e a w) := by
  have c2 := h.c2
  have q : (e != 0) = true := by rw [bne, beq_eq_false_iff_ne.2 he]; rfl
  have HR := Lib.hid h
  clear h he
  go_enter Tryz.func105, Tryz.ntmps105
  go_wp2_with fail
  exact bodyPost_end (v := .tuple #[]) (by simp [results, Tryz.results105, go_sem]) rfl ⟨rfl, HR.out, Keep.refl _ _⟩
theorem str_same (s t : Ty) : (s.str.toList == t.str.toList) = decide (s = t) := by
  rw [toL, toL, str_list, str_list, Bool.eq_iff_iff]
  simp only [beq_iff_eq, decide_eq_true_eq]
  exact ⟨enc_inj, fun h => by rw [h]⟩
set_option maxHeartbeats 1600000 in
theorem rfits_ok (n p : Nat) (s t : Ty) (hs : s.fits) (ht : t.fits) (hn : n ≠ 0) (R : Except Tr.Bad Unit) (hR : Tr.fitT sm s t (n : Int) p = R) (h : RkAt c B sm tv yv ys 0 a w) :
    Calls Tryz.prog 105 #[.pointer (some ⟨c, 0, none⟩), .string s.str, .string t.str, .int .i64 (n : Int), .int .i64 (p : Int)] w (RkRes (.tuple #[]) c B sm tv yv ys (Tr.stE R) (Tr.stA a R) w) := by
  have c2 := h.c2
  have c4 := h.c4
  have HC := Lib.hid (fun w => rConsistent_any s t w hs ht)
  have HR := Lib.hid h
  have HN : Hid (∀ w', RkAt c B sm tv yv ys 0 a w' → Calls Tryz.prog 84 #[.pointer (some ⟨c, 0, none⟩), .int .i64 (n : Int), .int .i64 (p : Int)] w' (RkRes (.tuple #[]) c B sm tv yv ys n p w')) := Lib.hid (fun w' h' => rno_any c B sm tv yv ys a w' n p h')
  unfold Tr.fitT at hR
  by_cases hsm : sm = true ∧ ¬ s = t
  · have e1 : (s.str.toList == t.str.toList) = false := by rw [str_same, decide_eq_false hsm.2]
    have hX : Hid (R = .error ((n : Int), p)) := Lib.hid (by rw [← hR, if_neg (by rw [hsm.1, decide_eq_false hsm.2]; simp)])
    obtain ⟨rfl, _⟩ := hsm
    clear h hR
    go_enter Tryz.func105, Tryz.ntmps105
    go_wp2_with fail
    refine (HN.out _ HR.out).mono ?_
    rintro E w2 ⟨rfl, h2, k2⟩
    have HR2 := Lib.hid h2
    have HK2 := Lib.hid k2
    clear h2 k2
    go_wp2_with fail
    exact bodyPost_end (v := .tuple #[]) (by simp [results, Tryz.results105, go_sem]) rfl (by rw [hX.out]; exact ⟨rfl, HR2.out, HK2.out⟩)
  · have hE : (!sm || decide (s = t)) = true := by
      cases sm with
      | false => rfl
      | true =>
        have : s = t := by
          by_cases hst : s = t
          · exact hst
          · exact absurd ⟨rfl, hst⟩ hsm
        rw [decide_eq_true this]; rfl
    rw [hE, Bool.true_and] at hR
    have hq : sm = true → (s.str.toList == t.str.toList) = true := fun hs' => by
      rw [str_same]
      exact decide_eq_true (by by_cases hst : s = t; exact hst; exact absurd ⟨hs', hst⟩ hsm)
    cases hcs : cons s t with
    | true =>
      have hX : Hid (R = .ok ()) := Lib.hid (by rw [← hR, hcs]; rfl)
      rw [hcs] at HC
      clear h hR hE hcs hsm
      cases sm with
      | false =>
        clear hq
        go_enter Tryz.func105, Tryz.ntmps105
        go_wp2_with fail
        refine (HC.out _).mono ?_
        rintro E w1 ⟨rfl, hb1⟩
        have HR1 := Lib.hid (HR.out.later hb1)
        have HK1 := Lib.hid (Keep.of (g := c) hb1)
        clear hb1
        go_wp2_with fail
        exact bodyPost_end (v := .tuple #[]) (by simp [results, Tryz.results105, go_sem]) rfl (by rw [hX.out]; exact ⟨rfl, HR1.out, HK1.out⟩)
      | true =>
        have e1 := hq rfl
        clear hq
        go_enter Tryz.func105, Tryz.ntmps105
        go_wp2_with fail
        refine (HC.out _).mono ?_
        rintro E w1 ⟨rfl, hb1⟩
        have HR1 := Lib.hid (HR.out.later hb1)
        have HK1 := Lib.hid (Keep.of (g := c) hb1)
        clear hb1
        go_wp2_with fail
        exact bodyPost_end (v := .tuple #[]) (by simp [results, Tryz.results105, go_sem]) rfl (by rw [hX.out]; exact ⟨rfl, HR1.out, HK1.out⟩)
    | false =>
      have hX : Hid (R = .error ((n : Int), p)) := Lib.hid (by rw [← hR, hcs]; rfl)
      rw [hcs] at HC
      clear h hR hE hcs hsm
      have hq2 : Hid (sm = true → (s.str.toList == t.str.toList) = true) := Lib.hid hq
      clear hq
      cases sm with
      | false =>
        go_enter Tryz.func105, Tryz.ntmps105
        go_wp2_with fail
        refine (HC.out _).mono ?_
        rintro E w1 ⟨rfl, hb1⟩
        have HR1 := Lib.hid (HR.out.later hb1)
        have HK1 := Lib.hid (Keep.of (g := c) hb1)
        clear hb1
        go_wp2_with fail
        refine (HN.out _ HR1.out).mono ?_
        rintro E w2 ⟨rfl, h2, k2⟩
        have HR2 := Lib.hid h2
        have HK2 := Lib.hid (HK1.out.trans k2)
        clear h2 k2
        go_wp2_with fail
        exact bodyPost_end (v := .tuple #[]) (by simp [results, Tryz.results105, go_sem]) rfl (by rw [hX.out]; exact ⟨rfl, HR2.out, HK2.out⟩)
      | true =>
        have e1 := hq2.out rfl
        go_enter Tryz.func105, Tryz.ntmps105
        go_wp2_with fail
        refine (HC.out _).mono ?_
        rintro E w1 ⟨rfl, hb1⟩
        have HR1 := Lib.hid (HR.out.later hb1)
        have HK1 := Lib.hid (Keep.of (g := c) hb1)
        clear hb1
        go_wp2_with fail
        refine (HN.out _ HR1.out).mono ?_
        rintro E w2 ⟨rfl, h2, k2⟩
        have HR2 := Lib.hid h2
        have HK2 := Lib.hid (HK1.out.trans k2)
        clear h2 k2
        go_wp2_with fail
        exact bodyPost_end (v := .tuple #[]) (by simp [results, Tryz.results105, go_sem]) rfl (by rw [hX.out]; exact ⟨rfl, HR2.out, HK2.out⟩)
theorem rfitsR {α : Type} (R0 : Except Tr.Bad α) (hG : Tr.Good R0) (n p : Nat) (s t : Ty) (hs : s.fits) (ht : t.fits) (hn : n ≠ 0) (h : RkAt c B sm tv yv ys (Tr.stE R0) (Tr.stA a R0) w) :
    Calls Tryz.prog 105 #[.pointer (some ⟨c, 0, none⟩), .string s.str, .string t.str, .int .i64 (n : Int), .int .i64 (p : Int)] w (RkRes (.tuple #[]) c B sm tv yv ys (Tr.stE (Tr.fitG sm R0 s t (n : Int) p)) (Tr.stA a (Tr.fitG sm R0 s t (n : Int) p)) w) := by
  cases R0 with
  | error e => exact rfits_skip c B sm tv yv ys e.2 w n p s.str t.str e.1 (hG e rfl) h
  | ok x =>
    refine (rfits_ok c B sm tv yv ys a w n p s t hs ht hn _ rfl h).mono fun E w' hr => ?_
    unfold Tr.fitG
    dsimp only
    revert hr
    cases Tr.fitT sm s t (n : Int) p <;> exact id
end
end Go.Proofs.YtdobaililmkkcaaGreatDoor
