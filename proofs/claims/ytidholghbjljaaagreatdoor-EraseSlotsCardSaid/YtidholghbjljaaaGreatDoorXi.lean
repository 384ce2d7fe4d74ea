
/- The walk of the statement EraseSlots. -/
import Derived.Test.YtidholghbjljaaaGreatDoorXh
import Derived.Test.YtidholghbjljaaaGreatDoorVf
import Derived.Test.YtidholghbjljaaaGreatDoorVg
import Derived.Test.YtidholghbjljaaaGreatDoorVk
import Derived.Test.YtidholghbjljaaaGreatDoorBr
namespace Go.Proofs.YtidholghbjljaaaGreatDoor
set_option linter.unusedSimpArgs false
set_option linter.unusedVariables false
open Go.RowKit Go.Maps Culp Culp.Er
/-- A row of slots that is spoilt. -/
def SpRow (H : Nat) (v : Value) (n : Nat) (W : World) : Prop := n = 0 ∨ ∃ ga c cs, v = .slice (some ⟨ga, 0, none⟩) n c ∧ H ≤ ga ∧ W.heap[ga]? = some (.cells cs 42 (0, 0)) ∧ n * 6 ≤ cs.size
theorem SpRow.of {B H n : Nat} {v : Value} {xs : List Value} {W : World} (h : W.ownsRow B 42 6 v n xs) (hB : H ≤ B) : SpRow H v n W := by
  rcases h.2 with ⟨_, h0⟩ | ⟨g, cap, cur, rfl, hb, hh, hc, _, hsz, _⟩
  · exact .inl h0
  · exact .inr ⟨g, cap, cur, rfl, by omega, hh, by rw [hsz]; exact Nat.mul_le_mul_right _ hc⟩
def spoilt : ByteArray := ⟨#[115, 112, 111, 105, 108, 116]⟩
theorem SpRow.set {H n k : Nat} {v : Value} {W : World} (h : SpRow H v n W) (hk : k < n) : ∃ ga c, v = .slice (some ⟨ga, 0, none⟩) n c ∧ H ≤ ga ∧ (∃ x, W.cell? ⟨ga, k * 6 + 5, none⟩ = some x) ∧ W.frozen? ⟨ga, k * 6 + 5, none⟩ = false ∧ (∃ cs, W.heap[ga]? = some (.cells cs 42 (0, 0))) ∧ SpRow H v n (W.setCell ⟨ga, k * 6 + 5, none⟩ (.string spoilt)) := by
  rcases h with h | ⟨ga, c, cs, rfl, h1, h2, h3⟩
  · omega
  · refine ⟨ga, c, rfl, h1, ?_, by simp [World.frozen?, h2], ⟨cs, h2⟩, .inr ⟨ga, c, cs.setIfInBounds (k * 6 + 5) (.string spoilt), rfl, h1, by simp [World.setCell, Array.getElem?_modify, h2], by simpa using h3⟩⟩
    have : k * 6 + 5 < cs.size := by omega
    exact ⟨cs[k * 6 + 5], by simp [World.cell?, h2, this]⟩
theorem own_set {B e sz n g i : Nat} {v u : Value} {xs : List Value} {t : TypeId} {W : World} (h : W.ownsRow B e sz v n xs) (hg : ∃ cs, W.heap[g]? = some (.cells cs t (0, 0))) (hne : t ≠ e) : (W.setCell ⟨g, i, none⟩ u).ownsRow B e sz v n xs :=
  own_keep h ((Keep.refl g W).setCell i u) fun cur hc => by
    obtain ⟨cs, hg⟩ := hg
    rw [hg] at hc
    simp only [Option.some.injEq, Obj.cells.injEq] at hc
    exact hne hc.2.1
set_option maxRecDepth 100000 in
set_option maxHeartbeats 12800000 in
theorem eraseslots_walk (L : List Md) (v : Value) (w : World) (hn : Mods w v L) (hS : Sp w) (hP : Pw w) (hl : L.length ≤ 1000000000000000) (hz : ∀ m ∈ L, MdSz m) :
    Calls Tryz.prog 3 #[v] w (Makes (.bool true) w) := by
  have HN := Lib.hid hn
  have HS := Lib.hid hS
  have HP := Lib.hid hP
  have HZ := Lib.hid hz
  obtain ⟨A, c, rfl⟩ := hn.form
  clear hn hS hP hz
  go_enter Tryz.func3, Tryz.ntmps3
  go_wp2_with fail
  refine (eworks_any _ HS.out).mono ?_
  rintro e w1 ⟨rfl, hb1⟩
  have HB1 := Lib.hid hb1
  clear hb1
  go_wp2_with fail
  refine (SizeModules_any L _ _ (HN.out.later HB1.out) hl HZ.out).mono ?_
  rintro e w2 ⟨z, rfl, hb2, hle⟩
  have HB2 := Lib.hid (below_later hb2 HB1.out)
  clear hb2 HB1
  by_cases hbig : 4000 < z
  · go_wp2_with fail
    go_ret
    exact Makes.mk rfl HB2.out
  have HLE := Lib.hid (hle 4000 (by omega) (by omega))
  clear hle
  have hL2 : L.length ≤ 4000 := HLE.out.1
  have HZ1 : Hid (∀ m ∈ L, m.imps.length ≤ 100000000000 ∧ m.defs.length ≤ 100000000000 ∧ ∀ d ∈ m.defs, d.tree.length ≤ 100000000000) := Lib.hid fun m hm => by
    obtain ⟨a, b, d⟩ := HLE.out.2 m hm
    exact ⟨by omega, by omega, fun x hx => by have := d x hx; omega⟩
  have HZ2 : Hid (∀ m ∈ L, m.imps.length ≤ 1000000000000000 ∧ m.defs.length ≤ 1000000000000000 ∧ ∀ d ∈ m.defs, d.tree.length ≤ 100000000000) := Lib.hid fun m hm => by
    obtain ⟨a, b, d⟩ := HLE.out.2 m hm
    exact ⟨by omega, by omega, fun x hx => by have := d x hx; omega⟩
  clear HLE
  go_wp2_with fail
  refine (WideModules_any L _ _ (HN.out.later HB2.out) (by omega) HZ1.out (HP.out.later HB2.out HP.out.lt)).mono ?_
  rintro e w4 ⟨g, hg, rfl, hw4, hb4⟩
  have HB4 := Lib.hid (below_later hb4 HB2.out)
  have HW4 := Lib.hid hw4
  clear hw4 hb4 hg HB2 hbig
  go_wp2_with fail
  refine (Slots_any L _ _ HW4.out.mods (HS.out.later HB4.out) hl HZ.out).mono ?_
  rintro e w5 ⟨va, rfl, hb5, ho5⟩
  have H45 := Lib.hid hb5
  have HA5 := Lib.hid ho5
  obtain ⟨Aa, ca, rfl⟩ := own_shape ho5
  have h5 : w4.heap.size ≤ w5.heap.size := hb5.size
  clear hb5 ho5
  go_wp2_with fail
  refine (Written_any L _ _ (HW4.out.later H45.out).mods (HS.out.later (HB4.out.trans (H45.out.mono HB4.out.size))) hl HZ.out).mono ?_
  rintro e w6 ⟨vb, rfl, hb6, ho6⟩
  have H46 := Lib.hid (H45.out.trans (hb6.mono h5))
  have HA6 := Lib.hid (own_later HA5.out hb6)
  have HB6 : Hid (w6.ownsRow w4.heap.size 3 1 vb (toldW L).length ((toldW L).map natV)) := Lib.hid (own_base ho6 h5)
  obtain ⟨Ab, cb, rfl⟩ := own_shape ho6
  have h6 : w4.heap.size ≤ w6.heap.size := H46.out.size
  clear hb6 ho6 H45 HA5
  go_wp2_with fail
  refine (Written_any L _ _ (HW4.out.later H46.out).mods (HS.out.later (HB4.out.trans (H46.out.mono HB4.out.size))) hl HZ.out).mono ?_
  rintro e w7 ⟨vc, rfl, hb7, ho7⟩
  have H47 := Lib.hid (H46.out.trans (hb7.mono h6))
  have HA7 := Lib.hid (own_later HA6.out hb7)
  have HB7 := Lib.hid (own_later HB6.out hb7)
  have HC7 : Hid (w7.ownsRow w4.heap.size 3 1 vc (toldW L).length ((toldW L).map natV)) := Lib.hid (own_base ho7 h6)
  obtain ⟨Ac, cc, rfl⟩ := own_shape ho7
  have HAP : Hid (Culp.Apart (Value.slice Ac (toldW L).length cc) (Value.slice Ab (toldW L).length cb)) := Lib.hid (apart_base ho7 fun g hg => (HB6.out.lt g hg).2)
  have h7 : w4.heap.size ≤ w7.heap.size := H47.out.size
  clear hb7 ho7 H46 HA6 HB6
  go_wp2_with fail
  refine (rModules_any L _ _ (HN.out.later (HB4.out.trans (H47.out.mono HB4.out.size))) hl HZ.out).mono ?_
  rintro e w8 ⟨rfl, hb8⟩
  have H48 := Lib.hid (H47.out.trans (hb8.mono h7))
  have HRA := Lib.hid (own_later HA7.out hb8)
  have HRB := Lib.hid (own_later HB7.out hb8)
  have HRC := Lib.hid (own_later HC7.out hb8)
  have h8 : w4.heap.size ≤ w8.heap.size := H48.out.size
  clear hb8 HA7 HB7 HC7 H47
  by_cases h0 : Mo.mods L = 0
  · have hts : told L = slots L := by unfold told; rw [if_pos h0]
    have htw : toldW L = idxW (slots L) (note L) (slots L).length := by unfold toldW; rw [if_pos h0]
    have hsl0 := fits_small h0
    have hsl : (told L).length ≤ 1000000000 := by rw [hts]; omega
    have hwl : (toldW L).length ≤ 1000000000 := by
      rw [htw]
      have := idxW_len (slots L) (note L) (slots L).length
      omega
    have hwl2 : (toldW L).length ≤ 1000000 := by
      rw [htw]
      have := idxW_len (slots L) (note L) (slots L).length
      omega
    have HTS := Lib.hid hts
    have HTW := Lib.hid htw
    have HM0 := Lib.hid h0
    rw [h0]
    clear hts htw h0
    go_wp2_with fail
    refine (rSlots_any L _ _ (HN.out.later (HB4.out.trans (H48.out.mono HB4.out.size))) HM0.out).mono ?_
    rintro e w9 ⟨vs, rfl, hb9, ho9⟩
    rw [← HTS.out] at ho9
    have H49 := Lib.hid (H48.out.trans (hb9.mono h8))
    have HRA9 := Lib.hid (own_later HRA.out hb9)
    have HRB9 := Lib.hid (own_later HRB.out hb9)
    have HRC9 := Lib.hid (own_later HRC.out hb9)
    have HRS9 := Lib.hid (own_base ho9 h8)
    have h9 : w4.heap.size ≤ w9.heap.size := H49.out.size
    obtain ⟨As, cs, rfl⟩ := own_shape ho9
    clear hb9 ho9 H48 HRA HRB HRC
    go_wp2_with fail
    go_loopw [13, 14] (fun ov iv wr => ∃ k : Nat, k ≤ (told L).length ∧ iv = .int .i64 k ∧ Hid (wr.ownsRow w9.heap.size 3 1 ov (idxW (slots L) (note L) k).length ((idxW (slots L) (note L) k).map natV)) ∧ Hid (Below w9.heap.size w9 wr)) (fun _ iv _ => (told L).length - (intOf iv).toNat)
    case atStart => exact ⟨0, Nat.zero_le _, rfl, Lib.hid ⟨rfl, .inl ⟨rfl, rfl⟩⟩, Lib.hid (Below.refl _ _)⟩
    case round =>
      obtain ⟨k, hk, rfl, HO, HB⟩ := hrel
      have own4 := HO.out
      obtain ⟨Ao, co, rfl⟩ := own_shape own4
      by_cases hlt : k < (told L).length
      · obtain ⟨gs, cgs, es, hrs⟩ := doc_row HRS9.out (by omega)
        cases es
        obtain ⟨s, hs⟩ : ∃ s, (told L)[k]? = some s := ⟨_, List.getElem?_eq_getElem hlt⟩
        obtain ⟨-, -, -, -, -, a5⟩ := hrs wr HB.out k s hs
        rw [HTS.out] at hs
        have hst := idxW_step (f := note L) hs
        have HST := Lib.hid hst
        have hil := idxW_len (slots L) (note L) k
        have hsz9 := HB.out.size
        generalize note L s.pos = t at *
        clear hrs hs hst
        go_wp2_with fail
        refine (IsWritten_any t _).mono ?_
        rintro e w' ⟨rfl, rfl⟩
        clear a5
        cases hw : isW t with
        | false =>
          have HO2 : Hid (wr.ownsRow w9.heap.size 3 1 (.slice Ao (idxW (slots L) (note L) k).length co) (idxW (slots L) (note L) (k + 1)).length ((idxW (slots L) (note L) (k + 1)).map natV)) := Lib.hid (by rw [HST.out, if_neg (by rw [hw]; decide)]; exact HO.out)
          clear HO own4 hw HST
          go_wp2_with fail
          go_roundw
          case rel => exact ⟨k + 1, by omega, by go_num, HO2, HB⟩
          case measure => simp [intOf]; omega
        | true =>
          have HE : Hid (idxW (slots L) (note L) (k + 1) = idxW (slots L) (note L) k ++ [k]) := Lib.hid (by rw [HST.out, if_pos hw])
          clear hw HST HO
          go_wp2_with (at_builtin; refine append_agg rfl (.tmp 59) (.tmp 61) 30 3 rfl w9.heap.size _ 1 8 Tryz.underlying30 int_info rfl (by decide) _ _ _ rfl own4 [.int .i64 k] rfl wr.heap.size rfl rfl ?_ ?_ ?_ ?_ ?_)
          · intro y hy; simp only [List.mem_cons, List.not_mem_nil, or_false] at hy; subst hy; rfl
          · omega
          · omega
          · omega
          intro v' w5' hown' hg' hb'
          have HO2 : Hid (w5'.ownsRow w9.heap.size 3 1 v' (idxW (slots L) (note L) (k + 1)).length ((idxW (slots L) (note L) (k + 1)).map natV)) := Lib.hid (by rw [HE.out, List.length_append, List.map_append]; exact hown')
          have HB2 := Lib.hid (HB.out.trans hb')
          obtain ⟨A2, c2, rfl⟩ := own_shape HO2.out
          clear hown' hg' hb' own4 HB
          go_wp2_with fail
          go_roundw
          case rel => exact ⟨k + 1, by omega, by go_num, HO2, HB2⟩
          case measure => simp [intOf]; omega
      · have hke : k = (told L).length := by omega
        have hidx : idxW (slots L) (note L) k = toldW L := by rw [hke, HTS.out, HTW.out]
        rw [hidx] at HO ⊢
        obtain ⟨wx, hwx⟩ : ∃ wx, wx = wr := ⟨_, rfl⟩
        rw [← hwx] at HO HB ⊢
        have h4x : w4.heap.size ≤ wx.heap.size := Nat.le_trans h9 HB.out.size
        have H4X := Lib.hid (H49.out.trans (HB.out.mono h9))
        have HRA := Lib.hid (own_later HRA9.out HB.out)
        have HRB := Lib.hid (own_later HRB9.out HB.out)
        have HRC := Lib.hid (own_later HRC9.out HB.out)
        have HRS := Lib.hid (own_later HRS9.out HB.out)
        have HRW := HO
        clear hwx hidx HRA9 HRB9 HRC9 HRS9 own4 H49 HO HB
        clear hke
        go_wp2_with fail
        refine (lalike_any (told L) (note L) _ _ _ _ wx HRA.out HRS.out hsl).mono ?_
        rintro e wq ⟨rfl, hbq⟩
        have H4Q := Lib.hid (H4X.out.trans (hbq.mono h4x))
        have HAQ := Lib.hid (own_later HRA.out hbq)
        have HBQ := Lib.hid (own_later HRB.out hbq)
        have HCQ := Lib.hid (own_later HRC.out hbq)
        have HSQ := Lib.hid (own_later HRS.out hbq)
        have HWQ := Lib.hid (own_later HRW.out hbq)
        have h4q : w4.heap.size ≤ wq.heap.size := H4Q.out.size
        clear hbq H4X HRA HRB HRC HRS HRW
        go_wp2_with fail
        refine (EqInts_same (toldW L) _ _ _ _ wq HBQ.out HWQ.out hwl).mono ?_
        rintro e wr ⟨rfl, hbr⟩
        have H4R := Lib.hid (H4Q.out.trans (hbr.mono h4q))
        have HAR := Lib.hid (SpRow.of (H := w4.heap.size) (own_later HAQ.out hbr) (Nat.le_refl _))
        have HBR := Lib.hid (own_later HBQ.out hbr)
        have HCR := Lib.hid (own_later HCQ.out hbr)
        have HSR := Lib.hid (own_later HSQ.out hbr)
        clear hbr H4Q HAQ HBQ HCQ HSQ HWQ h4q
        go_wp2_with fail
        go_loopw [15] (fun i wr => ∃ k : Nat, k ≤ (told L).length ∧ i = .int .i64 k ∧ Hid (SpRow w4.heap.size (.slice Aa (told L).length ca) (told L).length wr) ∧ Hid (wr.ownsRow w4.heap.size 3 1 (.slice Ab (toldW L).length cb) (toldW L).length ((toldW L).map natV)) ∧ Hid (wr.ownsRow w4.heap.size 3 1 (.slice Ac (toldW L).length cc) (toldW L).length ((toldW L).map natV)) ∧ Hid (wr.ownsRow w4.heap.size 38 8 (.slice As (told L).length cs) (told L).length (docs (told L) (note L))) ∧ Hid (Below w4.heap.size w4 wr)) (fun i _ => (told L).length - (intOf i).toNat)
        case atStart => exact ⟨0, Nat.zero_le _, rfl, HAR, HBR, HCR, HSR, H4R⟩
        case round =>
          clear HAR HBR HCR HSR H4R
          obtain ⟨k, hk, rfl, HA, HB, HC, HS2, H4⟩ := hrel
          by_cases hlt : k < (told L).length
          · obtain ⟨ga, cga, ea, hga, ⟨x0, hx0⟩, hfz, hcs, hset⟩ := HA.out.set hlt
            cases ea
            have HA2 := Lib.hid hset
            have HB2 := Lib.hid (own_set (i := k * 6 + 5) (u := .string spoilt) HB.out hcs (by decide))
            have HC2 := Lib.hid (own_set (i := k * 6 + 5) (u := .string spoilt) HC.out hcs (by decide))
            have HS3 := Lib.hid (own_set (i := k * 6 + 5) (u := .string spoilt) HS2.out hcs (by decide))
            have H42 := Lib.hid (below_setCell (v := .string spoilt) (a := ⟨ga, k * 6 + 5, none⟩) H4.out hga)
            clear hset hcs HA HB HC HS2 H4
            go_wp2_with fail
            go_roundw
            case rel => exact ⟨k + 1, by omega, by go_num, HA2, HB2, HC2, HS3, H42⟩
            case measure => simp [intOf]; omega
          · have HBW : Hid (Below w.heap.size w wr) := Lib.hid (HB4.out.trans (H4.out.mono HB4.out.size))
            have h4s : w4.heap.size ≤ wr.heap.size := H4.out.size
            clear HA
            go_wp2_with fail
            refine (Slots_any L _ wr (HW4.out.later H4.out).mods (HS.out.later HBW.out) hl HZ.out).mono ?_
            rintro e ws ⟨vd, rfl, hbs, hos⟩
            have H4S := Lib.hid (H4.out.trans (hbs.mono h4s))
            have HB3 := Lib.hid (own_later HB.out hbs)
            have HC3 := Lib.hid (own_later HC.out hbs)
            have HS3 := Lib.hid (own_later HS2.out hbs)
            have HD3 : Hid (ws.ownsRow w4.heap.size 42 6 vd (told L).length ((told L).flatMap fun s => slotC s (note L s.pos))) := Lib.hid (own_base hos h4s)
            obtain ⟨Ad, cd, rfl⟩ := own_shape hos
            have h4s2 : w4.heap.size ≤ ws.heap.size := H4S.out.size
            clear hbs hos H4 HB HC HS2 HBW
            have HF0 := Lib.hid (Full2.start (e := 3) (se := 30) (L := fun _ => (toldW L).length) (K := 1) (w := ws) (B := w4.heap.size) (by decide) h4s2)
            have hba : ∀ o, Below ws.heap.size ws (ws.alloc o) := fun o => (Below.refl _ _).alloc (Nat.le_refl _) o
            have HBA := Lib.hid hba
            clear hba
            go_wp2_with fail
            have hb9 := HBA.out (.cells #[.slice none 0 0, .slice none 0 0, .slice none 0 0, .slice none 0 0, .slice none 0 0, .slice none 0 0, .slice none 0 0, .slice none 0 0, .slice none 0 0, .slice none 0 0, .slice none 0 0, .slice none 0 0, .slice none 0 0, .slice none 0 0, .slice none 0 0, .slice none 0 0, .slice none 0 0, .slice none 0 0] 63)
            have hz9 : ws.heap.size < (ws.alloc (.cells #[.slice none 0 0, .slice none 0 0, .slice none 0 0, .slice none 0 0, .slice none 0 0, .slice none 0 0, .slice none 0 0, .slice none 0 0, .slice none 0 0, .slice none 0 0, .slice none 0 0, .slice none 0 0, .slice none 0 0, .slice none 0 0, .slice none 0 0, .slice none 0 0, .slice none 0 0, .slice none 0 0] 63)).heap.size := by rw [World.size_alloc]; omega
            generalize ws.alloc (.cells #[.slice none 0 0, .slice none 0 0, .slice none 0 0, .slice none 0 0, .slice none 0 0, .slice none 0 0, .slice none 0 0, .slice none 0 0, .slice none 0 0, .slice none 0 0, .slice none 0 0, .slice none 0 0, .slice none 0 0, .slice none 0 0, .slice none 0 0, .slice none 0 0, .slice none 0 0, .slice none 0 0] 63) = wt at *
            have H4T := Lib.hid (H4S.out.trans (hb9.mono h4s2))
            have HB5 := Lib.hid (own_later HB3.out hb9)
            have HC5 := Lib.hid (own_later HC3.out hb9)
            have HS5 := Lib.hid (own_later HS3.out hb9)
            have HD5 := Lib.hid (own_later HD3.out hb9)
            generalize ws.heap.size = gb at *
            clear HBA hb9 HB3 HC3 HS3 HD3 H4S
            go_wp2_with fail
            refine (AddInts2_any gb w4.heap.size [] (fun _ => (toldW L).length) _ _ _ _ wt HF0.out HB5.out (fun u hu => by simp at hu) (by decide)).mono ?_
            rintro e wu ⟨rfl, bv1, cs1, hf1, hk1, ho1⟩
            have H4U := Lib.hid (hk1.below H4T.out (by omega) (by omega) (fun k e => by cases e))
            have HC6 := Lib.hid (hk1.own HC5.out (HF0.out.bagis.ne HC5.out (by decide)) (fun k _ e => by cases e))
            have HS6 := Lib.hid (hk1.own HS5.out (HF0.out.bagis.ne HS5.out (by decide)) (fun k _ e => by cases e))
            have HD6 := Lib.hid (hk1.own HD5.out (HF0.out.bagis.ne HD5.out (by decide)) (fun k _ e => by cases e))
            have HF1 := Lib.hid hf1
            have h4u : w4.heap.size ≤ wu.heap.size := H4U.out.size
            clear hf1 hk1 ho1 HF0 HB5 HC5 HS5 HD5 H4T
            go_wp2_with fail
            refine (AddInts2_any gb w4.heap.size _ (fun _ => (toldW L).length) _ _ _ _ wu HF1.out HC6.out (fun u hu => by
              simp only [List.nil_append, List.mem_singleton] at hu
              subst hu
              exact HAP.out) (by show (1 : Nat) < 300; omega)).mono ?_
            rintro e wv ⟨rfl, bv2, cs2, hf2, hk2, ho2⟩
            have hbv1 : ∀ g, bv1.ownBlock = some g → w4.heap.size ≤ g := fun g hg => (HF1.out.bag.lt g hg).1
            have H4V := Lib.hid (hk2.below H4U.out (by omega) (by omega) hbv1)
            have HS7 := Lib.hid (hk2.own HS6.out (HF1.out.bagis.ne HS6.out (by decide)) (fun k e1 e2 => own_apart_type HF1.out.bag HS6.out (by decide) k e2 e1))
            have HD7 := Lib.hid (hk2.own HD6.out (HF1.out.bagis.ne HD6.out (by decide)) (fun k e1 e2 => own_apart_type HF1.out.bag HD6.out (by decide) k e2 e1))
            have HF2 := Lib.hid hf2
            have h4v : w4.heap.size ≤ wv.heap.size := H4V.out.size
            clear hf2 hk2 ho2 HF1 HC6 HS6 HD6 H4U hbv1
            go_wp2_with fail
            refine (lalike_any (told L) (note L) _ _ _ _ wv HD7.out HS7.out hsl).mono ?_
            rintro e wy ⟨rfl, hby⟩
            have H4Y := Lib.hid (H4V.out.trans (hby.mono h4v))
            have HF3 := Lib.hid (HF2.out.later hby)
            clear hby HF2 HS7 HD7 H4V
            go_wp2_with fail
            refine (ApartInts2_any gb w4.heap.size _ (fun _ => (toldW L).length) _ _ wy HF3.out (by show (2 : Nat) ≤ 300; omega) (fun _ => by omega)).mono ?_
            rintro e wz ⟨rfl, hbz⟩
            have H4Z := Lib.hid (H4Y.out.trans hbz)
            have HBZ : Hid (Below w.heap.size w wz) := Lib.hid (HB4.out.trans (H4Z.out.mono HB4.out.size))
            clear hbz H4Y HF3
            go_wp2_with fail
            refine (EqModules_same L _ _ _ (HW4.out.later H4Z.out).mods (HN.out.later HBZ.out) hl HZ2.out).mono ?_
            rintro e wa ⟨rfl, hba⟩
            have HBA := Lib.hid (below_later hba HBZ.out)
            have HWA := Lib.hid ((HW4.out.later H4Z.out).later hba)
            clear hba HBZ H4Z
            go_wp2_with fail
            refine (SpareModules_any L g _ HWA.out (by omega) HZ1.out (HP.out.later HBA.out HP.out.lt)).mono ?_
            rintro e wb ⟨rfl, hbb⟩
            have HBB := Lib.hid (below_later hbb HBA.out)
            clear hbb
            go_wp2_with fail
            go_ret
            exact Makes.mk rfl HBB.out
  · have hts : told L = [] := by unfold told; rw [if_neg h0]
    have htw : toldW L = [] := by unfold toldW; rw [if_neg h0]
    have hnz : (((Mo.mods L : Nat) : Int) == 0) = false := beq_eq_false_iff_ne.2 (by omega)
    have hsl : (told L).length ≤ 1000000000 := by rw [hts]; exact Nat.zero_le _
    have hwl : (toldW L).length ≤ 1000000000 := by rw [htw]; exact Nat.zero_le _
    have hwl2 : (toldW L).length ≤ 1000000 := by rw [htw]; exact Nat.zero_le _
    have HRS : Hid (w8.ownsRow w4.heap.size 38 8 (.slice none 0 0) (told L).length (docs (told L) (note L))) := Lib.hid (by rw [hts]; exact ⟨rfl, .inl ⟨rfl, rfl⟩⟩)
    have HRW : Hid (w8.ownsRow w4.heap.size 3 1 (.slice none 0 0) (toldW L).length ((toldW L).map natV)) := Lib.hid (by rw [htw]; exact ⟨rfl, .inl ⟨rfl, rfl⟩⟩)
    obtain ⟨wx, hwx⟩ : ∃ wx, wx = w8 := ⟨_, rfl⟩
    rw [← hwx] at HRS HRW HRA HRB HRC H48 h8 ⊢
    have H4X := H48
    have h4x := h8
    clear hwx hts htw h0 h8 H48
    generalize Mo.mods L = r at *
    go_wp2_with fail
    refine (lalike_any (told L) (note L) _ _ _ _ wx HRA.out HRS.out hsl).mono ?_
    rintro e wq ⟨rfl, hbq⟩
    have H4Q := Lib.hid (H4X.out.trans (hbq.mono h4x))
    have HAQ := Lib.hid (own_later HRA.out hbq)
    have HBQ := Lib.hid (own_later HRB.out hbq)
    have HCQ := Lib.hid (own_later HRC.out hbq)
    have HSQ := Lib.hid (own_later HRS.out hbq)
    have HWQ := Lib.hid (own_later HRW.out hbq)
    have h4q : w4.heap.size ≤ wq.heap.size := H4Q.out.size
    clear hbq H4X HRA HRB HRC HRS HRW
    go_wp2_with fail
    refine (EqInts_same (toldW L) _ _ _ _ wq HBQ.out HWQ.out hwl).mono ?_
    rintro e wr ⟨rfl, hbr⟩
    have H4R := Lib.hid (H4Q.out.trans (hbr.mono h4q))
    have HAR := Lib.hid (SpRow.of (H := w4.heap.size) (own_later HAQ.out hbr) (Nat.le_refl _))
    have HBR := Lib.hid (own_later HBQ.out hbr)
    have HCR := Lib.hid (own_later HCQ.out hbr)
    have HSR := Lib.hid (own_later HSQ.out hbr)
    clear hbr H4Q HAQ HBQ HCQ HSQ HWQ h4q
    go_wp2_with fail
    go_loopw [15] (fun i wr => ∃ k : Nat, k ≤ (told L).length ∧ i = .int .i64 k ∧ Hid (SpRow w4.heap.size (.slice Aa (told L).length ca) (told L).length wr) ∧ Hid (wr.ownsRow w4.heap.size 3 1 (.slice Ab (toldW L).length cb) (toldW L).length ((toldW L).map natV)) ∧ Hid (wr.ownsRow w4.heap.size 3 1 (.slice Ac (toldW L).length cc) (toldW L).length ((toldW L).map natV)) ∧ Hid (wr.ownsRow w4.heap.size 38 8 (.slice none 0 0) (told L).length (docs (told L) (note L))) ∧ Hid (Below w4.heap.size w4 wr)) (fun i _ => (told L).length - (intOf i).toNat)
    case atStart => exact ⟨0, Nat.zero_le _, rfl, HAR, HBR, HCR, HSR, H4R⟩
    case round =>
      clear HAR HBR HCR HSR H4R
      obtain ⟨k, hk, rfl, HA, HB, HC, HS2, H4⟩ := hrel
      by_cases hlt : k < (told L).length
      · obtain ⟨ga, cga, ea, hga, ⟨x0, hx0⟩, hfz, hcs, hset⟩ := HA.out.set hlt
        cases ea
        have HA2 := Lib.hid hset
        have HB2 := Lib.hid (own_set (i := k * 6 + 5) (u := .string spoilt) HB.out hcs (by decide))
        have HC2 := Lib.hid (own_set (i := k * 6 + 5) (u := .string spoilt) HC.out hcs (by decide))
        have HS3 := Lib.hid (own_set (i := k * 6 + 5) (u := .string spoilt) HS2.out hcs (by decide))
        have H42 := Lib.hid (below_setCell (v := .string spoilt) (a := ⟨ga, k * 6 + 5, none⟩) H4.out hga)
        clear hset hcs HA HB HC HS2 H4
        go_wp2_with fail
        go_roundw
        case rel => exact ⟨k + 1, by omega, by go_num, HA2, HB2, HC2, HS3, H42⟩
        case measure => simp [intOf]; omega
      · have HBW : Hid (Below w.heap.size w wr) := Lib.hid (HB4.out.trans (H4.out.mono HB4.out.size))
        have h4s : w4.heap.size ≤ wr.heap.size := H4.out.size
        clear HA
        go_wp2_with fail
        refine (Slots_any L _ wr (HW4.out.later H4.out).mods (HS.out.later HBW.out) hl HZ.out).mono ?_
        rintro e ws ⟨vd, rfl, hbs, hos⟩
        have H4S := Lib.hid (H4.out.trans (hbs.mono h4s))
        have HB3 := Lib.hid (own_later HB.out hbs)
        have HC3 := Lib.hid (own_later HC.out hbs)
        have HS3 := Lib.hid (own_later HS2.out hbs)
        have HD3 : Hid (ws.ownsRow w4.heap.size 42 6 vd (told L).length ((told L).flatMap fun s => slotC s (note L s.pos))) := Lib.hid (own_base hos h4s)
        obtain ⟨Ad, cd, rfl⟩ := own_shape hos
        have h4s2 : w4.heap.size ≤ ws.heap.size := H4S.out.size
        clear hbs hos H4 HB HC HS2 HBW
        have HF0 := Lib.hid (Full2.start (e := 3) (se := 30) (L := fun _ => (toldW L).length) (K := 1) (w := ws) (B := w4.heap.size) (by decide) h4s2)
        have hba : ∀ o, Below ws.heap.size ws (ws.alloc o) := fun o => (Below.refl _ _).alloc (Nat.le_refl _) o
        have HBA := Lib.hid hba
        clear hba
        go_wp2_with fail
        have hb9 := HBA.out (.cells #[.slice none 0 0, .slice none 0 0, .slice none 0 0, .slice none 0 0, .slice none 0 0, .slice none 0 0, .slice none 0 0, .slice none 0 0, .slice none 0 0, .slice none 0 0, .slice none 0 0, .slice none 0 0, .slice none 0 0, .slice none 0 0, .slice none 0 0, .slice none 0 0, .slice none 0 0, .slice none 0 0] 63)
        have hz9 : ws.heap.size < (ws.alloc (.cells #[.slice none 0 0, .slice none 0 0, .slice none 0 0, .slice none 0 0, .slice none 0 0, .slice none 0 0, .slice none 0 0, .slice none 0 0, .slice none 0 0, .slice none 0 0, .slice none 0 0, .slice none 0 0, .slice none 0 0, .slice none 0 0, .slice none 0 0, .slice none 0 0, .slice none 0 0, .slice none 0 0] 63)).heap.size := by rw [World.size_alloc]; omega
        generalize ws.alloc (.cells #[.slice none 0 0, .slice none 0 0, .slice none 0 0, .slice none 0 0, .slice none 0 0, .slice none 0 0, .slice none 0 0, .slice none 0 0, .slice none 0 0, .slice none 0 0, .slice none 0 0, .slice none 0 0, .slice none 0 0, .slice none 0 0, .slice none 0 0, .slice none 0 0, .slice none 0 0, .slice none 0 0] 63) = wt at *
        have H4T := Lib.hid (H4S.out.trans (hb9.mono h4s2))
        have HB5 := Lib.hid (own_later HB3.out hb9)
        have HC5 := Lib.hid (own_later HC3.out hb9)
        have HS5 := Lib.hid (own_later HS3.out hb9)
        have HD5 := Lib.hid (own_later HD3.out hb9)
        generalize ws.heap.size = gb at *
        clear HBA hb9 HB3 HC3 HS3 HD3 H4S
        go_wp2_with fail
        refine (AddInts2_any gb w4.heap.size [] (fun _ => (toldW L).length) _ _ _ _ wt HF0.out HB5.out (fun u hu => by simp at hu) (by decide)).mono ?_
        rintro e wu ⟨rfl, bv1, cs1, hf1, hk1, ho1⟩
        have H4U := Lib.hid (hk1.below H4T.out (by omega) (by omega) (fun k e => by cases e))
        have HC6 := Lib.hid (hk1.own HC5.out (HF0.out.bagis.ne HC5.out (by decide)) (fun k _ e => by cases e))
        have HS6 := Lib.hid (hk1.own HS5.out (HF0.out.bagis.ne HS5.out (by decide)) (fun k _ e => by cases e))
        have HD6 := Lib.hid (hk1.own HD5.out (HF0.out.bagis.ne HD5.out (by decide)) (fun k _ e => by cases e))
        have HF1 := Lib.hid hf1
        have h4u : w4.heap.size ≤ wu.heap.size := H4U.out.size
        clear hf1 hk1 ho1 HF0 HB5 HC5 HS5 HD5 H4T
        go_wp2_with fail
        refine (AddInts2_any gb w4.heap.size _ (fun _ => (toldW L).length) _ _ _ _ wu HF1.out HC6.out (fun u hu => by
          simp only [List.nil_append, List.mem_singleton] at hu
          subst hu
          exact HAP.out) (by show (1 : Nat) < 300; omega)).mono ?_
        rintro e wv ⟨rfl, bv2, cs2, hf2, hk2, ho2⟩
        have hbv1 : ∀ g, bv1.ownBlock = some g → w4.heap.size ≤ g := fun g hg => (HF1.out.bag.lt g hg).1
        have H4V := Lib.hid (hk2.below H4U.out (by omega) (by omega) hbv1)
        have HS7 := Lib.hid (hk2.own HS6.out (HF1.out.bagis.ne HS6.out (by decide)) (fun k e1 e2 => own_apart_type HF1.out.bag HS6.out (by decide) k e2 e1))
        have HD7 := Lib.hid (hk2.own HD6.out (HF1.out.bagis.ne HD6.out (by decide)) (fun k e1 e2 => own_apart_type HF1.out.bag HD6.out (by decide) k e2 e1))
        have HF2 := Lib.hid hf2
        have h4v : w4.heap.size ≤ wv.heap.size := H4V.out.size
        clear hf2 hk2 ho2 HF1 HC6 HS6 HD6 H4U hbv1
        go_wp2_with fail
        refine (lalike_any (told L) (note L) _ _ _ _ wv HD7.out HS7.out hsl).mono ?_
        rintro e wy ⟨rfl, hby⟩
        have H4Y := Lib.hid (H4V.out.trans (hby.mono h4v))
        have HF3 := Lib.hid (HF2.out.later hby)
        clear hby HF2 HS7 HD7 H4V
        go_wp2_with fail
        refine (ApartInts2_any gb w4.heap.size _ (fun _ => (toldW L).length) _ _ wy HF3.out (by show (2 : Nat) ≤ 300; omega) (fun _ => by omega)).mono ?_
        rintro e wz ⟨rfl, hbz⟩
        have H4Z := Lib.hid (H4Y.out.trans hbz)
        have HBZ : Hid (Below w.heap.size w wz) := Lib.hid (HB4.out.trans (H4Z.out.mono HB4.out.size))
        clear hbz H4Y HF3
        go_wp2_with fail
        refine (EqModules_same L _ _ _ (HW4.out.later H4Z.out).mods (HN.out.later HBZ.out) hl HZ2.out).mono ?_
        rintro e wa ⟨rfl, hba⟩
        have HBA := Lib.hid (below_later hba HBZ.out)
        have HWA := Lib.hid ((HW4.out.later H4Z.out).later hba)
        clear hba HBZ H4Z
        go_wp2_with fail
        refine (SpareModules_any L g _ HWA.out (by omega) HZ1.out (HP.out.later HBA.out HP.out.lt)).mono ?_
        rintro e wb ⟨rfl, hbb⟩
        have HBB := Lib.hid (below_later hbb HBA.out)
        clear hbb
        go_wp2_with fail
        go_ret
        exact Makes.mk rfl HBB.out
end Go.Proofs.YtidholghbjljaaaGreatDoor
