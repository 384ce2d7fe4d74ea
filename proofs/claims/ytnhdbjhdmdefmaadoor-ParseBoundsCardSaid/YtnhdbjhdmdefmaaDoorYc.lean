
/- Walks of parse: module. -/
import Derived.Test.YtnhdbjhdmdefmaaDoorYb
import Derived.Test.YtnhdbjhdmdefmaaDoorYf
namespace Go.Proofs.YtnhdbjhdmdefmaaDoor
set_option linter.unusedSimpArgs false
set_option linter.unusedVariables false
open Go.RowKit Culp Culp.Tr Culp.Gr
section
variable {pb B i : Nat} {L : List Tok} {tv lv : Value} {e : Nat × Nat} {lg : List Nat} {w : World}
theorem pim_info : (Tryd.prog.info? 92).map (fun i => (i.zero, i.size, i.bytes)) = some (some (.agg #[.string ByteArray.empty, .string ByteArray.empty, .string ByteArray.empty, .int .i64 0, .int .i64 0]), 5, 64) := by kernel_rfl
theorem pdf_info : (Tryd.prog.info? 51).map (fun i => (i.zero, i.size, i.bytes)) = some (some (.agg #[.string ByteArray.empty, .bool false, .string ByteArray.empty, .slice none 0 0, .int .i64 0, .int .i64 0]), 6, 80) := by kernel_rfl
theorem pmd_size : (Tryd.prog.info? 49).map (·.size) = some 5 := by kernel_rfl
theorem alloc_rowp (w : World) (zs cs : Array Value) (t : TypeId) : (w.alloc (.cells zs t)).setRow w.heap.size cs = w.alloc (.cells cs t) := by
  unfold World.setRow World.alloc
  congr 1
  apply Array.ext_getElem?
  intro k
  rw [Array.getElem?_modify, Array.getElem?_push, Array.getElem?_push]
  by_cases h : k = w.heap.size
  · subst h; simp
  · rw [if_neg h, if_neg h, if_neg (fun e => h e.symm)]
section
variable {gr gm x y j : Nat} {nm : List UInt8} {is : List Im} {iv dv : Value} {ds : List Df} {ts : List Value} {w1 : World}
theorem mst_takes (h : MSt pb B L tv e lv w gr gm nm x y j lg is iv ds dv ts w1) (s : List UInt8) : Calls Tryd.prog 32 #[.pointer (some ⟨pb, 0, none⟩), .string (by_ s)] w1 (fun E w' => E = .returned (.bool (isM L s j)) ∧ MSt pb B L tv e lv w gr gm nm x y (adv L s j) lg is iv ds dv ts w') := by
  obtain ⟨lv1, h1, h2, h3⟩ := h.went
  refine (takes_any h2 s).mono ?_
  rintro E w2 ⟨rfl, hw⟩
  exact ⟨rfl, h.kt (h2.kt hw.keep) (Went.trans h1 h3 hw)⟩
end

set_option maxRecDepth 100000 in
set_option maxHeartbeats 12800000 in
theorem module_any (h : PS pb B L tv e i lg lv w) : Calls Tryd.prog 20 #[.pointer (some ⟨pb, 0, none⟩)] w (PRes (ModR w.heap.size) (module L i lg) pb B L tv e lv w) := by
  have hsm := h.small
  have hle := h.le
  have hb0 : Below w.heap.size w (w.alloc (.cells #[.string { data := #[] }, .slice none 0 0, .slice none 0 0, .int .i64 0, .int .i64 0] 49)) := (Below.refl _ _).alloc (Nat.le_refl _) _
  have HW0 := Lib.hid ((Went.refl h).later hb0)
  have HR0 : Hid (Blk w.heap.size #[.string { data := #[] }, .slice none 0 0, .slice none 0 0, .int .i64 0, .int .i64 0] 49 (w.alloc (.cells #[.string { data := #[] }, .slice none 0 0, .slice none 0 0, .int .i64 0, .int .i64 0] 49))) := Lib.hid (Blk.alloc _ _ _)
  have HSP := Lib.hid (module_eq (L := L) i lg)
  clear h hb0
  go_enter Tryd.func20, Tryd.ntmps20
  go_wp2_with fail
  generalize w.alloc (.cells #[.string { data := #[] }, .slice none 0 0, .slice none 0 0, .int .i64 0, .int .i64 0] 49) = W0 at *
  generalize hgr : w.heap.size = gr at HR0 ⊢
  have HGR := Lib.hid hgr
  clear hgr
  (refine (HW0.out.callT (R := TokR L e i) (spec := tokS (want L sModule i) lg) (fun lv1 h1 => wants_any h1 sModule)).mono ?_)
  rintro E w1 ⟨hr, hkt⟩
  cases hs1 : want L sModule i with
  | error j =>
    rw [hs1] at hr
    obtain ⟨rfl, hk⟩ := hr
    refine ⟨rfl, ?_⟩
    rw [HSP.out, hs1]
    exact ⟨rfl, hk⟩
  | ok a1 =>
    obtain ⟨rfl, hi1⟩ := want_inv hs1
    rw [hs1] at hr
    obtain ⟨v, rfl, -, hw⟩ := hr
    have HW1 := Lib.hid hw
    have HR1 := Lib.hid (hkt.blk HR0.out (by decide) (by decide))
    have HS1 := Lib.hid hs1
    clear hw hkt HR0 HW0 hs1
    go_wp2_with fail
    (refine (HW1.out.callT (R := TokR L e (i + 1)) (spec := tokS (name L (i + 1)) lg) (fun lv1 h1 => name_any h1)).mono ?_)
    rintro E w2 ⟨hr, hkt⟩
    cases hs2 : name L (i + 1) with
    | error j =>
      rw [hs2] at hr
      obtain ⟨rfl, hk⟩ := hr
      refine ⟨rfl, ?_⟩
      rw [HSP.out, HS1.out, bnd_ok, hs2]
      exact ⟨rfl, hk⟩
    | ok a2 =>
      obtain ⟨rfl, hi2⟩ := name_inv hs2
      rw [hs2] at hr
      obtain ⟨v, rfl, hv, hw⟩ := hr
      obtain rfl : v = _ := hv
      obtain ⟨kk, mm, x, y, hC, -, -, hxy⟩ := tokC_lit3 L e (i + 1)
      rw [hC]
      have HSP2 : Hid (module L i lg = bnd (want L [123] (i + 1 + 1)) fun c => bnd (imps L (L.length + 1) c lg []) (mdRest L (txt L (i + 1)) x y)) := Lib.hid (by
        rw [HSP.out, HS1.out, bnd_ok, hs2, bnd_ok, ← here_pl e hi2, ← hxy])
      have hb3 : Below w2.heap.size w2 ((w2.alloc (.cells #[.int .i8 kk, .int .i64 mm, .string (by_ (txt L (i + 1))), .int .i64 x, .int .i64 y] 60)).alloc (.cells #[.string (by_ (txt L (i + 1))), .slice none 0 0, .slice none 0 0, .int .i64 x, .int .i64 y] 49)) := ((Below.refl _ _).alloc (Nat.le_refl _) _).alloc (by simp) _
      have HBX := Lib.hid (Blk.alloc2 w2 (.cells #[.int .i8 kk, .int .i64 mm, .string (by_ (txt L (i + 1))), .int .i64 x, .int .i64 y] 60) #[.string (by_ (txt L (i + 1))), .slice none 0 0, .slice none 0 0, .int .i64 x, .int .i64 y] 49)
      have HR3 := Lib.hid ((hkt.blk HR1.out (by decide) (by decide)).later hb3)
      have HW3 := Lib.hid (hw.later hb3)
      have hsz : w.heap.size ≤ w2.heap.size := hw.keep.size
      have hgr : gr < w2.heap.size := (hkt.blk HR1.out (by decide) (by decide)).lt
      clear hw hkt HR1 HW1 hs2 HS1 HSP hb3 hxy hC
      go_wp2_with fail
      generalize (w2.alloc (.cells #[.int .i8 kk, .int .i64 mm, .string (by_ (txt L (i + 1))), .int .i64 x, .int .i64 y] 60)).alloc (.cells #[.string (by_ (txt L (i + 1))), .slice none 0 0, .slice none 0 0, .int .i64 x, .int .i64 y] 49) = W3 at *
      generalize hgm : w2.heap.size + 1 = gm at *
      have HM3 : Hid (MSt pb B L tv e lv w gr gm (txt L (i + 1)) x y (i + 1 + 1) lg [] (.slice none 0 0) [] (.slice none 0 0) [] W3) := Lib.hid
        { went := HW3.out, res := HR3.out, box := HBX.out, imps := World.ownsRow_nil _ _ _ _, defs := DefsO.nil, gr0 := by rw [HGR.out]; exact Nat.le_refl _, gm0 := by omega, gg := by omega }
      clear HW3 HR3 HBX hgm hgr hsz HGR
      (refine (HM3.out.call (R := TokR L e (i + 1 + 1)) (spec := tokS (want L [123] (i + 1 + 1)) lg) (fun lv1 h1 => wants_any h1 [123])).mono ?_)
      rintro E w4 ⟨hkt4, hr⟩
      cases hs4 : want L [123] (i + 1 + 1) with
      | error jj =>
        rw [hs4] at hr
        obtain ⟨rfl, hk⟩ := hr
        refine ⟨rfl, ?_⟩
        rw [HSP2.out,hs4]
        exact ⟨rfl, hk⟩
      | ok a4 =>
        obtain ⟨rfl, hi4⟩ := want_inv hs4
        rw [hs4] at hr
        obtain ⟨v, rfl, -, hm⟩ := hr
        have HM4 := Lib.hid hm
        have HS4 := Lib.hid hs4
        clear hm HM3 hs4
        have HSP4 : Hid (module L i lg = bnd (imps L (L.length + 1) (i + 1 + 1 + 1) lg []) (mdRest L (txt L (i + 1)) x y)) := Lib.hid (by rw [HSP2.out, HS4.out, bnd_ok])
        clear HSP2 HS4 hkt4
        generalize hnm : txt L (i + 1) = nm at *
        clear hnm
        go_wp2_with fail
        go_loopg [] (L.length + 1) (fun g wx => ∃ (n j : Nat) (lg2 : List Nat) (is : List Im) (iv : Value), n = g ∧ j ≤ L.length ∧ L.length < j + n ∧ is.length ≤ j ∧ Hid (MSt pb B L tv e lv w gr gm nm x y j lg2 is iv [] (.slice none 0 0) [] wx) ∧ Hid (module L i lg = bnd (imps L n j lg2 is) (mdRest L nm x y)))
        case atStart => exact ⟨L.length + 1, i + 1 + 1 + 1, lg, [], _, rfl, by omega, by omega, Nat.zero_le _, HM4, HSP4⟩
        case round =>
          clear HM4 HSP4
          obtain ⟨n, j, lg2, is, iv, rfl, hj, hn, his, HM, HSP⟩ := hrel
          obtain ⟨n, rfl⟩ : ∃ m, n = m + 1 := ⟨n - 1, by omega⟩
          have HT := Lib.hid (mst_takes HM.out sImport)
          go_wp2_with fail
          refine HT.out.mono ?_
          rintro E w5 ⟨rfl, hm⟩
          have HM5 : Hid (MSt pb B L tv e lv w gr gm nm x y (adv L sImport j) lg2 is iv [] (.slice none 0 0) [] w5) := Lib.hid hm
          clear HT hm HM
          cases hs : isM L sImport j with
          | true =>
            have hlt := isM_lt hs
            rw [adv_yes hs] at HM5
            have HSP5 : Hid (module L i lg = bnd (bnd (name L (j + 1)) fun a => bnd (want L [46] a) fun b => bnd (name L b) fun c => bnd (note L c lg2) fun r => bnd (want L [59] r.2.1) fun d => imps L n d r.2.2 (is ++ [⟨by_ (txt L (j + 1)), by_ (txt L b), by_ r.1, (pl L b).1, (pl L b).2⟩])) (mdRest L nm x y)) := Lib.hid (by rw [HSP.out, imps_yes hs])
            clear hs HSP
            go_wp2_with fail
            (refine (HM5.out.call (R := TokR L e (j + 1)) (spec := tokS (name L (j + 1)) lg2) (fun lv1 h1 => name_any h1)).mono ?_)
            rintro E w6 ⟨hkt6, hr⟩
            cases hs6 : name L (j + 1) with
            | error jj =>
              rw [hs6] at hr
              obtain ⟨rfl, hk⟩ := hr
              refine ⟨rfl, ?_⟩
              rw [HSP5.out,hs6]
              exact ⟨rfl, hk⟩
            | ok a6 =>
              obtain ⟨rfl, hi6⟩ := name_inv hs6
              rw [hs6] at hr
              obtain ⟨v, rfl, hv, hm⟩ := hr
              have HM6 := Lib.hid hm
              have HS6 := Lib.hid hs6
              clear hm HM5 hs6
              obtain rfl : v = _ := hv
              obtain ⟨kk6, mm6, x6, y6, hC6, -, -, -⟩ := tokC_lit3 L e (j + 1)
              rw [hC6]
              clear hC6 hkt6
              have hfs := @field_str
              go_wp2_with fail
              clear hfs
              (refine (HM6.out.call (R := TokR L e (j + 1 + 1)) (spec := tokS (want L [46] (j + 1 + 1)) lg2) (fun lv1 h1 => wants_any h1 [46])).mono ?_)
              rintro E w7 ⟨hkt7, hr⟩
              cases hs7 : want L [46] (j + 1 + 1) with
              | error jj =>
                rw [hs7] at hr
                obtain ⟨rfl, hk⟩ := hr
                refine ⟨rfl, ?_⟩
                rw [HSP5.out, HS6.out, bnd_ok,hs7]
                exact ⟨rfl, hk⟩
              | ok a7 =>
                obtain ⟨rfl, hi7⟩ := want_inv hs7
                rw [hs7] at hr
                obtain ⟨v, rfl, -, hm⟩ := hr
                have HM7 := Lib.hid hm
                have HS7 := Lib.hid hs7
                clear hm HM6 hs7
                clear hkt7
                go_wp2_with fail
                (refine (HM7.out.call (R := TokR L e (j + 1 + 1 + 1)) (spec := tokS (name L (j + 1 + 1 + 1)) lg2) (fun lv1 h1 => name_any h1)).mono ?_)
                rintro E w8 ⟨hkt8, hr⟩
                cases hs8 : name L (j + 1 + 1 + 1) with
                | error jj =>
                  rw [hs8] at hr
                  obtain ⟨rfl, hk⟩ := hr
                  refine ⟨rfl, ?_⟩
                  rw [HSP5.out, HS6.out, bnd_ok, HS7.out, bnd_ok,hs8]
                  exact ⟨rfl, hk⟩
                | ok a8 =>
                  obtain ⟨rfl, hi8⟩ := name_inv hs8
                  rw [hs8] at hr
                  obtain ⟨v, rfl, hv, hm⟩ := hr
                  have HM8 := Lib.hid hm
                  have HS8 := Lib.hid hs8
                  clear hm HM7 hs8
                  obtain rfl : v = _ := hv
                  obtain ⟨kk8, mm8, x8, y8, hC8, -, -, hxy8⟩ := tokC_lit3 L e (j + 1 + 1 + 1)
                  rw [hC8]
                  clear hC8 hkt8
                  have HSP8 : Hid (module L i lg = bnd (bnd (note L (j + 1 + 1 + 1 + 1) lg2) fun r => bnd (want L [59] r.2.1) fun d => imps L n d r.2.2 (is ++ [⟨by_ (txt L (j + 1)), by_ (txt L (j + 1 + 1 + 1)), by_ r.1, x8, y8⟩])) (mdRest L nm x y)) := Lib.hid (by
                    rw [HSP5.out, HS6.out, bnd_ok, HS7.out, bnd_ok, HS8.out, bnd_ok, ← here_pl e hi8, ← hxy8])
                  clear HSP5 HS6 HS7 HS8 hxy8
                  have hba : Below w8.heap.size w8 (w8.alloc (.cells #[.int .i8 kk8, .int .i64 mm8, .string (by_ (txt L (j + 1 + 1 + 1))), .int .i64 x8, .int .i64 y8] 60)) := (Below.refl _ _).alloc (Nat.le_refl _) _
                  have HBT := Lib.hid (Blk.alloc w8 #[.int .i8 kk8, .int .i64 mm8, .string (by_ (txt L (j + 1 + 1 + 1))), .int .i64 x8, .int .i64 y8] 60)
                  have HM9 := Lib.hid (HM8.out.later hba)
                  clear hba HM8
                  go_wp2_with fail
                  generalize w8.alloc (.cells #[.int .i8 kk8, .int .i64 mm8, .string (by_ (txt L (j + 1 + 1 + 1))), .int .i64 x8, .int .i64 y8] 60) = W9 at *
                  generalize w8.heap.size = gt at *
                  have c2 := HBT.out.cell (i := 2) rfl
                  have c3 := HBT.out.cell (i := 3) rfl
                  have c4 := HBT.out.cell (i := 4) rfl
                  have hgt : iv.ownBlock ≠ some W9.heap.size := fun e => by have := (HM9.out.imps.lt _ e).2; omega
                  have hgtl : gt ≠ W9.heap.size := by have := HBT.out.lt; omega
                  have hgw := HM9.out.size
                  refine wp_region_fork (S := fun w' => w'.cell? ⟨gt, 2, none⟩ = some (.string (by_ (txt L (j + 1 + 1 + 1)))) ∧ w'.cell? ⟨gt, 3, none⟩ = some (.int .i64 x8) ∧ w'.cell? ⟨gt, 4, none⟩ = some (.int .i64 y8)) [(0, true), (1, true), (2, true), (3, true), (4, true), (5, true)] 6 [(7, true), (8, false), (9, false)] 8 [(6, false), (7, true), (9, false)] (by kernel_rfl) (by kernel_rfl) (by kernel_rfl) (fun _ _ _ _ _ h => h) ⟨c2, c3, c4⟩ ?_
                  intro HSc
                  repeat (first | (apply wpPlan_look; rfl; rfl; (intro wq hq; (try dsimp only at hq); go_split_ands; go_simp; (try rw [if_neg (by omega)]); (try rw [if_pos (by omega)]); try with_reducible rfl); simp only [Act.put, List.setIfInBounds_toArray, List.set_cons_zero, List.set_cons_succ]) | (apply wpPlan_skip; rfl; rfl; simp only [Act.put, List.setIfInBounds_toArray, List.set_cons_zero, List.set_cons_succ]) | (apply wpPlan_pass; rfl; rfl; assumption; simp only [Act.put, List.setIfInBounds_toArray, List.set_cons_zero, List.set_cons_succ]))
                  apply wpPlan_done
                  refine ⟨?_, ?_⟩
                  · clear HSc c2 c3 c4
                    (apply wpPlan_callS; rfl; rfl; rfl; rfl; kernel_rfl; exact (HM9.out.later ((Below.refl _ _).drew)).call (R := StrR) (spec := note L (j + 1 + 1 + 1 + 1) lg2) (fun lv1 h1 => note_any h1); rfl; rintro E w10 ⟨hkt, hr⟩)
                    cases hs10 : note L (j + 1 + 1 + 1 + 1) lg2 with
                    | error jj =>
                      rw [hs10] at hr
                      obtain ⟨rfl, hk⟩ := hr
                      refine .inr ⟨_, rfl, rfl, ?_⟩
                      rw [HSP8.out, hs10]
                      exact ⟨rfl, hk⟩
                    | ok q =>
                      have hb10 := note_bound hs10 (by omega)
                      have bt : Blk gt #[.int .i8 kk8, .int .i64 mm8, .string (by_ (txt L (j + 1 + 1 + 1))), .int .i64 x8, .int .i64 y8] 60 w10 := hkt.blk (t := 60) HBT.out (by decide) (by decide)
                      rw [hs10] at hr
                      obtain ⟨v, rfl, hv, hm⟩ := hr
                      have HM10 := Lib.hid hm
                      have HS10 := Lib.hid hs10
                      clear hm HM9 hs10
                      obtain rfl : v = _ := hv
                      have c2 := bt.cell (i := 2) rfl
                      have c3 := bt.cell (i := 3) rfl
                      have c4 := bt.cell (i := 4) rfl
                      refine .inl ⟨_, rfl, _, fun _ h => h, ⟨c2, c3, c4⟩, ?_⟩
                      simp only [Act.put, List.setIfInBounds_toArray, List.set_cons_zero, List.set_cons_succ]
                      repeat (first | (apply wpPlan_look; rfl; rfl; (intro wq hq; (try dsimp only at hq); go_split_ands; go_simp; (try rw [if_neg (by omega)]); (try rw [if_pos (by omega)]); try with_reducible rfl); simp only [Act.put, List.setIfInBounds_toArray, List.set_cons_zero, List.set_cons_succ]) | (apply wpPlan_skip; rfl; rfl; simp only [Act.put, List.setIfInBounds_toArray, List.set_cons_zero, List.set_cons_succ]) | (apply wpPlan_pass; rfl; rfl; assumption; simp only [Act.put, List.setIfInBounds_toArray, List.set_cons_zero, List.set_cons_succ]))
                      have hba : ∀ o, Below w10.heap.size w10 (w10.alloc o) := fun o => (Below.refl _ _).alloc (Nat.le_refl _) o
                      have hS1 := fun o => (⟨cell_later (hba o) c2, cell_later (hba o) c3, cell_later (hba o) c4⟩ : _ ∧ _ ∧ _)
                      refine wpPlan_run rfl rfl (by simp [execOp, go_sem]; exact ⟨rfl, rfl⟩) _ (fun _ h => h) (hS1 _) ?_
                      simp only [Act.put, List.setIfInBounds_toArray, List.set_cons_zero, List.set_cons_succ]
                      refine wpPlan_act rfl rfl (fun K hK => wp_store_row _ _ _ rfl w10.heap.size #[.string (by_ (txt L (j + 1))), .string (by_ (txt L (j + 1 + 1 + 1))), .string (by_ q.1), .int .i64 x8, .int .i64 y8] rfl rfl 92 _ (heap_alloc_new w10 _) (by kernel_rfl) rfl (by simp [Value.oneCell']) (hK _ _ ⟨?_, ?_⟩))
                      · rw [alloc_rowp w10]
                        exact hS1 _
                      rw [alloc_rowp w10]
                      simp only [Act.put, List.setIfInBounds_toArray, List.set_cons_zero, List.set_cons_succ]
                      apply wpPlan_done
                      have HM11 := Lib.hid (HM10.out.later (hba (.cells #[.string (by_ (txt L (j + 1))), .string (by_ (txt L (j + 1 + 1 + 1))), .string (by_ q.1), .int .i64 x8, .int .i64 y8] 92)))
                      have HBI := Lib.hid (Blk.alloc w10 #[.string (by_ (txt L (j + 1))), .string (by_ (txt L (j + 1 + 1 + 1))), .string (by_ q.1), .int .i64 x8, .int .i64 y8] 92)
                      have HSP10 : Hid (module L i lg = bnd (bnd (want L [59] q.2.1) fun d => imps L n d q.2.2 (is ++ [⟨by_ (txt L (j + 1)), by_ (txt L (j + 1 + 1 + 1)), by_ q.1, x8, y8⟩])) (mdRest L nm x y)) := Lib.hid (by rw [HSP8.out, HS10.out, bnd_ok])
                      clear c2 c3 c4 bt hba hS1 HM10 HS10 HSP8 HBT hkt hgt hgtl hgw
                      generalize txt L (j + 1) = tx1 at *
                      generalize txt L (j + 1 + 1 + 1) = tx3 at *
                      obtain ⟨qt, qj, ql⟩ := q
                      simp only at *
                      go_wp2_with fail
                      generalize w10.alloc (.cells #[.string (by_ tx1), .string (by_ tx3), .string (by_ qt), .int .i64 x8, .int .i64 y8] 92) = W11 at *
                      generalize w10.heap.size = gi at *
                      (refine (HM11.out.call (R := TokR L e qj) (spec := tokS (want L [59] qj) ql) (fun lv1 h1 => wants_any h1 [59])).mono ?_)
                      rintro E w12 ⟨hkt12, hr⟩
                      cases hs12 : want L [59] qj with
                      | error jj =>
                        rw [hs12] at hr
                        obtain ⟨rfl, hk⟩ := hr
                        refine ⟨rfl, ?_⟩
                        rw [HSP10.out,hs12]
                        exact ⟨rfl, hk⟩
                      | ok a12 =>
                        obtain ⟨rfl, hi12⟩ := want_inv hs12
                        have HBI2 : Hid (Blk gi #[.string (by_ tx1), .string (by_ tx3), .string (by_ qt), .int .i64 x8, .int .i64 y8] 92 w12) := Lib.hid (hkt12.blk (t := 92) HBI.out (by decide) (by decide))
                        rw [hs12] at hr
                        obtain ⟨v, rfl, -, hm⟩ := hr
                        have HM12 := Lib.hid hm
                        have HS12 := Lib.hid hs12
                        clear hm HM11 hs12
                        have HSP12 : Hid (module L i lg = bnd (imps L n (qj + 1) ql (is ++ [⟨by_ tx1, by_ tx3, by_ qt, x8, y8⟩])) (mdRest L nm x y)) := Lib.hid (by rw [HSP10.out, HS12.out, bnd_ok])
                        clear HSP10 HS12 HBI hkt12
                        obtain ⟨Av, cv, rfl⟩ := own_shape HM12.out.imps
                        have g1 := HM12.out.box.cell (i := 1) rfl
                        have f1 := HM12.out.box.free 1
                        have y0 := HBI2.out.cell (i := 0) rfl
                        have y1 := HBI2.out.cell (i := 1) rfl
                        have y2 := HBI2.out.cell (i := 2) rfl
                        have y3 := HBI2.out.cell (i := 3) rfl
                        have y4 := HBI2.out.cell (i := 4) rfl
                        have hszm := HM12.out.size
                        have hoi := HM12.out.imps
                        go_wp2_with (at_builtin; refine append_agg_at rfl (.tmp 41) (.tmp 43) 46 92 rfl w.heap.size _ 5 64 Tryd.underlying46 pim_info rfl (by decide) _ _ _ rfl hoi [.string (by_ tx1), .string (by_ tx3), .string (by_ qt), .int .i64 x8, .int .i64 y8] rfl w12.heap.size rfl rfl ?_ ?_ ?_ ?_ ?_)
                        · intro z hz; simp only [List.mem_cons, List.not_mem_nil, or_false] at hz; rcases hz with rfl | rfl | rfl | rfl | rfl <;> rfl
                        · omega
                        · omega
                        · omega
                        intro v' w13 hown' hg' hb' hat
                        have b1 := blk_grownT HM12.out.box hoi hg' (own_off hoi (blkHas HM12.out.box) (by decide))
                        have e1 := b1.cell (i := 1) rfl
                        have e2 := b1.free 1
                        have HM13 := Lib.hid (HM12.out.imp (z := ⟨by_ tx1, by_ tx3, by_ qt, x8, y8⟩) hown' hg')
                        obtain ⟨A6, c6, rfl⟩ := own_shape hown'
                        clear hown' hg' hb' hat b1 hoi y0 y1 y2 y3 y4 g1 f1 HM12 HBI2
                        go_wp2_with fail
                        go_roundg n
                        case rel => exact ⟨n, qj + 1, ql, _, _, rfl, by omega, by omega, by rw [List.length_append, List.length_singleton]; omega, HM13, HSP12⟩
                        case measure => omega
                  · have hba : ∀ o, Below W9.heap.size W9 (W9.drew.alloc o) := fun o => (Below.refl _ _).drew.alloc (Nat.le_refl _) o
                    have hS1 := fun o => (⟨cell_later (hba o) c2, cell_later (hba o) c3, cell_later (hba o) c4⟩ : _ ∧ _ ∧ _)
                    refine wpPlan_run rfl rfl (by simp [execOp, go_sem]; exact ⟨rfl, rfl⟩) _ (fun _ h => h) (hS1 _) ?_
                    simp only [Act.put, List.setIfInBounds_toArray, List.set_cons_zero, List.set_cons_succ]
                    have HM9b := Lib.hid (HM9.out.later (hba (.cells #[.string { data := #[] }, .string { data := #[] }, .string { data := #[] }, .int .i64 0, .int .i64 0] 92)))
                    have HBT9 := Lib.hid (HBT.out.later (hba (.cells #[.string { data := #[] }, .string { data := #[] }, .string { data := #[] }, .int .i64 0, .int .i64 0] 92)))
                    have HBI9 := Lib.hid (Blk.alloc W9.drew #[.string { data := #[] }, .string { data := #[] }, .string { data := #[] }, .int .i64 0, .int .i64 0] 92)
                    clear HSc c2 c3 c4 hba hS1 HM9 HBT
                    (apply wpPlan_callS; rfl; rfl; rfl; rfl; kernel_rfl; exact HM9b.out.call (R := StrR) (spec := note L (j + 1 + 1 + 1 + 1) lg2) (fun lv1 h1 => note_any h1); rfl; rintro E w10 ⟨hkt, hr⟩)
                    cases hs10 : note L (j + 1 + 1 + 1 + 1) lg2 with
                    | error jj =>
                      rw [hs10] at hr
                      obtain ⟨rfl, hk⟩ := hr
                      refine .inr ⟨_, rfl, rfl, ?_⟩
                      rw [HSP8.out, hs10]
                      exact ⟨rfl, hk⟩
                    | ok q =>
                      have hb10 := note_bound hs10 (by omega)
                      have bt : Blk gt #[.int .i8 kk8, .int .i64 mm8, .string (by_ (txt L (j + 1 + 1 + 1))), .int .i64 x8, .int .i64 y8] 60 w10 := hkt.blk (t := 60) HBT9.out (by decide) (by decide)
                      have bi : Blk W9.heap.size #[.string { data := #[] }, .string { data := #[] }, .string { data := #[] }, .int .i64 0, .int .i64 0] 92 w10 := hkt.blk (t := 92) HBI9.out (by decide) (by decide)
                      rw [hs10] at hr
                      obtain ⟨v, rfl, hv, hm⟩ := hr
                      have HM10 := Lib.hid hm
                      have HS10 := Lib.hid hs10
                      clear hm HM9b hs10
                      obtain rfl : v = _ := hv
                      have c2 := bt.cell (i := 2) rfl
                      have c3 := bt.cell (i := 3) rfl
                      have c4 := bt.cell (i := 4) rfl
                      refine .inl ⟨_, rfl, _, fun _ h => h, ⟨c2, c3, c4⟩, ?_⟩
                      simp only [Act.put, List.setIfInBounds_toArray, List.set_cons_zero, List.set_cons_succ]
                      repeat (first | (apply wpPlan_look; rfl; rfl; (intro wq hq; (try dsimp only at hq); go_split_ands; go_simp; (try rw [if_neg (by omega)]); (try rw [if_pos (by omega)]); try with_reducible rfl); simp only [Act.put, List.setIfInBounds_toArray, List.set_cons_zero, List.set_cons_succ]) | (apply wpPlan_skip; rfl; rfl; simp only [Act.put, List.setIfInBounds_toArray, List.set_cons_zero, List.set_cons_succ]) | (apply wpPlan_pass; rfl; rfl; assumption; simp only [Act.put, List.setIfInBounds_toArray, List.set_cons_zero, List.set_cons_succ]))
                      refine wpPlan_act rfl rfl (fun K hK => wp_store_row _ _ _ rfl W9.heap.size #[.string (by_ (txt L (j + 1))), .string (by_ (txt L (j + 1 + 1 + 1))), .string (by_ q.1), .int .i64 x8, .int .i64 y8] rfl rfl 92 _ bi (by kernel_rfl) rfl (by simp [Value.oneCell']) (hK _ _ ⟨?_, ?_⟩))
                      · exact ⟨far_row c2 hgtl, far_row c3 hgtl, far_row c4 hgtl⟩
                      simp only [Act.put, List.setIfInBounds_toArray, List.set_cons_zero, List.set_cons_succ]
                      apply wpPlan_done
                      have HM11 := Lib.hid (HM10.out.rowI (cs := #[.string (by_ (txt L (j + 1))), .string (by_ (txt L (j + 1 + 1 + 1))), .string (by_ q.1), .int .i64 x8, .int .i64 y8]) bi hgw hgt)
                      have HBI : Hid (Blk W9.heap.size #[.string (by_ (txt L (j + 1))), .string (by_ (txt L (j + 1 + 1 + 1))), .string (by_ q.1), .int .i64 x8, .int .i64 y8] 92 (w10.setRow W9.heap.size #[.string (by_ (txt L (j + 1))), .string (by_ (txt L (j + 1 + 1 + 1))), .string (by_ q.1), .int .i64 x8, .int .i64 y8])) := Lib.hid (setRow_blk bi)
                      have HSP10 : Hid (module L i lg = bnd (bnd (want L [59] q.2.1) fun d => imps L n d q.2.2 (is ++ [⟨by_ (txt L (j + 1)), by_ (txt L (j + 1 + 1 + 1)), by_ q.1, x8, y8⟩])) (mdRest L nm x y)) := Lib.hid (by rw [HSP8.out, HS10.out, bnd_ok])
                      clear c2 c3 c4 bt bi HM10 HS10 HSP8 HBT9 HBI9 hkt hgt hgtl hgw
                      generalize txt L (j + 1) = tx1 at *
                      generalize txt L (j + 1 + 1 + 1) = tx3 at *
                      obtain ⟨qt, qj, ql⟩ := q
                      simp only at *
                      go_wp2_with fail
                      generalize w10.setRow W9.heap.size #[.string (by_ tx1), .string (by_ tx3), .string (by_ qt), .int .i64 x8, .int .i64 y8] = W11 at *
                      generalize W9.heap.size = gi at *
                      (refine (HM11.out.call (R := TokR L e qj) (spec := tokS (want L [59] qj) ql) (fun lv1 h1 => wants_any h1 [59])).mono ?_)
                      rintro E w12 ⟨hkt12, hr⟩
                      cases hs12 : want L [59] qj with
                      | error jj =>
                        rw [hs12] at hr
                        obtain ⟨rfl, hk⟩ := hr
                        refine ⟨rfl, ?_⟩
                        rw [HSP10.out,hs12]
                        exact ⟨rfl, hk⟩
                      | ok a12 =>
                        obtain ⟨rfl, hi12⟩ := want_inv hs12
                        have HBI2 : Hid (Blk gi #[.string (by_ tx1), .string (by_ tx3), .string (by_ qt), .int .i64 x8, .int .i64 y8] 92 w12) := Lib.hid (hkt12.blk (t := 92) HBI.out (by decide) (by decide))
                        rw [hs12] at hr
                        obtain ⟨v, rfl, -, hm⟩ := hr
                        have HM12 := Lib.hid hm
                        have HS12 := Lib.hid hs12
                        clear hm HM11 hs12
                        have HSP12 : Hid (module L i lg = bnd (imps L n (qj + 1) ql (is ++ [⟨by_ tx1, by_ tx3, by_ qt, x8, y8⟩])) (mdRest L nm x y)) := Lib.hid (by rw [HSP10.out, HS12.out, bnd_ok])
                        clear HSP10 HS12 HBI hkt12
                        obtain ⟨Av, cv, rfl⟩ := own_shape HM12.out.imps
                        have g1 := HM12.out.box.cell (i := 1) rfl
                        have f1 := HM12.out.box.free 1
                        have y0 := HBI2.out.cell (i := 0) rfl
                        have y1 := HBI2.out.cell (i := 1) rfl
                        have y2 := HBI2.out.cell (i := 2) rfl
                        have y3 := HBI2.out.cell (i := 3) rfl
                        have y4 := HBI2.out.cell (i := 4) rfl
                        have hszm := HM12.out.size
                        have hoi := HM12.out.imps
                        go_wp2_with (at_builtin; refine append_agg_at rfl (.tmp 41) (.tmp 43) 46 92 rfl w.heap.size _ 5 64 Tryd.underlying46 pim_info rfl (by decide) _ _ _ rfl hoi [.string (by_ tx1), .string (by_ tx3), .string (by_ qt), .int .i64 x8, .int .i64 y8] rfl w12.heap.size rfl rfl ?_ ?_ ?_ ?_ ?_)
                        · intro z hz; simp only [List.mem_cons, List.not_mem_nil, or_false] at hz; rcases hz with rfl | rfl | rfl | rfl | rfl <;> rfl
                        · omega
                        · omega
                        · omega
                        intro v' w13 hown' hg' hb' hat
                        have b1 := blk_grownT HM12.out.box hoi hg' (own_off hoi (blkHas HM12.out.box) (by decide))
                        have e1 := b1.cell (i := 1) rfl
                        have e2 := b1.free 1
                        have HM13 := Lib.hid (HM12.out.imp (z := ⟨by_ tx1, by_ tx3, by_ qt, x8, y8⟩) hown' hg')
                        obtain ⟨A6, c6, rfl⟩ := own_shape hown'
                        clear hown' hg' hb' hat b1 hoi y0 y1 y2 y3 y4 g1 f1 HM12 HBI2
                        go_wp2_with fail
                        go_roundg n
                        case rel => exact ⟨n, qj + 1, ql, _, _, rfl, by omega, by omega, by rw [List.length_append, List.length_singleton]; omega, HM13, HSP12⟩
                        case measure => omega
          | false =>
            rw [adv_no hs] at HM5
            have HSP6 : Hid (module L i lg = bnd (defs L (L.length + 1) j lg2 []) (mdEnd nm x y is)) := Lib.hid (by rw [HSP.out, imps_no hs]; rfl)
            clear hs HSP hn
            go_wp2_with fail
            go_loopg [] (L.length + 1) (fun g wx => ∃ (m k : Nat) (lg3 : List Nat) (ds : List Df) (dv : Value) (ts : List Value), m = g ∧ k ≤ L.length ∧ L.length < k + m ∧ ds.length ≤ k ∧ Hid (MSt pb B L tv e lv w gr gm nm x y k lg3 is iv ds dv ts wx) ∧ Hid (module L i lg = bnd (defs L m k lg3 ds) (mdEnd nm x y is)))
            case atStart => exact ⟨L.length + 1, j, lg2, [], _, [], rfl, by omega, by omega, Nat.zero_le _, HM5, HSP6⟩
            case round =>
              clear HM5 HSP6
              obtain ⟨m, k, lg3, ds, dv, ts, rfl, hk, hm, hds, HM, HSP⟩ := hrel
              obtain ⟨m, rfl⟩ : ∃ z, m = z + 1 := ⟨m - 1, by omega⟩
              have HT := Lib.hid (mst_takes HM.out [125])
              go_wp2_with fail
              refine HT.out.mono ?_
              rintro E w6 ⟨rfl, hm6⟩
              have HM6 : Hid (MSt pb B L tv e lv w gr gm nm x y (adv L [125] k) lg3 is iv ds dv ts w6) := Lib.hid hm6
              clear HT hm6 HM
              cases hs : isM L [125] k with
              | true =>
                rw [adv_yes hs] at HM6
                have HBX := Lib.hid HM6.out.box
                have HRX := Lib.hid HM6.out.res
                have HR : Hid (PRes (ModR w.heap.size) (module L i lg) pb B L tv e lv w (.returned (.agg #[.string (by_ nm), iv, dv, .int .i64 x, .int .i64 y])) (w6.setRow gr #[.string (by_ nm), iv, dv, .int .i64 x, .int .i64 y])) := Lib.hid (by
                  obtain ⟨d1, d2⟩ := HM6.out.done (cs := #[.string (by_ nm), iv, dv, .int .i64 x, .int .i64 y])
                  rw [HSP.out, defs_end hs]
                  exact ⟨_, rfl, ⟨iv, dv, ts, rfl, d2⟩, d1⟩)
                have HKF : Hid (Blk gr #[.string (by_ nm), iv, dv, .int .i64 x, .int .i64 y] 49 (w6.setRow gr #[.string (by_ nm), iv, dv, .int .i64 x, .int .i64 y])) := Lib.hid (setRow_blk HRX.out)
                obtain ⟨Ai, ci, rfl⟩ := own_shape HM6.out.imps
                obtain ⟨Ad, cd, rfl⟩ := own_shape HM6.out.defs.row
                clear hs HSP HM6
                go_wp2_with (refine wpList_load_row rfl _ _ rfl gm rfl 49 _ (0, 0) _ HBX.out Tryd.underlying49 rfl pmd_size ?_; apply stop_mark)
                refine Lib.hid ?_
                refine wpList_store_row rfl _ _ _ rfl gr #[.string (by_ nm), .slice Ai is.length ci, .slice Ad ds.length cd, .int .i64 x, .int .i64 y] rfl rfl 49 _ HRX.out pmd_size rfl (by simp [Value.oneCell']) ?_
                clear HBX HRX
                generalize w6.setRow gr #[.string (by_ nm), .slice Ai is.length ci, .slice Ad ds.length cd, .int .i64 x, .int .i64 y] = wz at *
                go_wp2_with fail
                exact bodyPost_ret (results_cell_row rfl _ _ gr 49 #[.string (by_ nm), .slice Ai is.length ci, .slice Ad ds.length cd, .int .i64 x, .int .i64 y] (0, 0) _ rfl HKF.out Tryd.underlying49 rfl pmd_size) rfl HR.out
              | false =>
                rw [adv_no hs] at HM6
                have HSP7 : Hid (module L i lg = bnd (bnd (want L sLet (adv L sExport k)) fun a => bnd (name L a) fun b => bnd (note L b lg3) fun r => bnd (want L [61] r.2.1) fun c => bnd (expr L c r.2.2) fun e => bnd (want L [59] e.2.1) fun d => defs L m d e.2.2 (ds ++ [⟨by_ (txt L a), isM L sExport k, by_ r.1, e.1.flat, (pl L a).1, (pl L a).2⟩])) (mdEnd nm x y is)) := Lib.hid (by rw [HSP.out, defs_more hs])
                have hka : k ≤ adv L sExport k ∧ adv L sExport k ≤ L.length ∧ adv L sExport k ≤ k + 1 := by
                  unfold adv
                  split
                  · rename_i h; have := isM_lt h; omega
                  · omega
                have HT := Lib.hid (mst_takes HM6.out sExport)
                clear hs HSP
                go_wp2_with fail
                refine HT.out.mono ?_
                rintro E w7 ⟨rfl, hm7⟩
                clear HT HM6
                generalize isM L sExport k = ex at *
                generalize adv L sExport k = k1 at *
                have hba : Below w7.heap.size w7 (w7.alloc (.cells #[.string { data := #[] }, .bool ex, .string { data := #[] }, .slice none 0 0, .int .i64 0, .int .i64 0] 51)) := (Below.refl _ _).alloc (Nat.le_refl _) _
                have HBD := Lib.hid (Blk.alloc w7 #[.string { data := #[] }, .bool ex, .string { data := #[] }, .slice none 0 0, .int .i64 0, .int .i64 0] 51)
                have HND : Hid (dv.ownBlock ≠ some w7.heap.size) := Lib.hid fun e => by have := (hm7.defs.row.lt _ e).2; omega
                have HM7 := Lib.hid (hm7.later hba)
                have hgd : w.heap.size ≤ w7.heap.size := hm7.size
                clear hba hm7
                go_wp2_with fail
                generalize w7.alloc (.cells #[.string { data := #[] }, .bool ex, .string { data := #[] }, .slice none 0 0, .int .i64 0, .int .i64 0] 51) = W7 at *
                generalize w7.heap.size = gd at *
                (refine (HM7.out.call (R := TokR L e k1) (spec := tokS (want L sLet k1) lg3) (fun lv1 h1 => wants_any h1 sLet)).mono ?_)
                rintro E w8 ⟨hkt8, hr⟩
                cases hs8 : want L sLet k1 with
                | error jj =>
                  rw [hs8] at hr
                  obtain ⟨rfl, hk⟩ := hr
                  refine ⟨rfl, ?_⟩
                  rw [HSP7.out,hs8]
                  exact ⟨rfl, hk⟩
                | ok a8 =>
                  obtain ⟨rfl, hi8⟩ := want_inv hs8
                  have HBD8 := Lib.hid (hkt8.blk (t := 51) HBD.out (by decide) (by decide))
                  rw [hs8] at hr
                  obtain ⟨v, rfl, -, hm⟩ := hr
                  have HM8 := Lib.hid hm
                  have HS8 := Lib.hid hs8
                  clear hm HM7 hs8
                  clear hkt8 HBD
                  go_wp2_with fail
                  (refine (HM8.out.call (R := TokR L e (k1 + 1)) (spec := tokS (name L (k1 + 1)) lg3) (fun lv1 h1 => name_any h1)).mono ?_)
                  rintro E w9 ⟨hkt9, hr⟩
                  cases hs9 : name L (k1 + 1) with
                  | error jj =>
                    rw [hs9] at hr
                    obtain ⟨rfl, hk⟩ := hr
                    refine ⟨rfl, ?_⟩
                    rw [HSP7.out, HS8.out, bnd_ok,hs9]
                    exact ⟨rfl, hk⟩
                  | ok a9 =>
                    obtain ⟨rfl, hi9⟩ := name_inv hs9
                    have HBD9 := Lib.hid (hkt9.blk (t := 51) HBD8.out (by decide) (by decide))
                    rw [hs9] at hr
                    obtain ⟨v, rfl, hv, hm⟩ := hr
                    have HM9 := Lib.hid hm
                    have HS9 := Lib.hid hs9
                    clear hm HM8 hs9
                    obtain rfl : v = _ := hv
                    obtain ⟨kk9, mm9, x9, y9, hC9, -, -, hxy9⟩ := tokC_lit3 L e (k1 + 1)
                    rw [hC9]
                    have HSP9 : Hid (module L i lg = bnd (bnd (note L (k1 + 1 + 1) lg3) fun r => bnd (want L [61] r.2.1) fun c => bnd (expr L c r.2.2) fun e => bnd (want L [59] e.2.1) fun d => defs L m d e.2.2 (ds ++ [⟨by_ (txt L (k1 + 1)), ex, by_ r.1, e.1.flat, x9, y9⟩])) (mdEnd nm x y is)) := Lib.hid (by
                      rw [HSP7.out, HS8.out, bnd_ok, HS9.out, bnd_ok, ← here_pl e hi9, ← hxy9])
                    clear hC9 hkt9 HSP7 HS8 HS9 hxy9 HBD8
                    have hba : Below w9.heap.size w9 (w9.alloc (.cells #[.int .i8 kk9, .int .i64 mm9, .string (by_ (txt L (k1 + 1))), .int .i64 x9, .int .i64 y9] 60)) := (Below.refl _ _).alloc (Nat.le_refl _) _
                    have HBT := Lib.hid (Blk.alloc w9 #[.int .i8 kk9, .int .i64 mm9, .string (by_ (txt L (k1 + 1))), .int .i64 x9, .int .i64 y9] 60)
                    have HM10 := Lib.hid (HM9.out.later hba)
                    have HBD10 := Lib.hid (HBD9.out.later hba)
                    clear hba HM9 HBD9
                    go_wp2_with fail
                    generalize w9.alloc (.cells #[.int .i8 kk9, .int .i64 mm9, .string (by_ (txt L (k1 + 1))), .int .i64 x9, .int .i64 y9] 60) = W10 at *
                    generalize w9.heap.size = gt at *
                    have c2 := HBT.out.cell (i := 2) rfl
                    have c3 := HBT.out.cell (i := 3) rfl
                    have c4 := HBT.out.cell (i := 4) rfl
                    have hgt : gd ≠ gt := (blkHas HBD10.out).ne (blkHas HBT.out) (by decide)
                    generalize txt L (k1 + 1) = tx9 at *
                    refine wp_region_plan (S := fun w' => w'.cell? ⟨gt, 2, none⟩ = some (.string (by_ tx9)) ∧ w'.cell? ⟨gt, 3, none⟩ = some (.int .i64 x9) ∧ w'.cell? ⟨gt, 4, none⟩ = some (.int .i64 y9)) [(0, true), (1, true), (2, true), (3, true), (4, true), (5, false), (6, true), (7, false)] (by kernel_rfl) (by kernel_rfl) (by kernel_rfl) (fun _ _ _ _ _ h => h) ⟨c2, c3, c4⟩ ?_
                    intro HSc
                    clear c2 c3 c4
                    have q0 : W10.drew.cell? ⟨gd, 0, none⟩ = some (.string { data := #[] }) := HBD10.out.cell (i := 0) rfl
                    have r0 : W10.drew.frozen? ⟨gd, 0, none⟩ = false := HBD10.out.free 0
                    have b0 : Blk gd _ 51 W10.drew := HBD10.out
                    have HB0 := Lib.hid (blk_set b0 0 (.string (by_ tx9)))
                    have q4 := HBD10.out.cell (i := 4) rfl
                    have q5 := HBD10.out.cell (i := 5) rfl
                    have r4 := HBD10.out.free 4
                    have r5 := HBD10.out.free 5
                    have HB1 := Lib.hid (blk_set HB0.out 4 (.int .i64 x9))
                    have HM11 : Hid (MSt pb B L tv e lv w gr gm nm x y (k1 + 1 + 1) lg3 is iv ds dv ts (((W10.drew.setCell ⟨gd, 0, none⟩ (.string (by_ tx9))).setCell ⟨gd, 4, none⟩ (.int .i64 x9)).setCell ⟨gd, 5, none⟩ (.int .i64 y9))) := Lib.hid ((((HM10.out.later (Below.refl _ _).drew).set b0 hgd HND.out 0 _).set HB0.out hgd HND.out 4 _).set HB1.out hgd HND.out 5 _)
                    have HBD11 : Hid (Blk gd #[.string (by_ tx9), .bool ex, .string { data := #[] }, .slice none 0 0, .int .i64 x9, .int .i64 y9] 51 (((W10.drew.setCell ⟨gd, 0, none⟩ (.string (by_ tx9))).setCell ⟨gd, 4, none⟩ (.int .i64 x9)).setCell ⟨gd, 5, none⟩ (.int .i64 y9))) := Lib.hid (blk_set HB1.out 5 (.int .i64 y9))
                    clear b0 HM10 HBD10 HBT
                    repeat (first | (apply wpPlan_look; rfl; rfl; (intro wq hq; (try dsimp only at hq); go_split_ands; go_simp; (try rw [if_neg (by omega)]); (try rw [if_pos (by omega)]); try with_reducible rfl); simp only [Act.put, List.setIfInBounds_toArray, List.set_cons_zero, List.set_cons_succ]) | (apply wpPlan_skip; rfl; rfl; simp only [Act.put, List.setIfInBounds_toArray, List.set_cons_zero, List.set_cons_succ]) | (apply wpPlan_pass; rfl; rfl; assumption; simp only [Act.put, List.setIfInBounds_toArray, List.set_cons_zero, List.set_cons_succ]))
                    refine wpPlan_run0 (w' := W10.drew.setCell ⟨gd, 0, none⟩ (.string (by_ tx9))) rfl rfl (by simp [execOp, go_sem, q0, r0]) _ (fun _ h => h) ⟨far_cell HSc.1 hgt _, far_cell HSc.2.1 hgt _, far_cell HSc.2.2 hgt _⟩ ?_
                    simp only [Act.put, List.setIfInBounds_toArray, List.set_cons_zero, List.set_cons_succ]
                    repeat (first | (apply wpPlan_look; rfl; rfl; (intro wq hq; (try dsimp only at hq); go_split_ands; go_simp; (try rw [if_neg (by omega)]); (try rw [if_pos (by omega)]); try with_reducible rfl); simp only [Act.put, List.setIfInBounds_toArray, List.set_cons_zero, List.set_cons_succ]) | (apply wpPlan_skip; rfl; rfl; simp only [Act.put, List.setIfInBounds_toArray, List.set_cons_zero, List.set_cons_succ]) | (apply wpPlan_pass; rfl; rfl; assumption; simp only [Act.put, List.setIfInBounds_toArray, List.set_cons_zero, List.set_cons_succ]))
                    refine wpPlan_run0 (w' := ((W10.drew.setCell ⟨gd, 0, none⟩ (.string (by_ tx9))).setCell ⟨gd, 4, none⟩ (.int .i64 x9)).setCell ⟨gd, 5, none⟩ (.int .i64 y9)) rfl rfl (by simp [execOp, go_sem, q4, q5, r4, r5]) _ (fun _ h => h) ⟨far_cell (far_cell (far_cell HSc.1 hgt _) hgt _) hgt _, far_cell (far_cell (far_cell HSc.2.1 hgt _) hgt _) hgt _, far_cell (far_cell (far_cell HSc.2.2 hgt _) hgt _) hgt _⟩ ?_
                    simp only [Act.put, List.setIfInBounds_toArray, List.set_cons_zero, List.set_cons_succ]
                    apply wpPlan_done
                    clear HSc q0 r0 q4 q5 r4 r5 HB0 HB1
                    generalize ((W10.drew.setCell ⟨gd, 0, none⟩ (.string (by_ tx9))).setCell ⟨gd, 4, none⟩ (.int .i64 x9)).setCell ⟨gd, 5, none⟩ (.int .i64 y9) = W11 at *
                    go_wp2_with fail
                    (refine (HM11.out.call (R := StrR) (spec := note L (k1 + 1 + 1) lg3) (fun lv1 h1 => note_any h1)).mono ?_)
                    rintro E w12 ⟨hkt12, hr⟩
                    cases hs12 : note L (k1 + 1 + 1) lg3 with
                    | error jj =>
                      rw [hs12] at hr
                      obtain ⟨rfl, hk⟩ := hr
                      refine ⟨rfl, ?_⟩
                      rw [HSP9.out,hs12]
                      exact ⟨rfl, hk⟩
                    | ok q =>
                      have hb12 := note_bound hs12 (by omega)
                      have HBD12 := Lib.hid (hkt12.blk (t := 51) HBD11.out (by decide) (by decide))
                      rw [hs12] at hr
                      obtain ⟨v, rfl, hv, hm⟩ := hr
                      have HM12 := Lib.hid hm
                      have HS12 := Lib.hid hs12
                      clear hm HM11 hs12
                      obtain rfl : v = _ := hv
                      have HSP12 : Hid (module L i lg = bnd (bnd (want L [61] q.2.1) fun c => bnd (expr L c q.2.2) fun e => bnd (want L [59] e.2.1) fun d => defs L m d e.2.2 (ds ++ [⟨by_ tx9, ex, by_ q.1, e.1.flat, x9, y9⟩])) (mdEnd nm x y is)) := Lib.hid (by rw [HSP9.out, HS12.out, bnd_ok])
                      clear HSP9 HS12 hkt12 HBD11
                      obtain ⟨qt, qj, ql⟩ := q
                      simp only at *
                      have q2 := HBD12.out.cell (i := 2) rfl
                      have r2 := HBD12.out.free 2
                      have HM13 := Lib.hid (HM12.out.set HBD12.out hgd HND.out 2 (.string (by_ qt)))
                      have HBD13 : Hid (Blk gd #[.string (by_ tx9), .bool ex, .string (by_ qt), .slice none 0 0, .int .i64 x9, .int .i64 y9] 51 (w12.setCell ⟨gd, 2, none⟩ (.string (by_ qt)))) := Lib.hid (blk_set HBD12.out 2 (.string (by_ qt)))
                      clear HM12 HBD12
                      go_wp2_with fail
                      clear q2 r2
                      generalize w12.setCell ⟨gd, 2, none⟩ (.string (by_ qt)) = W13 at *
                      (refine (HM13.out.call (R := TokR L e qj) (spec := tokS (want L [61] qj) ql) (fun lv1 h1 => wants_any h1 [61])).mono ?_)
                      rintro E w14 ⟨hkt14, hr⟩
                      cases hs14 : want L [61] qj with
                      | error jj =>
                        rw [hs14] at hr
                        obtain ⟨rfl, hk⟩ := hr
                        refine ⟨rfl, ?_⟩
                        rw [HSP12.out,hs14]
                        exact ⟨rfl, hk⟩
                      | ok a14 =>
                        obtain ⟨rfl, hi14⟩ := want_inv hs14
                        have HBD14 := Lib.hid (hkt14.blk (t := 51) HBD13.out (by decide) (by decide))
                        rw [hs14] at hr
                        obtain ⟨v, rfl, -, hm⟩ := hr
                        have HM14 := Lib.hid hm
                        have HS14 := Lib.hid hs14
                        clear hm HM13 hs14
                        clear hkt14 HBD13
                        go_wp2_with fail
                        (refine (HM14.out.call (R := BR) (spec := expr L (qj + 1) ql) (fun lv1 h1 => expr_any h1)).mono ?_)
                        rintro E w15 ⟨hkt15, hr⟩
                        cases hs15 : expr L (qj + 1) ql with
                        | error jj =>
                          rw [hs15] at hr
                          obtain ⟨rfl, hk⟩ := hr
                          refine ⟨rfl, ?_⟩
                          rw [HSP12.out, HS14.out, bnd_ok,hs15]
                          exact ⟨rfl, hk⟩
                        | ok f =>
                          obtain ⟨p1, p2, xx, ks, hf⟩ := expr_bound hs15 (by omega)
                          have hfj : qj + 1 ≤ f.2.1 := by omega
                          have HBD15 := Lib.hid (hkt15.blk (t := 51) HBD14.out (by decide) (by decide))
                          rw [hs15] at hr
                          obtain ⟨v, rfl, ⟨b, rfl, hbr⟩, hm⟩ := hr
                          have HM15 := Lib.hid hm
                          have HS15 := Lib.hid hs15
                          clear hm HM14 hs15
                          rw [hf] at hbr p2
                          have hlen : ks.flat.length + 1 ≤ 65536 := by
                            simp only [Tr.F.flat, List.length_cons, List.length_append, List.length_nil] at p2
                            omega
                          have HCL := Lib.hid (laid_all (ks.flat.length + 1) xx ks (by omega) hbr (World.ownsRow_nil w15 w15.heap.size 42 8) (Nat.le_refl _) (by omega))
                          have HSP15 : Hid (module L i lg = bnd (bnd (want L [59] f.2.1) fun d => defs L m d f.2.2 (ds ++ [⟨by_ tx9, ex, by_ qt, xx :: ks.flat, x9, y9⟩])) (mdEnd nm x y is)) := Lib.hid (by
                            rw [HSP12.out, HS14.out, bnd_ok, HS15.out, bnd_ok, hf]
                            simp [Tr.F.flat])
                          clear HSP12 HS14 HS15 hkt15 HBD14 hbr hf p2
                          obtain ⟨ff, fj, fl⟩ := f
                          simp only at *
                          go_wp2_with fail
                          refine HCL.out.mono ?_
                          clear HCL
                          rintro E w16 ⟨v2, rfl, hown, hg, -⟩
                          have hbl : Below w15.heap.size w15 w16 := grown_below hg
                          obtain ⟨A2, c2, rfl⟩ := own_shape hown
                          rw [Nat.zero_add, List.nil_append] at hown
                          rw [show (0 + (xx :: ks.flat).length) = ks.flat.length + 1 by rw [Nat.zero_add, List.length_cons]] at *
                          have HBD16 := Lib.hid (HBD15.out.later hbl)
                          have HM17 := Lib.hid ((HM15.out.later hbl).set HBD16.out hgd HND.out 3 (.slice A2 (ks.flat.length + 1) c2))
                          have HBD17 : Hid (Blk gd #[.string (by_ tx9), .bool ex, .string (by_ qt), .slice A2 (ks.flat.length + 1) c2, .int .i64 x9, .int .i64 y9] 51 (w16.setCell ⟨gd, 3, none⟩ (.slice A2 (ks.flat.length + 1) c2))) := Lib.hid (blk_set HBD16.out 3 (.slice A2 (ks.flat.length + 1) c2))
                          have HT17 : Hid ((w16.setCell ⟨gd, 3, none⟩ (.slice A2 (ks.flat.length + 1) c2)).ownsRow w15.heap.size 42 8 (.slice A2 (ks.flat.length + 1) c2) (xx :: ks.flat).length (nfla (xx :: ks.flat))) := Lib.hid (own_keepT hown ((Keep.refl gd w16).setCell 3 _) (blkHas HBD16.out) (by decide))
                          have hK : w.heap.size ≤ w15.heap.size := HM15.out.size
                          have HFR : Hid (∀ u ∈ ts, ∀ b, u.ownBlock = some b → b < w15.heap.size) := Lib.hid fun u hu b hb => (HM15.out.defs.lt u hu b hb).1
                          have q3 := HBD16.out.cell (i := 3) rfl
                          have r3 := HBD16.out.free 3
                          clear hown hg hbl HM15 HBD15 HBD16
                          go_wp2_with fail
                          clear q3 r3
                          generalize w16.setCell ⟨gd, 3, none⟩ (.slice A2 (ks.flat.length + 1) c2) = W17 at *
                          generalize w15.heap.size = K at *
                          (refine (HM17.out.call (R := TokR L e fj) (spec := tokS (want L [59] fj) fl) (fun lv1 h1 => wants_any h1 [59])).mono ?_)
                          rintro E w18 ⟨hkt18, hr⟩
                          cases hs18 : want L [59] fj with
                          | error jj =>
                            rw [hs18] at hr
                            obtain ⟨rfl, hk⟩ := hr
                            refine ⟨rfl, ?_⟩
                            rw [HSP15.out,hs18]
                            exact ⟨rfl, hk⟩
                          | ok a18 =>
                            obtain ⟨rfl, hi18⟩ := want_inv hs18
                            have HBD18 := Lib.hid (hkt18.blk (t := 51) HBD17.out (by decide) (by decide))
                            have HT18 := Lib.hid (hkt18.own HT17.out (by decide) (by decide))
                            rw [hs18] at hr
                            obtain ⟨v, rfl, -, hm⟩ := hr
                            have HM18 := Lib.hid hm
                            have HS18 := Lib.hid hs18
                            clear hm HM17 hs18
                            have HSP18 : Hid (module L i lg = bnd (defs L m (fj + 1) fl (ds ++ [⟨by_ tx9, ex, by_ qt, xx :: ks.flat, x9, y9⟩])) (mdEnd nm x y is)) := Lib.hid (by rw [HSP15.out, HS18.out, bnd_ok])
                            clear HSP15 HS18 HBD17 HT17 hkt18
                            obtain ⟨Av, cv, rfl⟩ := own_shape HM18.out.defs.row
                            have g1 := HM18.out.box.cell (i := 2) rfl
                            have f1 := HM18.out.box.free 2
                            have y0 := HBD18.out.cell (i := 0) rfl
                            have y1 := HBD18.out.cell (i := 1) rfl
                            have y2 := HBD18.out.cell (i := 2) rfl
                            have y3 := HBD18.out.cell (i := 3) rfl
                            have y4 := HBD18.out.cell (i := 4) rfl
                            have y5 := HBD18.out.cell (i := 5) rfl
                            have hszm := HM18.out.size
                            have hoi := HM18.out.defs.row
                            go_wp2_with (at_builtin; refine append_agg_at rfl (.tmp 74) (.tmp 76) 47 51 rfl w.heap.size _ 6 80 Tryd.underlying47 pdf_info rfl (by decide) _ _ _ rfl hoi [.string (by_ tx9), .bool ex, .string (by_ qt), .slice A2 (ks.flat.length + 1) c2, .int .i64 x9, .int .i64 y9] rfl w18.heap.size rfl rfl ?_ ?_ ?_ ?_ ?_)
                            · intro z hz; simp only [List.mem_cons, List.not_mem_nil, or_false] at hz; rcases hz with rfl | rfl | rfl | rfl | rfl | rfl <;> rfl
                            · omega
                            · omega
                            · omega
                            intro v' w19 hown' hg' hb' hat
                            have b1 := blk_grownT HM18.out.box hoi hg' (own_off hoi (blkHas HM18.out.box) (by decide))
                            have e1 := b1.cell (i := 2) rfl
                            have e2 := b1.free 2
                            have HM19 := Lib.hid (HM18.out.df (d := ⟨by_ tx9, ex, by_ qt, xx :: ks.flat, x9, y9⟩) HT18.out hK HFR.out hown' hg')
                            obtain ⟨A6, c6, rfl⟩ := own_shape hown'
                            clear hown' hg' hb' hat b1 hoi y0 y1 y2 y3 y4 y5 g1 f1 HM18 HBD18 HT18 HFR
                            go_wp2_with fail
                            go_roundg m
                            case rel => exact ⟨m, fj + 1, fl, _, _, _, rfl, by omega, by omega, by rw [List.length_append, List.length_singleton]; omega, HM19, HSP18⟩
                            case measure => omega
end
end Go.Proofs.YtnhdbjhdmdefmaaDoor
