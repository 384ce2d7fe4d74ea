
/- Walks of insert: the part of the term that a part of the tree becomes. -/
import Derived.Test.YtdfadmhomjcmeaaGreatDoorPd
import Derived.Test.YtdfadmhomjcmeaaGreatDoorNw
import Derived.Test.YtdfadmhomjcmeaaGreatDoorNv
import Derived.Test.YtdfadmhomjcmeaaGreatDoorShelf
namespace Go.Proofs.YtdfadmhomjcmeaaGreatDoor
set_option linter.unusedSimpArgs false
set_option linter.unusedVariables false
open Go.RowKit Go.Maps Culp
theorem ifields_cell {w : World} {t : TypeId} {l : List (List UInt8)} {B : Nat} (hB : w.heap.size = B) : ∀ (j : Nat) (s : ByteArray), (l.map (fun l => (⟨l.toArray⟩ : ByteArray)))[j]? = some s → (w.alloc (.cells (l.map fun l => Value.string ⟨l.toArray⟩).toArray t)).cell? ⟨B, j, none⟩ = some (.string s) := by
  intro j s hj
  subst hB
  rw [World.cell?_alloc_at _ _ _ _ rfl]
  rw [List.getElem?_map, Option.map_eq_some_iff] at hj
  obtain ⟨x, hx, rfl⟩ := hj
  simp [hx]
theorem metc_21 {x : Nd} {g : Tr.Env} {q : Nat} {t : Ty} {ys : List ByteArray} {Kl : List (Nat × Ty)} (h21 : x.kind = 21) (hT : Told ys Kl) (hnode : Tr.nodeT false x g q Kl = .ok t) : Ins.MetC .dyn (Kl.map Prod.snd) := by
  have hcd : ∀ u : Ty, cons .dyn u = true ∧ meet .dyn u = u := fun u => by cases u <;> exact ⟨rfl, rfl⟩
  cases Kl with
  | nil => exact trivial
  | cons a K' =>
    obtain ⟨p0, t0⟩ := a
    have hM : Ins.MetC t0 (K'.map Prod.snd) := by
      simp [Tr.nodeT, h21] at hnode
      cases hmm : Tr.meetsT false q t0 K' with
      | error b => simp [hmm, Except.map] at hnode
      | ok r => exact Ins.meets_met hmm
    have h1 := (hT (p0, t0) (by simp)).2
    refine ⟨(hcd t0).1, ?_, ?_⟩ <;> rw [(hcd t0).2]
    · exact h1
    · exact hM
theorem wpList_val {P : Program} {ops : Array Oper} {rest : List Oper} {o : Oper} {a : Act} {Q : Exit → Act → World → Prop} {w w' : World} {v' : Value} (hgd : o.guard = none) (hr : (execOp a.eval o).run P w = .ok (.value v') w') (h : wpList P ops Q rest (a.put o.dst v') w') : wpList P ops Q (o :: rest) a w :=
  wpList_plain hgd fun K hK => by
    unfold Oper.wp
    rw [hr, Oper.upon_value]
    exact hK _ _ h
section
variable (T : List Nd) (tv : Value) (W : World) (ts : Nat → Ty) (c : Nat) (m : ByteArray) (yv : Value) (ys : List ByteArray) (n : Nat)
  (hN : Nodes W tv T) (hTl : T.length ≤ 1000000) (hm : ∀ y ∈ T, Tr.may y = true) (hSp : Sp W) (hY : Nms W yv ys) (hys : ∀ q, q < T.length → ys[q]? = some (ts q).str ∧ (ts q).fits) (hup : PartI T W ts c m tv yv n)
include hN hTl hm hSp hY hys hup
set_option maxRecDepth 100000 in
set_option maxHeartbeats 6400000 in
theorem part_step : PartI T W ts c m tv yv (n + 1) := fun x ks pre post p env N nv sv S w hh hT hp hO hty hen hnv hNl hI hSl => by
  have hx : T[p]? = some x := by rw [hT, ← hp]; simp
  have hpT : p < T.length := (List.getElem?_eq_some_iff.1 hx).1
  have hmx : Tr.may x = true := hm x (List.mem_of_getElem? hx)
  have hb1 := (Below.refl w.heap.size w).alloc (Nat.le_refl _) (.cells #[.int .i8 x.kind, .int .i64 x.kids, .int .i64 x.n, .string x.s, .string x.t, .string x.u, .int .i64 x.line, .int .i64 x.col] 38)
  have HBX : Hid (Box w.heap.size x (w.alloc (.cells #[.int .i8 x.kind, .int .i64 x.kids, .int .i64 x.n, .string x.s, .string x.t, .string x.u, .int .i64 x.line, .int .i64 x.col] 38))) := Lib.hid (MapKept.heap_alloc w _).1
  have HI1 := Lib.hid (hI.later hb1)
  have HB1 := Lib.hid hb1
  have HKD := Lib.hid (fun w' (hb : Below w.heap.size w w') => tKids_any T tv (p : Int) w' ((hN.later hI.low).later hb) hTl)
  have HKS : Hid (Tr.kidsOf T (p : Int) = ks.places (p + 1)) := Lib.hid (by have := Tr.F.kids_at hT hO; rw [hp] at this; exact this)
  have HBW := Lib.hid hI.low
  have HUP := Lib.hid hup
  have HEN := Lib.hid hen
  have HNV := Lib.hid hnv
  have HTY := Lib.hid hty
  have HMX := Lib.hid hmx
  have HX := Lib.hid hx
  have HT := Lib.hid hT
  have HP := Lib.hid hp
  have HO := Lib.hid hO
  have HYS := Lib.hid hys
  have HY := Lib.hid hY
  have HNW := Lib.hid hN
  have HSP := Lib.hid hSp
  have hcnt := Tr.F.cnt_le ks
  have hkT : 1 + ks.flat.length ≤ T.length := by rw [hT]; simp; omega
  have H82 : x.kind = 8 → ks.cnt = 2 := fun e => kid_count hmx hO (n := 2) (by rw [e]; rfl)
  have H82 := Lib.hid H82
  obtain ⟨An, Cn, rfl, hNc, -⟩ := hnv.1
  have c1 := hI.c1
  have d1 := (hI.later hb1).c1
  obtain ⟨A, C, rfl, hlc, hNN⟩ := hN.later hI.low
  obtain ⟨b, off, rfl, hM⟩ := hNN (by omega)
  obtain ⟨n0, n1, n2, n3, n4, n5, n6, n7⟩ := hM.at_ hx
  clear hM hNN hx hT hp hO hty hen hnv hI hN hm hSp hY hys hup hmx hb1
  go_enter Tryz.func27, Tryz.ntmps27
  go_wp2_with fail
  clear n0 n1 n2 n3 n4 n5 n6 n7 c1
  generalize w.alloc (.cells _ 38) = w1 at *
  refine (HKD.out _ HB1.out).mono ?_
  rintro e w4 ⟨kv, rfl, hown, hb4⟩
  rw [HKS.out, Tr.F.places_len] at hown
  obtain ⟨C0, hown⟩ : ∃ m, w4.ownsRow m 3 1 kv ks.cnt ((ks.places (p + 1)).map natV) := ⟨_, hown⟩
  obtain ⟨Ak, ck, rfl⟩ := own_shape hown
  have HB4 := Lib.hid (below_later hb4 HB1.out)
  have HL0 : Hid (PL T W ts c m (.slice (some ⟨b, off, none⟩) T.length C) yv sv S x ks post p env N (.slice An N.length Cn) w w.heap.size w4.heap.size C0 (.slice Ak ks.cnt ck) 0 ks (pre ++ [x]) [] [] sv (w4.alloc (.map #[] 0))) := Lib.hid (PL.start HT.out HP.out HO.out HTY.out (HI1.out.later hb4) HB4.out (HBX.out.later hb4) hown ((HNV.out.later HB1.out).later hb4))
  clear hown hb4 d1 HKD HKS HBX HI1 HB1 HNV
  have hmm := @run_makeMap Tryz.prog
  go_wp2_with fail
  clear hmm
  go_loopw [34] (fun i wr => ∃ (k : Nat) (f : Tr.F) (pr : List Nd) (K : List Ins.Kd) (D : List Ins.Sit) (sv1 : Value), i = .int .i64 k ∧ k + f.cnt = ks.cnt ∧ Hid (PL T W ts c m (.slice (some ⟨b, off, none⟩) T.length C) yv sv S x ks post p env N (.slice An N.length Cn) w w.heap.size w4.heap.size C0 (.slice Ak ks.cnt ck) k f pr K D sv1 wr)) (fun i _ => ks.cnt - (intOf i).toNat)
  case atStart => exact ⟨0, ks, pre ++ [x], [], [], sv, rfl, by omega, HL0⟩
  case round =>
    clear HL0 HB4
    obtain ⟨k, f, pr, K, D, sv1, rfl, hk, HL⟩ := hrel
    have x0 : wr.cell? ⟨w.heap.size, 0, none⟩ = some (.int .i8 x.kind) := HL.out.box.cell 0
    cases f with
    | nil =>
      have hkc : k = ks.cnt := by simp only [Tr.F.cnt] at hk; omega
      have HKR : Hid (Ins.insF ts ks (fun j => Ins.innerN x j N.reverse) 0 (p + 1) S.length = (K, D)) := Lib.hid (by
        have := HL.out.rest
        simp only [Ins.insF, List.append_nil] at this
        exact this)
      have HKT : Hid (K.map (fun d => (d.p, d.t)) = (ks.places (p + 1)).map fun q => (q, ts q)) := Lib.hid (by
        have := Ins.insF_types ts ks (fun j => Ins.innerN x j N.reverse) 0 (p + 1) S.length
        rw [HKR.out] at this
        exact this)
      have HKO : Hid (Ins.KOk T ts K) := Lib.hid (by
        have := Ins.insF_kok (T := T) ts ks (fun j => Ins.innerN x j N.reverse) 0 (p + 1) S.length (fun j y hj => by
          have h1 := HT.out
          have h2 := HP.out
          rw [h1, List.getElem?_append_right (by omega), show p + 1 + j - pre.length = j + 1 by omega, List.getElem?_cons_succ, List.getElem?_append_left (List.getElem?_eq_some_iff.1 hj).1]
          exact hj)
        rw [HKR.out] at this
        exact this)
      have HKP : Hid (K.map Ins.Kd.p = ks.places (p + 1)) := Lib.hid (by
        have := congrArg (List.map Prod.fst) HKT.out
        rw [List.map_map, List.map_map] at this
        exact this.trans (List.map_id' _))
      have hKl : K.length = ks.cnt := by
        have := congrArg List.length HKP.out
        rwa [List.length_map, Tr.F.places_len] at this
      have hDl : D.length ≤ 4 * ks.flat.length := by have := HL.out.few; omega
      have HSZ : Hid ((Ins.body K).length ≤ 5000000 + D.length) := Lib.hid (by
        have := Ins.size_insF ts ks (fun j => Ins.innerN x j N.reverse) 0 (p + 1) S.length
        rw [HKR.out] at this
        simp only at this
        omega)
      have HNO : Hid (∃ t, Tr.nodeT false x env p ((ks.places (p + 1)).map fun q => (q, ts q)) = .ok t) := Lib.hid HTY.out.cons.1
      subst hkc
      clear hk
      by_cases h29 : x.kind = 29
      · have e29 : (x.kind == 29) = true := by rw [h29]; rfl
        have h1 : ks.cnt = 1 := kid_count HMX.out HO.out (n := 1) (by rw [h29]; rfl)
        obtain ⟨d, rfl⟩ : ∃ d, K = [d] := List.length_eq_one_iff.1 (by omega)
        obtain ⟨T0, hT0, hfit, hnote⟩ := (may_note HMX.out).2.2 h29
        obtain ⟨y, hy1, hy2, hy3, hy4⟩ := HKO.out d List.mem_cons_self
        have hbd : Below wr.heap.size wr wr.drew := (Below.refl _ _).drew
        have HLD := Lib.hid (HL.out.later hbd)
        obtain ⟨vd, hvd, hlook⟩ := HL.out.parts.find (d := d) List.mem_cons_self Tryz.underlying117 Tryz.underlying3
        obtain ⟨gk, ck', e1, _, _, _, _, hkc⟩ := own_read HL.out.kids (by omega)
        simp only [Value.slice.injEq] at e1
        obtain ⟨rfl, _, rfl⟩ := e1
        have hpl : (ks.places (p + 1))[0]? = some d.p := by rw [← HKP.out]; rfl
        have q0 : wr.cell? ⟨gk, 0, none⟩ = some (.int .i64 (d.p : Int)) := hkc 0 _ (by rw [List.getElem?_map, hpl]; rfl)
        have x4 : wr.cell? ⟨w.heap.size, 4, none⟩ = some (.string T0.str) := by rw [← hT0]; exact HL.out.box.cell 4
        have x6 : wr.cell? ⟨w.heap.size, 6, none⟩ = some (.int .i64 x.line) := HL.out.box.cell 6
        have x7 : wr.cell? ⟨w.heap.size, 7, none⟩ = some (.int .i64 x.col) := HL.out.box.cell 7
        have c2 := HL.out.ins.c2
        have hdT : d.p < T.length := (List.getElem?_eq_some_iff.1 hy1).1
        obtain ⟨gy, Cy, rfl, yW, hyl, _⟩ := types_read HY.out (Below.refl _ _) (HYS.out d.p hdT).1
        have y0 := cell_later HL.out.ins.low yW
        obtain ⟨es, arr, clk, hmo, -⟩ := HL.out.parts.map
        have HVD := Lib.hid (hvd.later hbd)
        have HLA := Lib.hid (lay_any (pv := vd) (ts d.p) T0 x.line x.col 16 HVD.out (by
          have h3 := HSZ.out
          have h4 := Ins.mem_body (K := [d]) (d := d) List.mem_cons_self
          omega) HLD.out.ins (by rw [List.length_append]; omega))
        have HRS : Hid (∀ E w', LayRes W c m (.slice (some ⟨b, off, none⟩) T.length C) (.slice (some ⟨gy, 0, none⟩) ys.length Cy) sv1 (S ++ D) (Ins.lay d.T (ts d.p) T0 x.line x.col 16 (S ++ D).length) wr.drew E w' → LayRes W c m (.slice (some ⟨b, off, none⟩) T.length C) (.slice (some ⟨gy, 0, none⟩) ys.length Cy) sv S (Ins.ins1 ts x ks N.reverse p S.length) w E w') := Lib.hid (fun E w' h => by
          have e : Ins.ins1 ts x ks N.reverse p S.length = ((Ins.lay d.T (ts d.p) T0 x.line x.col 16 (S ++ D).length).1, D ++ (Ins.lay d.T (ts d.p) T0 x.line x.col 16 (S ++ D).length).2) := by
            unfold Ins.ins1
            rw [HKR.out]
            simp only [Ins.node]
            rw [if_pos h29, List.length_append, hnote, hy4]
          rw [e]
          exact LayRes.after HLD.out.kept HLD.out.new h)
        have hk1 : (ks.cnt : Int) = 1 := by omega
        have hpl0 := Lib.hid hpl
        have HT0 := Lib.hid hT0
        clear hkc hpl hT0 hnote hy1 hy2 hy3 hy4 hvd hdT hfit hDl hKl h29
        rw [h1]
        go_wp2_with fail
        refine wp_region_plan (S := fun w' => w'.cell? ⟨gk, 0, none⟩ = some (.int .i64 (d.p : Int)) ∧ w'.cell? ⟨w.heap.size, 4, none⟩ = some (.string T0.str) ∧ w'.cell? ⟨w.heap.size, 6, none⟩ = some (.int .i64 x.line) ∧ w'.cell? ⟨w.heap.size, 7, none⟩ = some (.int .i64 x.col) ∧ w'.cell? ⟨c, 2, none⟩ = some (.slice (some ⟨gy, 0, none⟩) ys.length Cy) ∧ w'.cell? ⟨gy, d.p, none⟩ = some (.string (ts d.p).str) ∧ (Instr.lookup 117 (.map (some w4.heap.size)) (.int .i64 (d.p : Int)) false).run Tryz.prog w' = .ok vd w') [(0, true), (1, true), (2, true), (3, true), (4, true), (5, true), (6, true), (7, true), (8, true), (9, true), (10, true), (11, true), (12, true), (13, true), (14, true), (15, true), (16, true), (17, true), (18, true), (19, false), (20, true)] (by kernel_rfl) (by kernel_rfl) (by kernel_rfl) (fun _ _ _ _ _ h => h) ⟨q0, x4, x6, x7, c2, y0, hlook _ rfl⟩ ?_
        intro HS
        repeat (first | (apply wpPlan_look; rfl; rfl; (intro wq hq; (try dsimp only at hq); go_split_ands; go_simp; (try rw [if_neg (by omega)]); (try rw [if_pos (by omega)]); try with_reducible rfl); simp only [Act.put, List.setIfInBounds_toArray, List.set_cons_zero, List.set_cons_succ]) | (apply wpPlan_skip; rfl; rfl; simp only [Act.put, List.setIfInBounds_toArray, List.set_cons_zero, List.set_cons_succ]) | (apply wpPlan_pass; rfl; rfl; assumption; simp only [Act.put, List.setIfInBounds_toArray, List.set_cons_zero, List.set_cons_succ]))
        apply wpPlan_call; rfl; rfl; rfl; rfl; kernel_rfl; exact HLA.out; rfl; rintro E w7 hres
        have HRZ := Lib.hid (HRS.out _ _ hres)
        obtain ⟨v7, sv7, rfl, hv7, hI7, hK7, hN7⟩ := hres
        have hm7 := (HLD.out.ins.other hK7 (show wr.drew.heap[w4.heap.size]? = _ from hmo) (fun cs e => by cases e) (fun cs e => by cases e)).trans hmo.symm
        have hb7 := HLD.out.ins.boxed hK7 HLD.out.box
        refine ⟨v7, rfl, as_S ⟨(own_get (HLD.out.ins.row hK7 HLD.out.kids (by decide) (by decide)) (i := 0) (by rw [List.getElem?_map, hpl0.out]; rfl)).1, by rw [← HT0.out]; exact hb7.cell 4, hb7.cell 6, hb7.cell 7, hI7.c2, cell_later hI7.low yW, hlook _ hm7⟩ ?_⟩
        intro _
        clear hv7 hI7 hK7 hN7 hm7 hb7 HS q0 x4 x6 x7 c2 y0 yW hlook hmo HLA HRS HVD HLD HL
        simp only [Act.put, List.setIfInBounds_toArray, List.set_cons_zero, List.set_cons_succ]
        repeat (first | (apply wpPlan_look; rfl; rfl; (intro wq hq; (try dsimp only at hq); go_split_ands; go_simp; (try rw [if_neg (by omega)]); (try rw [if_pos (by omega)]); try with_reducible rfl); simp only [Act.put, List.setIfInBounds_toArray, List.set_cons_zero, List.set_cons_succ]) | (apply wpPlan_skip; rfl; rfl; simp only [Act.put, List.setIfInBounds_toArray, List.set_cons_zero, List.set_cons_succ]) | (apply wpPlan_pass; rfl; rfl; assumption; simp only [Act.put, List.setIfInBounds_toArray, List.set_cons_zero, List.set_cons_succ]))
        apply wpPlan_done
        go_wp2_with fail
        go_ret
        exact HRZ.out
      · have e29 : (x.kind == 29) = false := beq_no h29
        have hKV := kids_v (c := c) HL.out.kids (fun cur hc => by
          rw [HL.out.ins.box] at hc
          simp only [Option.some.injEq, Obj.cells.injEq] at hc
          exact absurd hc.2.1 (by decide))
        obtain ⟨t1, hno⟩ := HNO.out
        have hfst : (K.map fun d => (d.p, d.t)).map Prod.fst = ks.places (p + 1) := by rw [← HKP.out, List.map_map]; rfl
        have hsnd : (K.map fun d => (d.p, d.t)).map Prod.snd = K.map Ins.Kd.t := by rw [List.map_map]; rfl
        have hxk : (ks.cnt : Int) = x.kids := HO.out.1
        have hkd : KidsV c wr (.slice Ak ks.cnt ck) ((K.map fun d => (d.p, d.t)).map Prod.fst) ∨ ((K.map fun d => (d.p, d.t)) = [] ∧ ∃ A C, Value.slice Ak ks.cnt ck = .slice A 0 C) := by
          rw [hfst]
          by_cases hP : ks.places (p + 1) = []
          · refine .inr ⟨?_, hKV.2 hP⟩
            rw [HKT.out, hP]; rfl
          · exact .inl (hKV.1 hP)
        have hTold : Told ys (K.map fun d => (d.p, d.t)) := fun a ha => by
          obtain ⟨d, hd, rfl⟩ := List.mem_map.1 ha
          obtain ⟨y, hy1, _, _, hy4⟩ := HKO.out d hd
          have := HYS.out d.p (List.getElem?_eq_some_iff.1 hy1).1
          rw [hy4] at this
          exact this
        have HWI := Lib.hid (wishes_any (Kl := K.map fun d => (d.p, d.t)) (q := p) (g := env) (t := t1) HX.out HNW.out hTl HL.out.ins HMX.out h29 hTold (by rw [List.length_map]; omega) HY.out (by rw [List.length_map, hKl]; exact hxk) hkd (by rw [HKT.out]; exact hno))
        rw [hfst, hsnd] at HWI
        have HIX : Hid (∀ w ∈ Ins.wishes x (K.map Ins.Kd.t), w.1 < K.length) := Lib.hid (fun w hw => by
          have := Ins.wish_idx HMX.out (L := K.map Ins.Kd.t) (by rw [List.length_map, hKl]; exact hxk) w hw
          rwa [List.length_map] at this)
        have hLl := Ins.wishes_len x (K.map Ins.Kd.t)
        rw [List.length_map] at hLl
        have HTO := Lib.hid hTold
        have HMC : Hid (x.kind = 21 → Ins.MetC .dyn ((K.map fun d => (d.p, d.t)).map Prod.snd)) := Lib.hid (fun h21 => metc_21 h21 hTold (by rw [HKT.out]; exact hno))
        have HFS := Lib.hid hfst
        have HSN := Lib.hid hsnd
        have HI1 : Hid (∀ R, (Ins.layAll (Ins.wishes x (K.map Ins.Kd.t)) K (S.length + D.length)) = R → Ins.ins1 ts x ks N.reverse p S.length = (Ins.bare x N.reverse (K.map Ins.Kd.t) :: Ins.body R.1, D ++ R.2)) := Lib.hid (fun R hR => by
          unfold Ins.ins1
          rw [HKR.out]
          simp only [Ins.node]
          rw [if_neg h29, hR]
          rfl)
        have HDL := Lib.hid hDl
        clear hfst hsnd hKV hno hkd hTold hDl h29 HKR HNO
        go_wp2_with fail
        refine HWI.out.mono ?_
        rintro E w5 ⟨vw, rfl, hown5, hb5⟩
        obtain ⟨Aw, Cw, rfl⟩ := own_shape hown5
        obtain ⟨Bw, hown5⟩ : ∃ B, w5.ownsRow B 123 3 (.slice Aw (Ins.wishes x (K.map Ins.Kd.t)).length Cw) (Ins.wishes x (K.map Ins.Kd.t)).length ((Ins.wishes x (K.map Ins.Kd.t)).flatMap (wcells (ks.places (p + 1)))) := ⟨_, hown5⟩
        have HL5 := Lib.hid (HL.out.later hb5)
        obtain ⟨L, hL⟩ : ∃ L, L = Ins.wishes x (K.map Ins.Kd.t) := ⟨_, rfl⟩
        rw [← hL] at hown5 HIX hLl HI1
        have HW0 : Hid (WL T W ts c m (.slice (some ⟨b, off, none⟩) T.length C) yv sv S x ks p N (.slice An N.length Cn) w w.heap.size w4.heap.size C0 (.slice Ak ks.cnt ck) L K D (.slice Aw L.length Cw) Bw 0 K D sv1 w5) := Lib.hid {
          rest1 := by rw [List.drop_zero]
          rest2 := by rw [List.drop_zero]
          pls := HKP.out
          tys := rfl
          kok := HKO.out
          size := HSZ.out
          few := Nat.le_refl _
          ins := HL5.out.ins
          kept := HL5.out.kept
          new := HL5.out.new
          parts := HL5.out.parts
          box := HL5.out.box
          kids := HL5.out.kids
          names := HL5.out.names
          rnew := HL5.out.rnew
          wish := hown5 }
        rw [← hL]
        have HLE := Lib.hid hL
        clear hown5 hb5 HL5 HL HWI x0 HKO HSZ HKP hxk hL
        go_wp2_with fail
        go_loopw [102] (fun i w' => ∃ (j : Nat) (Kj : List Ins.Kd) (Dj : List Ins.Sit) (svj : Value), i = .int .i64 j ∧ j ≤ L.length ∧ Hid (WL T W ts c m (.slice (some ⟨b, off, none⟩) T.length C) yv sv S x ks p N (.slice An N.length Cn) w w.heap.size w4.heap.size C0 (.slice Ak ks.cnt ck) L K D (.slice Aw L.length Cw) Bw j Kj Dj svj w')) (fun i _ => L.length - (intOf i).toNat)
        case atStart => exact ⟨0, K, D, sv1, rfl, by omega, HW0⟩
        case round =>
          clear HW0
          obtain ⟨j, Kj, Dj, svj, rfl, hj, HWL⟩ := hrel
          have hKj : Kj.length = K.length := by
            have := congrArg List.length HWL.out.pls
            rw [List.length_map, Tr.F.places_len] at this
            omega
          by_cases hlt : j < L.length
          · obtain ⟨⟨i, t, r0⟩, hji⟩ : ∃ x, L[j]? = some x := ⟨_, List.getElem?_eq_getElem hlt⟩
            obtain ⟨d, hd, hgd, hdm⟩ := HWL.out.kid (t := t) (r0 := r0) (i := i) (by have := HIX.out _ (List.mem_of_getElem? hji); rw [hKj]; exact this)
            obtain ⟨gw, rfl, t0, t1, t2⟩ := wishes_row HWL.out.wish hji
            simp only at t0 t1 t2
            rw [hgd] at t0
            obtain ⟨y, hy1, hy2, hy3, hy4⟩ := HWL.out.kok d hdm
            have hb6 : Below wr.heap.size wr (wr.alloc (.cells #[.int .i64 (d.p : Int), .string t.str, .int .i64 r0] 123)) := (Below.refl _ _).alloc (Nat.le_refl _) _
            have HW6 := Lib.hid (HWL.out.later hb6)
            have HX6 : Hid ((wr.alloc (.cells #[.int .i64 (d.p : Int), .string t.str, .int .i64 r0] 123)).heap[wr.heap.size]? = some (.cells #[.int .i64 (d.p : Int), .string t.str, .int .i64 r0] 123 (0, 0))) := Lib.hid (MapKept.heap_alloc wr _).1
            clear hb6 HWL hgd
            obtain ⟨vd, hvd, hlook⟩ := HW6.out.parts.find hdm Tryz.underlying117 Tryz.underlying3
            obtain ⟨es, arr, clk, hmo, -⟩ := HW6.out.parts.map
            have hdT : d.p < T.length := (List.getElem?_eq_some_iff.1 hy1).1
            obtain ⟨gy, Cy, rfl, yW, hyl, _⟩ := types_read HY.out (Below.refl _ _) (HYS.out d.p hdT).1
            rw [hy4] at yW
            obtain ⟨A', C', e', _, hNN⟩ := HNW.out
            simp only [Value.slice.injEq] at e'
            obtain ⟨rfl, _, rfl⟩ := e'
            obtain ⟨b', off', e2, hM⟩ := hNN (by omega)
            simp only [Option.some.injEq, Addr.mk.injEq] at e2
            obtain ⟨rfl, rfl, _⟩ := e2
            obtain ⟨-, -, -, -, -, -, nW6, nW7⟩ := hM.at_ hy1
            rw [hy2] at nW6
            rw [hy3] at nW7
            clear hNN hM hy1 hy2 hy3 hy4
            have hbd : Below (wr.alloc (.cells #[.int .i64 (d.p : Int), .string t.str, .int .i64 r0] 123)).heap.size (wr.alloc (.cells #[.int .i64 (d.p : Int), .string t.str, .int .i64 r0] 123)) (wr.alloc (.cells #[.int .i64 (d.p : Int), .string t.str, .int .i64 r0] 123)).drew := (Below.refl _ _).drew
            have HWD := Lib.hid (HW6.out.later hbd)
            have HLA := Lib.hid (lay_any (pv := vd) d.t t d.l d.c r0 (hvd.later hbd) (by
              have h3 := HW6.out.size
              have h4 := Ins.mem_body hdm
              have h5 := HW6.out.few
              have h6 := HDL.out
              omega) HWD.out.ins (by
              have h5 := HW6.out.few
              have h6 := HDL.out
              rw [List.length_append]; omega))
            have HDI := Lib.hid hd
            have HJI := Lib.hid hji
            clear hvd hbd hd hji hdm
            go_wp2_with fail
            generalize wr.alloc (.cells #[.int .i64 (d.p : Int), .string t.str, .int .i64 r0] 123) = w6 at *
            have s0 : w6.cell? ⟨wr.heap.size, 0, none⟩ = some (.int .i64 (d.p : Int)) := by simp [World.cell?, HX6.out]
            have s1 : w6.cell? ⟨wr.heap.size, 1, none⟩ = some (.string t.str) := by simp [World.cell?, HX6.out]
            have s2 : w6.cell? ⟨wr.heap.size, 2, none⟩ = some (.int .i64 r0) := by simp [World.cell?, HX6.out]
            have y0 := cell_later HW6.out.ins.low yW
            have n6 := cell_later HW6.out.ins.low nW6
            have n7 := cell_later HW6.out.ins.low nW7
            have c1 := HW6.out.ins.c1
            have c2 := HW6.out.ins.c2
            have hk0 := hlook w6 rfl
            refine wp_region_last (S := fun w' => w'.cell? ⟨wr.heap.size, 0, none⟩ = some (.int .i64 (d.p : Int)) ∧ w'.cell? ⟨wr.heap.size, 1, none⟩ = some (.string t.str) ∧ w'.cell? ⟨wr.heap.size, 2, none⟩ = some (.int .i64 r0) ∧ w'.cell? ⟨c, 1, none⟩ = some (.slice (some ⟨b, off, none⟩) T.length C) ∧ w'.cell? ⟨c, 2, none⟩ = some (.slice (some ⟨gy, 0, none⟩) ys.length Cy) ∧ w'.cell? ⟨gy, d.p, none⟩ = some (.string d.t.str) ∧ w'.cell? ⟨b, off + d.p * 8 + 6, none⟩ = some (.int .i64 d.l) ∧ w'.cell? ⟨b, off + d.p * 8 + 7, none⟩ = some (.int .i64 d.c) ∧ (Instr.lookup 117 (.map (some w4.heap.size)) (.int .i64 (d.p : Int)) false).run Tryz.prog w' = .ok vd w') 30 [(0, true), (1, true), (2, true), (3, true), (4, true), (5, true), (6, true), (7, true), (8, true), (9, true), (10, true), (11, true), (12, true), (13, true), (14, true), (15, true), (16, true), (17, true), (18, true), (19, true), (20, true), (21, true), (22, true), (23, true), (24, true), (25, true), (26, true), (27, true), (28, true), (29, false)] (by kernel_rfl) (by kernel_rfl) (by kernel_rfl) (fun _ _ _ _ _ h => h) ⟨s0, s1, s2, c1, c2, y0, n6, n7, hlook _ rfl⟩ ?_
            intro HS
            repeat (first | (apply wpPlan_look; rfl; rfl; (intro wq hq; (try dsimp only at hq); go_split_ands; go_simp; (try rw [if_neg (by omega)]); (try rw [if_pos (by omega)]); try with_reducible rfl); simp only [Act.put, List.setIfInBounds_toArray, List.set_cons_zero, List.set_cons_succ]) | (apply wpPlan_skip; rfl; rfl; simp only [Act.put, List.setIfInBounds_toArray, List.set_cons_zero, List.set_cons_succ]) | (apply wpPlan_pass; rfl; rfl; assumption; simp only [Act.put, List.setIfInBounds_toArray, List.set_cons_zero, List.set_cons_succ]))
            apply wpPlan_call; rfl; rfl; rfl; rfl; kernel_rfl; exact HLA.out; rfl; rintro E w7 hres
            obtain ⟨v7, rfl⟩ : ∃ v, E = .returned v := by obtain ⟨v, _, e, _⟩ := hres; exact ⟨v, e⟩
            rw [List.length_append] at hres
            obtain ⟨w8, K2, D2, sv2, hrun8, hWL8⟩ := HWD.out.step HBW.out HJI.out HDI.out hres Tryz.underlying117 Tryz.underlying3
            have HW8 := Lib.hid hWL8
            obtain ⟨_, sv7, _, hv7, hI7, hK7, hN7⟩ := hres
            have hm7 := (HWD.out.ins.other hK7 (show w6.drew.heap[w4.heap.size]? = _ from hmo) (fun cs e => by cases e) (fun cs e => by cases e)).trans hmo.symm
            have hx7 := HWD.out.ins.blk hK7 (show w6.drew.heap[wr.heap.size]? = _ from HX6.out) (by decide) (by decide)
            refine ⟨v7, rfl, as_S ⟨by simp [World.cell?, hx7], by simp [World.cell?, hx7], by simp [World.cell?, hx7], hI7.c1, hI7.c2, cell_later hI7.low yW, cell_later hI7.low nW6, cell_later hI7.low nW7, hlook _ hm7⟩ ?_⟩
            intro _
            clear hv7 hI7 hK7 hN7 hm7 hx7 hWL8 HS s0 s1 s2 c1 c2 y0 n6 n7 yW nW6 nW7 hlook hmo hk0 HLA HWD HW6 HX6 HDI HJI t0 t1 t2
            simp only [Act.put, List.setIfInBounds_toArray, List.set_cons_zero, List.set_cons_succ]
            repeat (first | (apply wpPlan_look; rfl; rfl; (intro wq hq; (try dsimp only at hq); go_split_ands; go_simp; (try rw [if_neg (by omega)]); (try rw [if_pos (by omega)]); try with_reducible rfl); simp only [Act.put, List.setIfInBounds_toArray, List.set_cons_zero, List.set_cons_succ]) | (apply wpPlan_skip; rfl; rfl; simp only [Act.put, List.setIfInBounds_toArray, List.set_cons_zero, List.set_cons_succ]) | (apply wpPlan_pass; rfl; rfl; assumption; simp only [Act.put, List.setIfInBounds_toArray, List.set_cons_zero, List.set_cons_succ]))
            refine wpPlan_last_run0 (w' := w8) rfl rfl (by simp [execOp, go_sem, hrun8]) ?_
            clear hrun8
            go_wp2_with fail
            go_roundw
            case rel => exact ⟨j + 1, K2, D2, sv2, by go_num, by omega, HW8⟩
            case measure => simp [intOf]; omega
          · obtain rfl : j = L.length := by omega
            have HR2 : Hid (Ins.ins1 ts x ks N.reverse p S.length = (Ins.bare x N.reverse (K.map Ins.Kd.t) :: Ins.body Kj, Dj)) := Lib.hid (by
              have h1 := HWL.out.rest1
              have h2 := HWL.out.rest2
              rw [List.drop_length] at h1 h2
              rw [HI1.out _ rfl, h1, h2]
              simp [Ins.layAll])
            have hKV := kids_v (c := c) HWL.out.kids (fun cur hc => by
              rw [HWL.out.ins.box] at hc
              simp only [Option.some.injEq, Obj.cells.injEq] at hc
              exact absurd hc.2.1 (by decide))
            have hkd : KidsV c wr (.slice Ak ks.cnt ck) ((K.map fun d => (d.p, d.t)).map Prod.fst) ∨ ((K.map fun d => (d.p, d.t)) = [] ∧ ∃ A C, Value.slice Ak ks.cnt ck = .slice A 0 C) := by
              rw [HFS.out]
              by_cases hP : ks.places (p + 1) = []
              · refine .inr ⟨?_, hKV.2 hP⟩
                rw [HKT.out, hP]; rfl
              · exact .inl (hKV.1 hP)
            have HBA := Lib.hid (bare_any (Kl := K.map fun d => (d.p, d.t)) HX.out HNW.out hTl HWL.out.ins N HWL.out.names.1 (by omega) (may_note HMX.out).1 (may_note HMX.out).2.1 (fun _ => hkd) HTO.out HMC.out (by rw [List.length_map]; omega) HY.out)
            rw [HSN.out] at HBA
            obtain ⟨y, hy⟩ : ∃ y, y = Ins.bare x N.reverse (K.map Ins.Kd.t) := ⟨_, rfl⟩
            rw [← hy] at HBA HR2
            clear hy hKV hkd hlt HTO HMC HI1 HIX
            go_wp2_with fail
            refine HBA.out.mono ?_
            rintro E w6 ⟨he, hb6⟩
            obtain rfl : E = .returned (.agg #[.int .i8 y.kind, .int .i64 y.kids, .int .i64 y.n, .string y.s, .string y.t, .string y.u, .int .i64 y.line, .int .i64 y.col]) := he
            have HW6 := Lib.hid (HWL.out.later hb6)
            have hb7 : Below w6.heap.size w6 (w6.alloc (.cells #[.int .i8 y.kind, .int .i64 y.kids, .int .i64 y.n, .string y.s, .string y.t, .string y.u, .int .i64 y.line, .int .i64 y.col] 38)) := (Below.refl _ _).alloc (Nat.le_refl _) _
            have HB7 := Lib.hid hb7
            have HO7 : Hid ((w6.alloc (.cells #[.int .i8 y.kind, .int .i64 y.kids, .int .i64 y.n, .string y.s, .string y.t, .string y.u, .int .i64 y.line, .int .i64 y.col] 38)).ownsRow w6.heap.size 38 8 (.slice (some ⟨w6.heap.size, 0, none⟩) 1 1) (1 + (Ins.body (Kj.take 0)).length) (nfl (y :: Ins.body (Kj.take 0)))) := Lib.hid (own_one (w := w6) y (Nat.le_refl _))
            clear hb6 hb7 HBA HWL
            go_wp2_with fail
            generalize w6.alloc (.cells #[.int .i8 y.kind, .int .i64 y.kids, .int .i64 y.n, .string y.s, .string y.t, .string y.u, .int .i64 y.line, .int .i64 y.col] 38) = w7 at *
            go_loopw [15, 145] (fun o i w' => ∃ (j : Nat) (u : Value), u = o ∧ i = .int .i64 j ∧ j ≤ ks.cnt ∧ Hid (w'.ownsRow w6.heap.size 38 8 u (1 + (Ins.body (Kj.take j)).length) (nfl (y :: Ins.body (Kj.take j)))) ∧ Hid (Below w6.heap.size w6 w')) (fun _ i _ => ks.cnt - (intOf i).toNat)
            case atStart => exact ⟨0, _, rfl, rfl, by omega, HO7, HB7⟩
            case round =>
              clear HO7 HB7
              obtain ⟨j, u, rfl, rfl, hj3, HO, HB⟩ := hrel
              have HWR := Lib.hid (HW6.out.later HB.out)
              by_cases hlt : j < ks.cnt
              · obtain ⟨d, hd⟩ : ∃ d, Kj[j]? = some d := ⟨_, List.getElem?_eq_getElem (by omega)⟩
                obtain ⟨gk, ck', e1, _, _, _, _, hkc⟩ := own_read HWR.out.kids (by omega)
                simp only [Value.slice.injEq] at e1
                obtain ⟨rfl, _, rfl⟩ := e1
                have q0 : wr.cell? ⟨gk, j, none⟩ = some (.int .i64 (d.p : Int)) := hkc j _ (by
                  rw [← HWR.out.pls, List.getElem?_map, List.getElem?_map, hd]; rfl)
                obtain ⟨vd, hvd, hlook⟩ := HWR.out.parts.find (List.mem_of_getElem? hd) Tryz.underlying117 Tryz.underlying3
                have hbt := Ins.body_take hd
                have hsz : (Ins.body (Kj.take (j + 1))).length ≤ 50000000 := by
                  have h3 := HWR.out.size
                  have h4 := Ins.body_take_le Kj (j + 1)
                  have h5 := HWR.out.few
                  have h6 := HDL.out
                  omega
                have hln : (Ins.body (Kj.take (j + 1))).length = (Ins.body (Kj.take j)).length + d.T.length := by rw [hbt, List.length_append]
                obtain ⟨v8, w8, hrun, hown8, hg8, _⟩ := run_append_part (t := 22) (ty := 22) Tryz.underlying22 HO.out hvd (by omega) HB.out.size
                have HO8 : Hid (w8.ownsRow w6.heap.size 38 8 v8 (1 + (Ins.body (Kj.take (j + 1))).length) (nfl (y :: Ins.body (Kj.take (j + 1))))) := Lib.hid (by
                  rw [hln, ← Nat.add_assoc, hbt]
                  have e : nfl (y :: (Ins.body (Kj.take j) ++ d.T)) = nfl (y :: Ins.body (Kj.take j)) ++ nfl d.T := by rw [← List.cons_append, nfl_app]
                  rw [e]
                  exact hown8)
                have HB8 : Hid (Below w6.heap.size w6 w8) := Lib.hid (HB.out.grown hg8 HB.out.size fun k hk => (HO.out.lt k hk).1)
                clear hkc hd hvd hbt hsz hln hown8 hg8
                go_wp2_with (first | (refine wpList_lookup_run rfl (.tmp 150) (.tmp 151) 117 rfl _ _ _ rfl rfl (hlook _ rfl) ?_) | (at_builtin; refine wpList_val rfl (exec_append rfl rfl rfl rfl hrun) ?_))
                go_roundw
                case rel => exact ⟨j + 1, v8, rfl, by go_num, by omega, HO8, HB8⟩
                case measure => simp [intOf]; omega
              · have HRS : Hid (LayRes W c m (.slice (some ⟨b, off, none⟩) T.length C) yv sv S (Ins.ins1 ts x ks N.reverse p S.length) w (.returned u) wr) := Lib.hid (by
                  rw [HR2.out]
                  refine ⟨u, svj, rfl, ?_, HWR.out.ins, HWR.out.kept, HWR.out.new⟩
                  have h1 := own_base HO.out HW6.out.ins.low.size
                  have h2 : Kj.take j = Kj := List.take_of_length_le (by omega)
                  rw [h2, Nat.add_comm] at h1
                  exact h1)
                clear HO HB HWR HW6
                go_wp2_with fail
                go_ret
                exact HRS.out
    | cons y ky f =>
      simp only [Tr.F.cnt] at hk
      obtain ⟨gk, ck', e1, _, _, _, _, hkc⟩ := own_read HL.out.kids (by omega)
      simp only [Value.slice.injEq] at e1
      obtain ⟨rfl, _, rfl⟩ := e1
      have q0 : wr.cell? ⟨gk, k, none⟩ = some (.int .i64 (pr.length : Int)) := hkc k _ (by
        have h1 : (ks.places (p + 1))[k]? = some pr.length := (HL.out.places 0).symm
        rw [List.getElem?_map, h1]; rfl)
      clear hkc
      by_cases hbd : x.kind = 5 ∨ x.kind = 6 ∨ (x.kind = 8 ∧ k = 1)
      · have HF := Lib.hid (Ins.fldk_of (k := k) HMX.out hbd)
        have x3 : wr.cell? ⟨w.heap.size, 3, none⟩ = some (.string x.s) := HL.out.box.cell 3
        have HSF := Lib.hid (Tryz.strings_Fields x.s wr (by have := HF.out.size; omega) HF.out.ascii (HSP.out.later HL.out.ins.low))
        have hb5 : Below wr.heap.size wr (wr.alloc (.cells ((Lib.fields x.s.data.toList).map fun l => Value.string ⟨l.toArray⟩).toArray 9)) := (Below.refl _ _).alloc (Nat.le_refl _) _
        have hfl := HF.out.len
        obtain ⟨v5, w5, hrun5, hown5, hg5⟩ := run_append_txts (P := Tryz.prog) (t := 24) (ty := 24) (e := 9) Tryz.underlying24 strings_info rfl (HL.out.names.1.later hb5) wr.heap.size (Lib.fields x.s.data.toList).length (Lib.fields x.s.data.toList).length ((Lib.fields x.s.data.toList).map (fun l => (⟨l.toArray⟩ : ByteArray))) (by rw [List.length_map]) hfl.1 (ifields_cell rfl) (by omega) (by omega)
        rw [HF.out.eq] at hown5
        have hb6 : Below wr.heap.size wr w5 := hb5.grown hg5 hb5.size fun k hk => by cases hk
        have HL5 := Lib.hid (HL.out.later hb6)
        have HIV : Hid (NamesV W w5 v5 (N ++ Tr.binds x k)) := Lib.hid (NamesV.own hown5)
        obtain ⟨A5, c5, rfl⟩ := own_shape hown5
        clear hown5 hg5 hb5 hb6 hfl HF
        rcases hbd with h5 | h6 | ⟨h8, h1⟩
        · have e5 : (x.kind == 5) = true := by rw [h5]; rfl
          have e6 : (x.kind == 6) = false := by rw [h5]; rfl
          have e8 : (x.kind == 8) = false := by rw [h5]; rfl
          clear h5
          go_wp2_with fail
          refine HSF.out.mono ?_
          rintro E w6 ⟨rfl, rfl⟩
          go_wp2_with (at_builtin; refine wpList_val rfl (exec_append rfl rfl rfl rfl hrun5) ?_)
          refine (HL5.out.kid HUP.out hh HEN.out H82.out hNl hSl HIV.out).mono ?_
          rintro E w7 hres
          obtain ⟨v7, rfl⟩ : ∃ v, E = .returned v := by obtain ⟨v, _, e, _⟩ := hres; exact ⟨v, e⟩
          obtain ⟨w8, K2, D2, sv2, hrun8, hPL8⟩ := HL5.out.step HBW.out hres Tryz.underlying117 Tryz.underlying3
          have HL8 := Lib.hid hPL8
          clear hres hPL8 HIV
          go_wp2_with (refine wpList_insert_run rfl (.tmp 67) (.tmp 68) (.tmp 72) 117 rfl _ _ _ rfl rfl rfl hrun8 ?_)
          go_roundw
          case rel => exact ⟨k + 1, f, _, K2, D2, sv2, by go_num, by omega, HL8⟩
          case measure => simp [intOf]; omega
        · have e5 : (x.kind == 5) = false := by rw [h6]; rfl
          have e6 : (x.kind == 6) = true := by rw [h6]; rfl
          have e8 : (x.kind == 8) = false := by rw [h6]; rfl
          clear h6
          go_wp2_with fail
          refine HSF.out.mono ?_
          rintro E w6 ⟨rfl, rfl⟩
          go_wp2_with (at_builtin; refine wpList_val rfl (exec_append rfl rfl rfl rfl hrun5) ?_)
          refine (HL5.out.kid HUP.out hh HEN.out H82.out hNl hSl HIV.out).mono ?_
          rintro E w7 hres
          obtain ⟨v7, rfl⟩ : ∃ v, E = .returned v := by obtain ⟨v, _, e, _⟩ := hres; exact ⟨v, e⟩
          obtain ⟨w8, K2, D2, sv2, hrun8, hPL8⟩ := HL5.out.step HBW.out hres Tryz.underlying117 Tryz.underlying3
          have HL8 := Lib.hid hPL8
          clear hres hPL8 HIV
          go_wp2_with (refine wpList_insert_run rfl (.tmp 67) (.tmp 68) (.tmp 72) 117 rfl _ _ _ rfl rfl rfl hrun8 ?_)
          go_roundw
          case rel => exact ⟨k + 1, f, _, K2, D2, sv2, by go_num, by omega, HL8⟩
          case measure => simp [intOf]; omega
        · have e5 : (x.kind == 5) = false := by rw [h8]; rfl
          have e6 : (x.kind == 6) = false := by rw [h8]; rfl
          have e8 : (x.kind == 8) = true := by rw [h8]; rfl
          have ek : ((k : Int) == 1) = true := by rw [h1]; rfl
          clear h8 h1
          go_wp2_with fail
          refine HSF.out.mono ?_
          rintro E w6 ⟨rfl, rfl⟩
          go_wp2_with (at_builtin; refine wpList_val rfl (exec_append rfl rfl rfl rfl hrun5) ?_)
          refine (HL5.out.kid HUP.out hh HEN.out H82.out hNl hSl HIV.out).mono ?_
          rintro E w7 hres
          obtain ⟨v7, rfl⟩ : ∃ v, E = .returned v := by obtain ⟨v, _, e, _⟩ := hres; exact ⟨v, e⟩
          obtain ⟨w8, K2, D2, sv2, hrun8, hPL8⟩ := HL5.out.step HBW.out hres Tryz.underlying117 Tryz.underlying3
          have HL8 := Lib.hid hPL8
          clear hres hPL8 HIV
          go_wp2_with (refine wpList_insert_run rfl (.tmp 67) (.tmp 68) (.tmp 72) 117 rfl _ _ _ rfl rfl rfl hrun8 ?_)
          go_roundw
          case rel => exact ⟨k + 1, f, _, K2, D2, sv2, by go_num, by omega, HL8⟩
          case measure => simp [intOf]; omega
      · have HBN : Hid (Tr.binds x k = []) := Lib.hid (by
          unfold Tr.binds
          rw [if_neg (by omega), if_neg (by omega), if_neg (by omega)])
        have HIV : Hid (NamesV W wr (.slice An N.length N.length) (N ++ Tr.binds x k)) := Lib.hid (by
          rw [HBN.out, List.append_nil]
          exact HL.out.names.full)
        have e5 : (x.kind == 5) = false := beq_no (by omega)
        have e6 : (x.kind == 6) = false := beq_no (by omega)
        clear HBN
        by_cases h8 : x.kind = 8
        · have e8 : (x.kind == 8) = true := by rw [h8]; rfl
          have ek : ((k : Int) == 1) = false := beq_eq_false_iff_ne.2 (by omega)
          clear hbd h8
          go_wp2_with fail
          refine (HL.out.kid HUP.out hh HEN.out H82.out hNl hSl HIV.out).mono ?_
          rintro E w7 hres
          obtain ⟨v7, rfl⟩ : ∃ v, E = .returned v := by obtain ⟨v, _, e, _⟩ := hres; exact ⟨v, e⟩
          obtain ⟨w8, K2, D2, sv2, hrun8, hPL8⟩ := HL.out.step HBW.out hres Tryz.underlying117 Tryz.underlying3
          have HL8 := Lib.hid hPL8
          clear hres hPL8 HIV
          go_wp2_with (refine wpList_insert_run rfl (.tmp 67) (.tmp 68) (.tmp 72) 117 rfl _ _ _ rfl rfl rfl hrun8 ?_)
          go_roundw
          case rel => exact ⟨k + 1, f, _, K2, D2, sv2, by go_num, by omega, HL8⟩
          case measure => simp [intOf]; omega
        · have e8 : (x.kind == 8) = false := beq_no h8
          clear hbd h8
          go_wp2_with fail
          refine (HL.out.kid HUP.out hh HEN.out H82.out hNl hSl HIV.out).mono ?_
          rintro E w7 hres
          obtain ⟨v7, rfl⟩ : ∃ v, E = .returned v := by obtain ⟨v, _, e, _⟩ := hres; exact ⟨v, e⟩
          obtain ⟨w8, K2, D2, sv2, hrun8, hPL8⟩ := HL.out.step HBW.out hres Tryz.underlying117 Tryz.underlying3
          have HL8 := Lib.hid hPL8
          clear hres hPL8 HIV
          go_wp2_with (refine wpList_insert_run rfl (.tmp 67) (.tmp 68) (.tmp 72) 117 rfl _ _ _ rfl rfl rfl hrun8 ?_)
          go_roundw
          case rel => exact ⟨k + 1, f, _, K2, D2, sv2, by go_num, by omega, HL8⟩
          case measure => simp [intOf]; omega
end
end Go.Proofs.YtdfadmhomjcmeaaGreatDoor
