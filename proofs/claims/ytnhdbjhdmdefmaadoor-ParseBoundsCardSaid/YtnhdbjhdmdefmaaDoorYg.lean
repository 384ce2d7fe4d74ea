
/- Walks of parse: Modules. -/
import Derived.Test.YtnhdbjhdmdefmaaDoorYe
namespace Culp.Gr
set_option linter.unusedSimpArgs false
set_option linter.unusedVariables false
open Go Go.RowKit Culp Culp.Tr Go.Proofs.YtnhdbjhdmdefmaaDoor
section
variable {H n sz : Nat} {w : World} {v : Value} {t : TypeId} {xs : List Value}
theorem rows_own {α : Type} {R : World → α → List Value → Prop} {l : List α} (h : w.ownsRow H t sz v n xs) (hn : n = l.length) (hR : ∀ i x, l[i]? = some x → ∃ cs, R w x cs ∧ cs.length = sz ∧ ∀ j u, cs[j]? = some u → xs[i * sz + j]? = some u) : RowsV sz R w v l := by
  subst hn
  rcases h.2 with ⟨rfl, h0⟩ | ⟨g, cap, cur, rfl, hb, hh, hc, hcm, hsz, htk⟩
  · have : l = [] := List.eq_nil_of_length_eq_zero h0
    subst this
    exact RowsV.nil
  · refine ⟨_, cap, rfl, hc, fun h0 => ⟨g, 0, rfl, fun i x hx => ?_⟩⟩
    obtain ⟨cs, h1, h2, h3⟩ := hR i x hx
    refine ⟨cs, h1, h2, fun j u hj => ?_⟩
    have h4 := h3 j u hj
    have hlt := (List.getElem?_eq_some_iff.1 h4).1
    rw [h.1] at hlt
    rw [Nat.zero_add, h.cellAt (i * sz + j) hlt]
    exact h4
theorem MdsO.mods {l : List Md} {ps : List (Value × Value × List Value)} (h : MdsO H w v l ps) : Mods w v l := by
  refine rows_own h.row rfl fun i md hi => ?_
  have hil := (List.getElem?_eq_some_iff.1 hi).1
  obtain ⟨p, hp⟩ : ∃ p, ps[i]? = some p := ⟨_, List.getElem?_eq_getElem (by have := h.len; omega)⟩
  have hm := h.mds i md p hi hp
  refine ⟨md.cells p.1 p.2.1, ⟨p.1, p.2.1, rfl, ?_, ?_⟩, rfl, fun j u hj => mcells_at l ps i md p j u hi hp hj⟩
  · exact rows_own hm.imps rfl fun i x hx => ⟨x.cells, rfl, rfl, fun j u hj => flat_getN (k := 5) Im.cells (fun _ => rfl) _ i x j u hx hj⟩
  · refine rows_own hm.defs.row rfl fun i d hd => ?_
    have hil := (List.getElem?_eq_some_iff.1 hd).1
    obtain ⟨tv, ht⟩ : ∃ tv, p.2.2[i]? = some tv := ⟨_, List.getElem?_eq_getElem (by have := hm.defs.len; omega)⟩
    exact ⟨d.cells tv, ⟨tv, rfl, own_nds (hm.defs.nds i d tv hd ht) rfl⟩, rfl, fun j u hj => dcells_at _ _ i d tv j u hd ht hj⟩
end
section
variable {L : List Tok}
theorem defs_trees : ∀ (n i : Nat) (lg : List Nat) (acc : List Df) (r : List Df × Nat × List Nat), defs L n i lg acc = .ok r → i ≤ L.length → (∀ d ∈ acc, d.tree.length ≤ L.length) → ∀ d ∈ r.1, d.tree.length ≤ L.length := by
  intro n
  induction n with
  | zero => intro i lg acc r h; cases h
  | succ n ih =>
    intro i lg acc r h hi ha
    rw [defs] at h
    split at h
    · injection h with h; subst h; exact ha
    · obtain ⟨a, h1, h⟩ := bnd_inv h
      obtain ⟨rfl, b1⟩ := want_inv h1
      obtain ⟨b, h2, h⟩ := bnd_inv h
      obtain ⟨rfl, b2⟩ := name_inv h2
      obtain ⟨q, h4, h⟩ := bnd_inv h
      have b4 := note_bound h4 (by omega)
      obtain ⟨c, h3, h⟩ := bnd_inv h
      obtain ⟨rfl, b3⟩ := want_inv h3
      obtain ⟨e, h5, h⟩ := bnd_inv h
      obtain ⟨b5, b6, -⟩ := expr_bound h5 (by omega)
      obtain ⟨d, h7, h⟩ := bnd_inv h
      obtain ⟨rfl, b7⟩ := want_inv h7
      refine ih _ _ _ _ h b7 fun d hd => ?_
      rcases List.mem_append.1 hd with hd | hd
      · exact ha d hd
      · simp only [List.mem_singleton] at hd
        subst hd
        show e.1.flat.length ≤ _
        omega
theorem module_few {i : Nat} {lg : List Nat} {r : Md × Nat × List Nat} (h : module L i lg = .ok r) (hL : L.length ≤ 65536) : MdFew r.1 := by
  obtain ⟨a, h1, h⟩ := bnd_inv h
  obtain ⟨rfl, b1⟩ := want_inv h1
  obtain ⟨b, h2, h⟩ := bnd_inv h
  obtain ⟨rfl, b2⟩ := name_inv h2
  obtain ⟨c, h3, h⟩ := bnd_inv h
  obtain ⟨rfl, b3⟩ := want_inv h3
  obtain ⟨q, h4, h⟩ := bnd_inv h
  obtain ⟨b4, b5, b6⟩ := imps_bound _ _ _ _ _ h4 (by omega)
  obtain ⟨s, h7, h⟩ := bnd_inv h
  obtain ⟨b7, b8, b9⟩ := defs_bound _ _ _ _ _ h7 b5
  have b10 := defs_trees _ _ _ _ _ h7 b5 (fun d hd => by cases hd)
  injection h with h; subst h
  simp only [List.length_nil] at b6 b9
  exact ⟨by show q.1.length ≤ _; omega, by show s.1.length ≤ _; omega, fun d hd => Nat.le_trans (b10 d hd) hL⟩
theorem mods_few (hL : L.length ≤ 65536) : ∀ (n i : Nat) (lg : List Nat) (acc : List Md) (r : List Md × Nat × List Nat), mods L n i lg acc = .ok r → i ≤ L.length → acc.length ≤ i → (∀ m ∈ acc, MdFew m) → r.1.length ≤ L.length ∧ ∀ m ∈ r.1, MdFew m := by
  intro n
  induction n with
  | zero => intro i lg acc r h; cases h
  | succ n ih =>
    intro i lg acc r h hi ha hm
    rw [mods] at h
    split at h
    · obtain ⟨a, h1, h⟩ := bnd_inv h
      have hb := module_bound h1
      refine ih _ _ _ _ h hb.2 (by rw [List.length_append, List.length_singleton]; omega) fun m hm' => ?_
      rcases List.mem_append.1 hm' with hm' | hm'
      · exact hm m hm'
      · simp only [List.mem_singleton] at hm'
        subst hm'
        exact module_few h1 hL
    · injection h with h; subst h
      exact ⟨by show acc.length ≤ _; omega, hm⟩
end
/-- What is read as modules. -/
def modsOf (l : List UInt8) : Except (Nat × (Int × Int)) (List Md) := match readAll (fun L => mods L (L.length + 1) 0 [] []) l with
  | .error (x, p) => .error (x, (p.1, p.2))
  | .ok m => if (limV m).1 = 0 then .ok m else .error (limV m)
theorem limV_zero {m : List Md} (h : (limV m).1 = 0) : limV m = (0, (0, 0)) := by
  unfold limV limits at *
  split at h
  · rfl
  · rename_i x h2
    split at h2
    · injection h2 with h2; subst h2; cases h
    · split at h2
      · injection h2 with h2; subst h2; cases h
      · split at h2
        · injection h2 with h2; subst h2; cases h
        · cases hd : tooDeep dpI (allDefs m) with
          | none => rw [hd] at h2; cases h2
          | some p => rw [hd] at h2; simp only [Option.map_some, Option.some.injEq] at h2; subst h2; cases h
/-- What Modules answers. -/
def ModsRes (l : List UInt8) (w : World) (E : Ending) (w' : World) : Prop := Below w.heap.size w w' ∧ match modsOf l with
  | .ok m => ∃ v ps, E = .returned (.tuple #[v, .int .i64 0, .agg #[.int .i64 0, .int .i64 0]]) ∧ MdsO w.heap.size w' v m ps
  | .error (x, p) => E = .returned (.tuple #[.slice none 0 0, .int .i64 x, .agg #[.int .i64 p.1, .int .i64 p.2]])
theorem MdsO.low {H K : Nat} {w : World} {v : Value} {l : List Md} {ps : List (Value × Value × List Value)} (h : MdsO H w v l ps) (hk : K ≤ H) : MdsO K w v l ps := ⟨own_mono h.row hk, h.len, fun i d t a b => (h.mds i d t a b).low hk, h.nd⟩
theorem pl2_set {g : Nat} {a b : Int} {w : World} (h : Pl2 g a b w) (c d : Int) : Pl2 g c d ((w.setCell ⟨g, 0, none⟩ (.int .i64 c)).setCell ⟨g, 1, none⟩ (.int .i64 d)) := blk_set (blk_set h 0 _) 1 _
end Culp.Gr
namespace Go.Proofs.YtnhdbjhdmdefmaaDoor
set_option linter.unusedSimpArgs false
set_option linter.unusedVariables false
open Go.RowKit Culp Culp.Tr Culp.Gr
set_option maxRecDepth 100000 in
set_option maxHeartbeats 6400000 in
theorem readMods_any (s : ByteArray) (sv : Value) (w : World) (hb : BytesV w sv s) (hs : s.size ≤ 65536) (hS : Sp w) :
    Calls Tryd.prog 8 #[sv] w (ModsRes s.data.toList w) := by
  have hmf : ∀ (fn : Fn) (first cap : Array Value) (w : World), (Instr.makeFunc fn first cap).run Tryd.prog w = .ok (.func fn first cap) w := fun _ _ _ _ => rfl
  have hba : Below w.heap.size w ((w.alloc (.cells #[.int .i64 0, .int .i64 0] 25)).alloc (.cells #[.slice none 0 0] 32)) := ((Below.refl _ _).alloc (Nat.le_refl _) _).alloc (by simp) _
  have hcb : Blk (w.heap.size + 1) #[.slice none 0 0] 32 ((w.alloc (.cells #[.int .i64 0, .int .i64 0] 25)).alloc (.cells #[.slice none 0 0] 32)) := Blk.alloc2 _ _ _ _
  have HP0 : Hid (Pl2 w.heap.size 0 0 ((w.alloc (.cells #[.int .i64 0, .int .i64 0] 25)).alloc (.cells #[.slice none 0 0] 32))) := Lib.hid ((pl2_alloc w 0 0).later ((Below.refl _ _).alloc (Nat.le_refl _) _))
  have HALL := Lib.hid (all_any (R := MdsR (w.heap.size + 1)) (fun _ _ _ _ h hb => MdsR.later h hb) (mods_clo (w.heap.size + 1)) (by kernel_rfl) s sv _ (hb.later hba) hs (hS.later hba) (fun _ => Tx.toks_pos) (fun _ => Tx.toks_fine) hcb)
  have HBA := Lib.hid hba
  clear hba hcb hb hS
  go_enter Tryd.func8, Tryd.ntmps8
  go_wp2_with fail
  refine HALL.out.mono ?_
  clear HALL
  intro E w1 hr
  rcases hr.two (w := w) (by omega) HBA.out (fun _ => Tx.toks_pos) with ⟨x, p, hx, hra, rfl, hbw, hbl⟩ | ⟨m, L, pb, B, tv, k, lv, u, hra, htk, rfl, hR, hcu, hps, hbw, hbl⟩
  · have hp1 : Pl2 w.heap.size 0 0 w1 := (hbl _ HP0.out.lt (by omega)).trans HP0.out
    have ex : (((x : Nat) : Int) != 0) = true := bne_iff_ne.2 (by omega)
    have ex2 : (((x : Nat) : Int) == 0) = false := beq_eq_false_iff_ne.2 (by omega)
    have HOK : Hid (modsOf s.data.toList = .error (x, ((p.1 : Int), (p.2 : Int)))) := Lib.hid (by unfold modsOf; rw [hra])
    have hba : Below w1.heap.size w1 (w1.alloc (.cells #[.int .i64 p.1, .int .i64 p.2] 25)) := (Below.refl _ _).alloc (Nat.le_refl _) _
    have HP7 := Lib.hid (pl2_alloc w1 p.1 p.2)
    have HP4 := Lib.hid (hp1.later hba)
    have HB4 := Lib.hid (below_later hba hbw)
    have hne : w.heap.size ≠ w1.heap.size := by have := hp1.lt; omega
    clear hba hra hx hp1 hbw hbl hr HBA HP0
    go_wp2_with fail
    generalize w1.alloc (.cells #[.int .i64 p.1, .int .i64 p.2] 25) = W4 at *
    generalize w1.heap.size = g7 at *
    have p0 := HP7.out.c0
    have p1 := HP7.out.c1
    go_still_tail 4, (by kernel_rfl)
    change wpList _ _ _ _ _ W4.drew
    have r0 := (HP4.out.later (Below.refl _ _).drew).c0
    have r1 := (HP4.out.later (Below.refl _ _).drew).c1
    have f0 := (HP4.out.later (Below.refl _ _).drew).free 0
    have f1 := (HP4.out.later (Below.refl _ _).drew).free 1
    have HP5 := Lib.hid (HP4.out.later (Below.refl _ _).drew)
    have HB5 := Lib.hid HB4.out.drew
    clear HP4 HB4
    generalize W4.drew = W8 at *
    go_wp2_with fail
    have HT2 := set2_pl (a' := p.1) (b' := p.2) HP5.out
    have d0 := HT2.c0
    have d1 := HT2.c1
    unfold set2 at d0 d1
    refine bodyPost_ret (v := .tuple #[.slice none 0 0, .int .i64 x, .agg #[.int .i64 p.1, .int .i64 p.2]]) (by simp [results, Tryd.results8, go_sem, d0, d1]) rfl ⟨(HB5.out.setCell (Nat.le_refl _) _).setCell (Nat.le_refl _) _, ?_⟩
    rw [HOK.out]
  · have q4 : Pl2 w.heap.size 0 0 w1 := (hbl _ HP0.out.lt (by omega)).trans HP0.out
    obtain ⟨b9, ps, hcb9, hmd⟩ := hR
    have hsm := hps.small
    have hfw : m.length ≤ 65536 ∧ ∀ x ∈ m, MdFew x := by
      unfold readAll at hra
      rw [htk] at hra
      simp only at hra
      obtain ⟨k, hk, -⟩ := fin_ok hra
      have := mods_few hsm _ _ _ _ _ hk (Nat.zero_le _) (Nat.zero_le _) (fun m hm => by cases hm)
      exact ⟨Nat.le_trans this.1 hsm, this.2⟩
    obtain ⟨Au, cu, rfl⟩ := own_shape hmd.row
    have HBx : ∀ o, Below w1.heap.size w1 (w1.alloc o) := fun o => (Below.refl _ _).alloc (Nat.le_refl _) o
    have HP4 := Lib.hid (q4.later (HBx (.cells #[.int .i64 0, .int .i64 0] 25)))
    have HP7 := Lib.hid (pl2_alloc w1 0 0)
    have HB4 := Lib.hid (below_later (HBx (.cells #[.int .i64 0, .int .i64 0] 25)) hbw)
    have HO4 := Lib.hid (hmd.later (HBx (.cells #[.int .i64 0, .int .i64 0] 25)))
    have HC4 := Lib.hid (hcu.later (HBx (.cells #[.int .i64 0, .int .i64 0] 25)))
    have HRA := Lib.hid hra
    have hwb : w.heap.size ≤ b9 := by omega
    have hne : w.heap.size < w1.heap.size := q4.lt
    have HLM := Lib.hid (limits_any m _ _ HO4.out.mods hfw.1 hfw.2)
    have hcl : w.heap.size + 1 < w1.heap.size := hcu.lt
    have cc := HC4.out.cell (i := 0) rfl
    clear q4 hra htk hmd hps hcu hbw hbl hr HBA HP0 HBx hfw
    go_wp2_with fail
    refine HLM.out.mono ?_
    rintro E W5 ⟨rfl, hb5⟩
    clear HLM
    generalize w1.alloc (.cells #[.int .i64 0, .int .i64 0] 25) = W4 at *
    generalize w1.heap.size = g8 at *
    have HP5 := Lib.hid (HP4.out.later hb5)
    have HP8 := Lib.hid (HP7.out.later hb5)
    have HB5 := Lib.hid (below_later hb5 HB4.out)
    have HO5 := Lib.hid (HO4.out.later hb5)
    have HC5 := Lib.hid (HC4.out.later hb5)
    clear hb5 HP4 HP7 HB4 HO4 HC4 cc
    by_cases h0 : (limV m).1 = 0
    · have HOK : Hid (modsOf s.data.toList = .ok m) := Lib.hid (by unfold modsOf; rw [HRA.out]; simp only; rw [if_pos h0])
      rw [limV_zero h0]
      clear h0 HRA
      have HRES : Hid (ModsRes s.data.toList w (.returned (.tuple #[.slice Au m.length cu, .int .i64 0, .agg #[.int .i64 0, .int .i64 0]])) W5) := Lib.hid ⟨HB5.out, by
        rw [HOK.out]
        exact ⟨_, ps, rfl, HO5.out.low hwb⟩⟩
      have e0 := HP8.out.c0
      have e1 := HP8.out.c1
      have g0 := HP8.out.free 0
      have g1 := HP8.out.free 1
      have cc := HC5.out.cell (i := 0) rfl
      have r0 := HP5.out.c0
      have r1 := HP5.out.c1
      have f0 := HP5.out.free 0
      have f1 := HP5.out.free 1
      have s0 := set_selfz (i := 0) HP8.out (v := .int .i64 0) rfl
      have s1 := set_selfz (i := 1) HP8.out (v := .int .i64 0) rfl
      have t0 := set_selfz (i := 0) HP5.out (v := .int .i64 0) rfl
      have t1 := set_selfz (i := 1) HP5.out (v := .int .i64 0) rfl
      go_wp2_with fail
      try rw [s0]
      try rw [s1]
      try rw [t0]
      try rw [t1]
      refine bodyPost_ret (v := .tuple #[.slice Au m.length cu, .int .i64 0, .agg #[.int .i64 0, .int .i64 0]]) (by simp [results, Tryd.results8, go_sem, r0, r1]) rfl HRES.out
    · have HOK : Hid (modsOf s.data.toList = .error (limV m)) := Lib.hid (by unfold modsOf; rw [HRA.out]; simp only; rw [if_neg h0])
      generalize limV m = z at *
      obtain ⟨x, p, q⟩ := z
      simp only at *
      have ex : (((x : Nat) : Int) != 0) = true := bne_iff_ne.2 (by omega)
      have HP4 := Lib.hid (show Pl2 w.heap.size 0 0 ((W5.setCell ⟨g8, 0, none⟩ (.int .i64 p)).setCell ⟨g8, 1, none⟩ (.int .i64 q)) from blk_other (blk_other HP5.out (by omega) _) (by omega) _)
      have HP7 := Lib.hid (pl2_set HP8.out p q)
      have HB4 := Lib.hid ((HB5.out.setCell (p := ⟨g8, 0, none⟩) (by show w.heap.size ≤ g8; omega) (.int .i64 p)).setCell (p := ⟨g8, 1, none⟩) (by show w.heap.size ≤ g8; omega) (.int .i64 q))
      have e0 := HP8.out.c0
      have e1 := HP8.out.c1
      have g0 := HP8.out.free 0
      have g1 := HP8.out.free 1
      clear h0 HRA HP5 HB5 HO5 HC5
      go_wp2_with fail
      clear e0 e1 g0 g1 HP8
      generalize (W5.setCell ⟨g8, 0, none⟩ (.int .i64 p)).setCell ⟨g8, 1, none⟩ (.int .i64 q) = W4 at *
      have p0 := HP7.out.c0
      have p1 := HP7.out.c1
      go_still_tail 4, (by kernel_rfl)
      change wpList _ _ _ _ _ W4.drew
      have r0 := (HP4.out.later (Below.refl _ _).drew).c0
      have r1 := (HP4.out.later (Below.refl _ _).drew).c1
      have f0 := (HP4.out.later (Below.refl _ _).drew).free 0
      have f1 := (HP4.out.later (Below.refl _ _).drew).free 1
      have HP5 := Lib.hid (HP4.out.later (Below.refl _ _).drew)
      have HB5 := Lib.hid HB4.out.drew
      clear HP4 HB4
      generalize W4.drew = W8 at *
      go_wp2_with fail
      have HT2 := set2_pl (a' := p) (b' := q) HP5.out
      have d0 := HT2.c0
      have d1 := HT2.c1
      unfold set2 at d0 d1
      refine bodyPost_ret (v := .tuple #[.slice none 0 0, .int .i64 x, .agg #[.int .i64 p, .int .i64 q]]) (by simp [results, Tryd.results8, go_sem, d0, d1]) rfl ⟨(HB5.out.setCell (Nat.le_refl _) _).setCell (Nat.le_refl _) _, ?_⟩
      rw [HOK.out]
end Go.Proofs.YtnhdbjhdmdefmaaDoor
