/- Walks of package core: the type of a node: a node whose rule stands in the table. -/
import Derived.Test.YtnmhiddahfnkoaaCoreU
import Derived.Laws.EntriesVeiled
namespace Go.Proofs.Ytnmhiddahfnkoaa
set_option linter.unusedSimpArgs false
set_option linter.unusedVariables false
open Go.RowKit Culp

/-- What the kids so far make of the rest. -/
def ahead (ds : List Ty) : Except Flt (List Ty × Nat) → Except Flt (List Ty × Nat)
  | .error e => .error e
  | .ok (ts, q) => .ok (ds ++ ts, q)
theorem ahead_nil (r : Except Flt (List Ty × Nat)) : ahead [] r = r := by rcases r with e | ⟨ts, q⟩ <;> rfl
theorem ahead_step (ds : List Ty) (t : Ty) (r : Except Flt (List Ty × Nat)) : ahead (ds ++ [t]) r = ahead ds (match r with | .error e => .error e | .ok (ts, q) => .ok (t :: ts, q)) := by
  rcases r with e | ⟨ts, q⟩
  · rfl
  · simp [ahead]

def ownK (v : Value) (n : Nat) (xs : List Value) (B : Nat) (w : World) : Prop := w.ownsRow B 9 1 v n xs
theorem ownK.keep {v : Value} {n : Nat} {xs : List Value} {B g : Nat} {w w' : World} (h : ownK v n xs B w) (hg : g < B) (hk : Keep g w w') : ownK v n xs B w' := by
  refine ⟨h.1, ?_⟩
  rcases h.2 with hn | ⟨b, cap, cur, rfl, hb, hgg, rest⟩
  · exact .inl hn
  · refine .inr ⟨b, cap, cur, rfl, hb, ?_, rest⟩
    rw [hk.block b (Array.getElem?_eq_some_iff.1 hgg).1 (by omega)]
    exact hgg

theorem times_len {T : List Nd} {f : Nat} : ∀ (n p q : Nat), p ≤ T.length → timesM (shapeM T f) n p = .ok q → p + n ≤ q ∧ q ≤ T.length := by
  intro n
  induction n with
  | zero => intro p q hp h; have := times_zero h; omega
  | succ n ih =>
    intro p q hp h
    obtain ⟨m, h1, h2⟩ := times_succ h
    have h3 := shapeM_lt T f p m h1
    have h4 := shapeM_le T f p m h1
    have := ih m q h4 h2
    omega
theorem Keep.grow {g : Nat} {w w1 w2 : World} (h : Keep g w w1) (hb : Below w.heap.size w1 w2) : Keep g w w2 :=
  ⟨hb.os.trans h.os, hb.tape.trans h.tape, hb.output.trans h.output, Nat.le_trans h.size hb.size, fun k hk hg => (hb.block k hk).trans (h.block k hk hg)⟩
theorem Ck.grow {g : Nat} {tv mv : Value} {p B : Nat} {w w' : World} (h : Ck g tv mv p w) (hg : g < B) (hb : Below B w w') : Ck g tv mv p w' := (hb.block g hg).trans h

set_option maxHeartbeats 1600000 in
theorem typed_rule {T : List Nd} (hT : T.length ≤ 16384) (f : Nat) (ih : TypedC T f) (g r : Nat) (tv ev : Value) (env : List Ty) (p q : Nat) (w : World) (I : Inv T g r tv p w) (he : Tys w ev env) (hfit : ∀ t ∈ env, t.fits) (hlen : env.length + 2 * (f + 1) ≤ 3000)
    (x : Nd) (hx : T[p]? = some x) (hk : kidsOk x = true) (hq : timesM (shapeM T f) x.kids.toNat (p + 1) = .ok q) (wr : Option Int) (hw : wordsM x env.length = wr) (he0 : wr = none) (h4 : Hid (x.kind ≠ 4)) (h5 : Hid (x.kind ≠ 5)) (h6 : Hid (x.kind ≠ 6)) (h8 : Hid (x.kind ≠ 8)) (n : Nat) (hn : Hid (x.kids = n)) (X : Hid (typedM T (f + 1) env p = match kidsM (typedM T f env) n (p + 1) with | .error e => .error e | .ok (ks, q) => (match ruleM x ks with | .error e => .error (e, p) | .ok t => .ok (t, q)))) :
    Calls Try.prog 28 #[.pointer (some ⟨g, 0, none⟩), ev] w (TypedRes g tv (.map (some r)) w (typedM T (f + 1) env p)) := by
  obtain ⟨A, c, rfl, hlc, hN⟩ := I.nodes
  obtain ⟨EA, ec, rfl⟩ := tys_form he
  have c0 := I.ck.c0
  have c1 := I.ck.c1
  have fz := I.ck.free 1
  have hgl := I.ck.lt
  have hpl : p < T.length := (List.getElem?_eq_some_iff.1 hx).1
  obtain ⟨b, off, rfl, hM⟩ := hN (by omega)
  obtain ⟨n0, n1, n2, n3, n4, n5, n6, n7⟩ := hM.at_ hx
  have i1 : (p : Int) < (T.length : Int) := by omega
  have fz2 : ∀ o, (w.alloc o).frozen? ⟨g, 1, none⟩ = false := fun o => by rw [World.frozen?_alloc_old _ _ _ (by simp; omega)]; exact fz
  have c12 : ∀ o, (w.alloc o).cell? ⟨g, 1, none⟩ = some (.int .i64 p) := fun o => by rw [World.cell?_alloc_lt w o _ (by simpa using hgl)]; exact c1
  have HI := Lib.hid I; have HE := Lib.hid he; have HF := Lib.hid hfit; have HX := Lib.hid hx; have HK := Lib.hid hk; have HQ := Lib.hid hq
  have HX := Lib.hid hx
  have HW := Lib.hid hw
  clear hx hN hM hk hq I he hfit hw
  go_enter Try.func28, Try.ntmps28
  go_wp2_with fail
  refine (show Calls Try.prog 45 #[x.val, .int .i64 p, .int .i64 env.length] _ (WordsRes (wordsM x env.length) p _) from words_any x p env.length _ (by omega)).mono ?_
  rw [HW.out]
  subst he0
  rintro e w1 ⟨hb, rfl⟩
  have hK0 : Keep g w ((w.setCell ⟨g, 1, none⟩ (.int .i64 ((p : Int) + 1))).alloc (nodeCells x)) := ((Keep.refl g w).setCell 1 _).alloc _
  have hI0 : Inv T g r (.slice (some ⟨b, off, none⟩) T.length c) (p + 1) ((w.setCell ⟨g, 1, none⟩ (.int .i64 ((p : Int) + 1))).alloc (nodeCells x)) := HI.out.step1.later ((Below.refl _ _).alloc (Nat.le_refl _) _)
  have HI1 := Lib.hid (hI0.later hb)
  have HK1 := Lib.hid (hK0.trans (Keep.of hb))
  have HE1 := Lib.hid (HI.out.tys (hK0.trans (Keep.of hb)) HE.out)
  have hsz : w.heap.size + 1 ≤ w1.heap.size := by have := hb.size; simp [World.setCell] at this; omega
  have m0 : w1.cell? ⟨w.heap.size, 0, none⟩ = some (.int .i8 x.kind) := cell_later hb (by rw [World.cell?_alloc_at _ _ _ _ (by simp [World.setCell])]; rfl)
  have m1 : w1.cell? ⟨w.heap.size, 1, none⟩ = some (.int .i64 x.kids) := cell_later hb (by rw [World.cell?_alloc_at _ _ _ _ (by simp [World.setCell])]; rfl)
  have m2 : w1.cell? ⟨w.heap.size, 2, none⟩ = some (.int .i64 x.n) := cell_later hb (by rw [World.cell?_alloc_at _ _ _ _ (by simp [World.setCell])]; rfl)
  have m3 : w1.cell? ⟨w.heap.size, 3, none⟩ = some (.string x.s) := cell_later hb (by rw [World.cell?_alloc_at _ _ _ _ (by simp [World.setCell])]; rfl)
  have m4 : w1.cell? ⟨w.heap.size, 4, none⟩ = some (.string x.t) := cell_later hb (by rw [World.cell?_alloc_at _ _ _ _ (by simp [World.setCell])]; rfl)
  have m5 : w1.cell? ⟨w.heap.size, 5, none⟩ = some (.string x.u) := cell_later hb (by rw [World.cell?_alloc_at _ _ _ _ (by simp [World.setCell])]; rfl)
  have m6 : w1.cell? ⟨w.heap.size, 6, none⟩ = some (.int .i64 x.line) := cell_later hb (by rw [World.cell?_alloc_at _ _ _ _ (by simp [World.setCell])]; rfl)
  have m7 : w1.cell? ⟨w.heap.size, 7, none⟩ = some (.int .i64 x.col) := cell_later hb (by rw [World.cell?_alloc_at _ _ _ _ (by simp [World.setCell])]; rfl)
  clear hI0 hK0 hb n0 n1 n2 n3 n4 n5 n6 n7 c0 c1 c12 fz fz2
  rw [hn.out] at m1
  have HQ1 : Hid (timesM (shapeM T f) n (p + 1) = .ok q) := by rw [Hid, ← HQ.out, hn.out]; simp
  have e4 : (x.kind == 4) = false := beq_eq_false_iff_ne.2 h4.out
  have e5 : (x.kind == 5) = false := beq_eq_false_iff_ne.2 h5.out
  have e6 : (x.kind == 6) = false := beq_eq_false_iff_ne.2 h6.out
  have e8 : (x.kind == 8) = false := beq_eq_false_iff_ne.2 h8.out
  go_wp2_with fail
  have hnl : n ≤ 16384 := by have := times_len n (p + 1) q (by omega) HQ1.out; omega
  have hgw : g < w1.heap.size := by omega
  go_loopw [9, 103] (fun v i wr => ∃ (k pk : Nat) (ds : List Ty), k ≤ n ∧ i = .int .i64 k ∧ Hid (ds.length = k) ∧ Hid (∀ t ∈ ds, t.fits) ∧ Hid (timesM (shapeM T f) (n - k) pk = .ok q) ∧ Hid (kidsM (typedM T f env) n (p + 1) = ahead ds (kidsM (typedM T f env) (n - k) pk)) ∧ Hid (Ck g (.slice (some ⟨b, off, none⟩) T.length c) (.map (some r)) pk wr) ∧ Hid (Keep g w1 wr) ∧ Hid (ownK v ds.length (strs ds) w1.heap.size wr)) (fun _ i _ => n - (intOf i).toNat)
  case atStart => exact ⟨0, p + 1, [], by omega, rfl, rfl, Lib.hid (by simp), HQ1, Lib.hid (by rw [ahead_nil]; rfl), Lib.hid HI1.out.ck, Lib.hid (Keep.refl _ _), Lib.hid (World.ownsRow_nil _ _ _ _)⟩
  case round =>
    obtain ⟨k, pk, ds, hk, rfl, hdl, HD, HT, HM, HC, HKr, HO⟩ := hrel
    have HIr := Lib.hid (HI1.out.keep HKr.out HC.out)
    have HEr := Lib.hid (HI1.out.tys HKr.out HE1.out)
    by_cases hlt : k < n
    · obtain ⟨m, hm⟩ : ∃ m, n - k = m + 1 := ⟨n - k - 1, by omega⟩
      have HM2 := HM.out
      have HT2 := HT.out
      rw [hm] at HM2 HT2
      obtain ⟨pm, hs1, HT3⟩ := times_succ HT2
      simp only [kidsM] at HM2
      have HS1 := Lib.hid hs1
      cases hr : typedM T f env pk with
      | error fl =>
        obtain ⟨e0, p0⟩ := fl
        rw [hr] at HM2
        have HR := Lib.hid hr
        have Y := Lib.hid HM2
        clear hr HM2 HT2 HM HT HT3 hm hs1
        go_wp2_with fail
        refine (ih g r _ (.slice EA env.length ec) env pk pm _ HIr.out HEr.out HF.out (by omega) HS1.out).mono ?_
        rw [HR.out]
        rintro e w' ⟨hk4, rfl⟩
        show bodyPost Try.prog Try.f28 (TypedRes g _ _ w (typedM T (f + 1) env p)) (Exit.panic (flawV e0 p0)) _ w'
        rw [X.out, Y.out]
        exact ⟨rfl, TypedRes.bad rfl ((HK1.out.trans HKr.out).trans hk4)⟩
      | ok bq =>
        obtain ⟨b0, q0⟩ := bq
        obtain ⟨rfl, hbf⟩ := typedM_ok T f env pk pm b0 q0 HF.out hs1 hr
        rw [hr] at HM2
        simp only at HM2
        have HR := Lib.hid hr
        have Y : Hid (kidsM (typedM T f env) n (p + 1) = ahead (ds ++ [b0]) (kidsM (typedM T f env) (n - (k + 1)) q0)) := by
          rw [Hid, HM2, ahead_step, show n - (k + 1) = m by omega]; rcases kidsM (typedM T f env) m q0 with _ | ⟨_, _⟩ <;> rfl
        have Z : Hid (timesM (shapeM T f) (n - (k + 1)) q0 = .ok q) := by rw [Hid, show n - (k + 1) = m by omega]; exact HT3
        have hdf : Hid (∀ t ∈ ds ++ [b0], t.fits) := Lib.hid (by intro t ht; rcases List.mem_append.1 ht with h | h; exact HD.out t h; simp at h; subst h; exact hbf)
        clear hr HM2 HT2 HM HT HT3 hm hs1
        go_wp2_with fail
        refine (ih g r _ (.slice EA env.length ec) env pk q0 _ HIr.out HEr.out HF.out (by omega) HS1.out).mono ?_
        rw [HR.out]
        rintro e w2 ⟨hk2, rfl, hc2⟩
        have hKr2 := HKr.out.trans hk2
        have hown : w2.ownsRow w1.heap.size 9 1 _ ds.length (strs ds) := HO.out.keep hgw hk2
        have hC2 := Lib.hid hc2
        have HK2 := Lib.hid hKr2
        have hbase : w1.heap.size ≤ w2.heap.size := hKr2.size
        clear hk2 hc2 hKr2
        go_wp2_with (at_builtin; refine append_one rfl (.tmp 105) (.tmp 109) 61 9 rfl w1.heap.size _ 16 Try.underlying61 string_info rfl _ _ _ rfl hown _ rfl rfl ?_ ?_ ?_ ?_)
        · have := hdl.out; omega
        · have := hdl.out; omega
        · exact hbase
        · intro v' w' hown' hg hb'
          have hown2 : Hid (ownK v' (ds ++ [b0]).length (strs (ds ++ [b0])) w1.heap.size w') := Lib.hid (by simpa [strs, ownK] using hown')
          have HK3 := Lib.hid (Keep.grow HK2.out hb')
          have HC3 := Lib.hid (Ck.grow hC2.out hgw hb')
          clear hown' hg hb' hown
          go_wp2
          go_roundw
          case rel => exact ⟨k + 1, q0, ds ++ [b0], by omega, by go_num, Lib.hid (by have := hdl.out; simp; omega), hdf, Z, Y, HC3, HK3, hown2⟩
          case measure => simp [intOf]; omega
    · obtain rfl : k = n := by omega
      have hpk : pk = q := times_zero (by have := HT.out; rwa [Nat.sub_self] at this)
      subst hpk
      have Y : Hid (kidsM (typedM T f env) k (p + 1) = .ok (ds, pk)) := by rw [Hid, HM.out, Nat.sub_self]; simp [kidsM, ahead]
      clear HM HT
      go_wp2_with fail
      obtain ⟨v1, v2, v3, v4, hmap, o1, o2, o3, o4⟩ := HIr.out.rules
      have hks : Tys wr _ ds := Tys.own HO.out
      obtain ⟨KA, kc, rfl⟩ := tys_form hks
      have hgn : w.heap.size ≠ g := by omega
      replace m0 := HKr.out.cell m0 hgn
      replace m1 := HKr.out.cell m1 hgn
      rw [← hn.out] at m1
      replace m2 := HKr.out.cell m2 hgn
      replace m3 := HKr.out.cell m3 hgn
      replace m4 := HKr.out.cell m4 hgn
      replace m5 := HKr.out.cell m5 hgn
      replace m6 := HKr.out.cell m6 hgn
      replace m7 := HKr.out.cell m7 hgn
      have c2 := HC.out.c2
      have hbd : Below wr.heap.size wr wr.drew := (Below.refl _ _).drew
      obtain ⟨fv, hfv, F⟩ := rule_any (.pointer (some ⟨g, 0, none⟩)) x ds (.slice KA ds.length kc) p env.length wr.drew v1 v2 v3 v4 (o1.later hbd) (o2.later hbd) (o3.later hbd) (o4.later hbd) (hks.later hbd) HD.out HW.out HK.out (by have := hdl.out; have := hn.out; omega) h4.out h5.out h6.out h8.out (by have := hdl.out; omega)
      obtain ⟨fid, caps, rfl, hbod, hcall⟩ := F
      have HCall := Lib.hid hcall
      have HFv := Lib.hid hfv
      have HB := Lib.hid hbod
      clear hcall hfv hbod o1 o2 o3 o4
      refine wp_region_plan (S := fun w' => (w'.cell? ⟨g, 2, none⟩ = some (.map (some r)) ∧ w'.cell? ⟨w.heap.size, 0, none⟩ = some (.int .i8 x.kind) ∧ w'.cell? ⟨w.heap.size, 1, none⟩ = some (.int .i64 x.kids) ∧ w'.cell? ⟨w.heap.size, 2, none⟩ = some (.int .i64 x.n) ∧ w'.cell? ⟨w.heap.size, 3, none⟩ = some (.string x.s) ∧ w'.cell? ⟨w.heap.size, 4, none⟩ = some (.string x.t) ∧ w'.cell? ⟨w.heap.size, 5, none⟩ = some (.string x.u) ∧ w'.cell? ⟨w.heap.size, 6, none⟩ = some (.int .i64 x.line) ∧ w'.cell? ⟨w.heap.size, 7, none⟩ = some (.int .i64 x.col)) ∧ Hid (MapAt w' .i8 r (ruleTable v1 v2 v3 v4)))
        [(0, true), (1, true), (2, true), (3, true), (4, true), (5, true), (6, true), (7, true), (8, true), (9, true), (10, true), (11, false), (12, true)] (by kernel_rfl) (by kernel_rfl) (by kernel_rfl) (fun _ _ _ _ _ h => h) ⟨⟨cell_later hbd c2, cell_later hbd m0, cell_later hbd m1, cell_later hbd m2, cell_later hbd m3, cell_later hbd m4, cell_later hbd m5, cell_later hbd m6, cell_later hbd m7⟩, hmap.later hbd hmap.lt⟩ ?_
      intro HS
      repeat (first | (apply wpPlan_look; rfl; rfl; (intro wq hq; (try dsimp only at hq); go_split_ands; go_simp; (try rw [if_neg (by omega)]); try with_reducible rfl); simp only [Act.put, List.setIfInBounds_toArray, List.set_cons_zero, List.set_cons_succ]) | (apply wpPlan_skip; rfl; rfl; simp only [Act.put, List.setIfInBounds_toArray, List.set_cons_zero, List.set_cons_succ]) | (apply wpPlan_pass; rfl; rfl; assumption; simp only [Act.put, List.setIfInBounds_toArray, List.set_cons_zero, List.set_cons_succ]))
      apply wpPlan_look (v := .func (.func fid) #[] caps.toArray); rfl; rfl; (intro wq hq; have hl := run_lookup_there (P := Try.prog) wq 54 40 67 .i8 Try.underlying54 Try.underlying40 r _ x.kind _ hq.2.out HFv.out; simp [execOp, go_sem, hl]); simp only [Act.put, List.setIfInBounds_toArray, List.set_cons_zero, List.set_cons_succ]
      repeat (first | (apply wpPlan_look; rfl; rfl; (intro wq hq; (try dsimp only at hq); go_split_ands; go_simp; (try rw [if_neg (by omega)]); try with_reducible rfl); simp only [Act.put, List.setIfInBounds_toArray, List.set_cons_zero, List.set_cons_succ]) | (apply wpPlan_skip; rfl; rfl; simp only [Act.put, List.setIfInBounds_toArray, List.set_cons_zero, List.set_cons_succ]) | (apply wpPlan_pass; rfl; rfl; assumption; simp only [Act.put, List.setIfInBounds_toArray, List.set_cons_zero, List.set_cons_succ]))
      apply wpPlan_call2; rfl; rfl; rfl; rfl; exact HB.out; exact HCall.out; rfl
      cases hr : ruleM x ds with
      | error e0 =>
        rintro e w4 ⟨hb4, rfl⟩
        refine .inr ⟨_, rfl, ?_⟩
        rw [X.out, Y.out]
        simp only [hr]
        exact ⟨rfl, TypedRes.bad rfl ((HK1.out.trans HKr.out).trans (Keep.of (hbd.trans (hb4.mono (Nat.le_refl _)))))⟩
      | ok t0 =>
        rintro e w4 ⟨hb4, rfl⟩
        have hb4' := hbd.trans (hb4.mono (Nat.le_refl _))
        have HC4 := HC.out.later hb4'
        have HK4 := (HK1.out.trans HKr.out).trans (Keep.of hb4')
        refine .inl ⟨_, rfl, as_S ⟨⟨cell_later hb4 HS.1.1, cell_later hb4 HS.1.2.1, cell_later hb4 HS.1.2.2.1, cell_later hb4 HS.1.2.2.2.1, cell_later hb4 HS.1.2.2.2.2.1, cell_later hb4 HS.1.2.2.2.2.2.1, cell_later hb4 HS.1.2.2.2.2.2.2.1, cell_later hb4 HS.1.2.2.2.2.2.2.2.1, cell_later hb4 HS.1.2.2.2.2.2.2.2.2⟩, hmap.later hb4' hmap.lt⟩ ?_⟩
        have HR := Lib.hid hr
        clear HS hr hb4 hb4'
        intro HS
        simp only [Act.put, List.setIfInBounds_toArray, List.set_cons_zero, List.set_cons_succ]
        repeat (first | (apply wpPlan_look; rfl; rfl; (intro wq hq; (try dsimp only at hq); go_split_ands; go_simp; (try rw [if_neg (by omega)]); try with_reducible rfl); simp only [Act.put, List.setIfInBounds_toArray, List.set_cons_zero, List.set_cons_succ]) | (apply wpPlan_skip; rfl; rfl; simp only [Act.put, List.setIfInBounds_toArray, List.set_cons_zero, List.set_cons_succ]) | (apply wpPlan_pass; rfl; rfl; assumption; simp only [Act.put, List.setIfInBounds_toArray, List.set_cons_zero, List.set_cons_succ]))
        apply wpPlan_done
        go_wp2
        go_ret
        rw [X.out, Y.out]
        simp only [HR.out]
        exact TypedRes.ok_ rfl rfl HK4 HC4

theorem typed_any {T : List Nd} (hT : T.length ≤ 16384) : ∀ f, TypedC T f
  | 0 => fun g r tv ev env p q w I he hfit hlen hs => absurd hs shape_zero_no
  | f + 1 => fun g r tv ev env p q w I he hfit hlen hs => by
    have ih := typed_any hT f
    obtain ⟨x, hx, hk, hq⟩ := shape_ok hs
    cases hw : wordsM x env.length with
    | some e0 => exact typed_bad hT f g r tv ev env p q w I he hfit hlen x hx hk hq _ hw e0 rfl (Lib.hid (by rw [typedM, hx]; simp only [hw]))
    | none =>
      by_cases h4 : x.kind = 4
      · have hw2 := hw
        simp only [wordsM, h4] at hw2
        have hn : 0 ≤ x.n ∧ x.n < (env.length : Int) := by
          refine Decidable.byContradiction fun hc => ?_
          rw [if_neg hc] at hw2
          simp at hw2
        have hkl : x.n.toNat < env.length := by omega
        refine typed_var hT f g r tv ev env p q w I he hfit hlen x hx hk hq _ hw rfl (Lib.hid h4) x.n.toNat (Lib.hid (by omega)) hkl (Lib.hid ?_)
        rw [typedM, hx]
        simp only [hw, h4, if_true, List.getElem?_eq_getElem hkl]
      · by_cases h56 : x.kind = 5 ∨ x.kind = 6
        · have h0 := kids_ok hk (a := 1) (by rcases h56 with h | h <;> rw [h] <;> rfl)
          have hk1 : x.kids.toNat = 1 := by omega
          have hs1 := hq
          rw [hk1] at hs1
          have hs1 := times_one hs1
          cases ht : tyOf x.t with
          | none => rcases h56 with h | h <;> simp [wordsM, h, ht] at hw
          | some a =>
            cases hu : tyOf x.u with
            | none => rcases h56 with h | h <;> simp [wordsM, h, ht, hu] at hw
            | some u =>
              obtain ⟨ha1, ha2⟩ := tyOf_good ht
              obtain ⟨hu1, hu2⟩ := tyOf_good hu
              by_cases hf : (Ty.fn a u).fits
              · have hm : madeM (.fn a u) = .ok (.fn a u) := by simp [madeM]; exact hf
                rcases h56 with h | h
                · refine typed_fn hT f ih g r tv ev env p q w I he hfit hlen x hx hk hq _ hw rfl (Lib.hid h) a u ha2 hu2 (Lib.hid ha1) (Lib.hid hu1) (Lib.hid hf) (Lib.hid hs1) (Lib.hid ?_)
                  rw [typedM, hx]
                  simp [hw, h, ht, hu, hm, atM]
                · refine typed_rec hT f ih g r tv ev env p q w I he hfit hlen x hx hk hq _ hw rfl (Lib.hid h) a u ha2 hu2 (Lib.hid ha1) (Lib.hid hu1) (Lib.hid hf) (Lib.hid hs1) (Lib.hid ?_)
                  rw [typedM, hx]
                  simp [hw, h, ht, hu, hm, atM]
              · have hm : madeM (.fn a u) = .error 21 := by simp [madeM]; exact Nat.not_le.1 hf
                rcases h56 with h | h
                · refine typed_fn_large hT f g r tv ev env p q w I he hfit hlen x hx hk hq _ hw rfl (Lib.hid h) a u ha2 hu2 (Lib.hid ha1) (Lib.hid hu1) (Lib.hid hf) (Lib.hid ?_)
                  rw [typedM, hx]
                  simp [hw, h, ht, hu, hm, atM]
                · refine typed_rec_large hT f g r tv ev env p q w I he hfit hlen x hx hk hq _ hw rfl (Lib.hid h) a u ha2 hu2 (Lib.hid ha1) (Lib.hid hu1) (Lib.hid hf) (Lib.hid ?_)
                  rw [typedM, hx]
                  simp [hw, h, ht, hu, hm, atM]
        · have h5 : x.kind ≠ 5 := fun h => h56 (.inl h)
          have h6 : x.kind ≠ 6 := fun h => h56 (.inr h)
          by_cases h8 : x.kind = 8
          · have h0 := kids_ok hk (a := 2) (by rw [h8]; rfl)
            have hk1 : x.kids.toNat = 2 := by omega
            have hs1 := hq
            rw [hk1] at hs1
            obtain ⟨m, hs1, hs2⟩ := times_succ hs1
            have hs2 := times_one hs2
            refine typed_let hT f ih g r tv ev env p q w I he hfit hlen x hx hk hq _ hw rfl (Lib.hid h8) m (Lib.hid hs1) (Lib.hid hs2) (Lib.hid ?_)
            rw [typedM, hx]
            simp [hw, h8]
            rfl
          · have h0 : 0 ≤ x.kids := by
              obtain ⟨a, ha, h0, _⟩ := kids_facts hk
              exact h0
            refine typed_rule hT f ih g r tv ev env p q w I he hfit hlen x hx hk hq _ hw rfl (Lib.hid h4) (Lib.hid h5) (Lib.hid h6) (Lib.hid h8) x.kids.toNat (Lib.hid (by omega)) (Lib.hid ?_)
            rw [typedM, hx]
            simp only [hw, if_neg h4, if_neg h5, if_neg h6, if_neg h8]
            rfl
end Go.Proofs.Ytnmhiddahfnkoaa
