
/- Walks of insert: types to which kids are cast. -/
import Derived.Test.YtdfadmhomjcmeaaGreatDoorNx
import Derived.Test.YtdfadmhomjcmeaaGreatDoorNz
namespace Culp.Ins
set_option linter.unusedSimpArgs false
set_option linter.unusedVariables false
open Culp.Tr
/-- Meets that can be made, one after the other. -/
def MetC : Ty → List Ty → Prop
  | _, [] => True
  | m, t :: L => cons m t = true ∧ (meet m t).fits ∧ MetC (meet m t) L
theorem meets_met {p : Nat} : ∀ {K : List (Nat × Ty)} {m r : Ty}, meetsT false p m K = .ok r → MetC m (K.map Prod.snd)
  | [], m, r, _ => trivial
  | (q, s) :: K, m, r, h => by
    unfold meetsT at h
    cases hf : fitT false m s 25 q with
    | error b => rw [hf] at h; cases h
    | ok v =>
      rw [hf] at h
      dsimp only at h
      split at h
      · rename_i h64
        exact ⟨fit_cons hf, h64, meets_met h⟩
      · cases h
end Culp.Ins
namespace Go.Proofs.YtdfadmhomjcmeaaGreatDoor
set_option linter.unusedSimpArgs false
set_option linter.unusedVariables false
open Go.RowKit Culp
section
variable {W w : World} {c : Nat} {m : ByteArray} {tv yv sv : Value} {S : List Ins.Sit} {ys : List ByteArray}
theorem headed_any (p : Nat) (t u : Ty) (hY : Nms W yv ys) (hp : ys[p]? = some t.str) (h : InAt W c m tv yv sv S w) :
    Calls Tryz.prog 119 #[.pointer (some ⟨c, 0, none⟩), .int .i64 (p : Int), .string u.str] w (Gives (.string (Ins.headed t u).str) w) := by
  have c2 := h.c2
  obtain ⟨g, C, rfl, r0, hlt, -⟩ := types_read hY h.low hp
  obtain ⟨_, _, _, _, hY4⟩ := hY
  clear hY4 h hp
  by_cases hd : t = .dyn
  · subst hd
    have es : (Ty.dyn.str.toList == [63]) = true := by rw [toL']; rfl
    have HR : Hid (Ins.headed .dyn u = u) := Lib.hid (if_pos rfl)
    go_enter Tryz.func119, Tryz.ntmps119
    go_wp2_with fail
    go_ret
    rw [HR.out]
    exact Gives.mk rfl
  · have es := str_dyn hd
    have HR : Hid (Ins.headed t u = t) := Lib.hid (if_neg hd)
    clear hd
    go_enter Tryz.func119, Tryz.ntmps119
    go_wp2_with fail
    go_ret
    rw [HR.out]
    exact Gives.mk rfl
theorem inner_made {t u : Ty} {b : UInt8} {l : List Ty} (hm : Tr.matchT t b = some l) (hp : l[0]? = some u) : Ins.innerM t b = u := by
  unfold Ins.innerM
  rw [hm]
  simp [List.getD_eq_getElem?_getD, hp]
theorem iinner_any (p : Nat) (t u : Ty) (ht : t.fits) (b : UInt8) (hb : b = 62 ∨ b = 44 ∨ b = 108 ∨ b = 120) (l : List Ty) (hm : Tr.matchT t b = some l) (hl : l[0]? = some u) (hY : Nms W yv ys) (hp : ys[p]? = some t.str) (h : InAt W c m tv yv sv S w) :
    Calls Tryz.prog 120 #[.pointer (some ⟨c, 0, none⟩), .int .i64 (p : Int), .int .u8 b.toNat, .int .i64 0] w (Makes (.string (Ins.innerM t b).str) w) := by
  have c2 := h.c2
  obtain ⟨g, C, rfl, r0, hlt, -⟩ := types_read hY h.low hp
  have HC := Lib.hid (fun w => Match_any t w ht b hb)
  rw [hm] at HC
  have hpl : 0 < l.length := (List.getElem?_eq_some_iff.1 hl).1
  have HR : Hid (Ins.innerM t b = u) := Lib.hid (inner_made hm hl)
  clear h hm hb hY hp
  go_enter Tryz.func120, Tryz.ntmps120
  go_wp2_with fail
  refine (HC.out _).mono ?_
  rintro E w1 ⟨v1, rfl, ho1, hb1⟩
  obtain ⟨A1, c1', rfl⟩ := own_shape ho1
  obtain ⟨g1, _, e1, -⟩ := own_read ho1 (by omega)
  simp only [Value.slice.injEq] at e1
  obtain ⟨rfl, -, rfl⟩ := e1
  have r1 := (own_get ho1 (i := 0) (v := .string u.str) (by unfold strs; rw [List.getElem?_map, hl]; rfl)).1
  have HB := Lib.hid hb1
  clear hb1 c2 r0 ho1
  go_wp2_with fail
  go_ret
  rw [HR.out]
  exact ⟨rfl, HB.out⟩
theorem imet_any (K : List (Nat × Ty)) (kv : Value) (hk : KidsV c w kv (K.map Prod.fst) ∨ (K = [] ∧ ∃ A C, kv = .slice A 0 C)) (hT : Told ys K) (hM : Ins.MetC .dyn (K.map Prod.snd)) (hK : K.length ≤ 1000000) (hY : Nms W yv ys) (h : InAt W c m tv yv sv S w) :
    Calls Tryz.prog 121 #[.pointer (some ⟨c, 0, none⟩), kv] w (Makes (.string (Ins.met (K.map Prod.snd)).str) w) := by
  have HH := Lib.hid h
  have HT := Lib.hid hT
  have HY := Lib.hid hY
  have HM := Lib.hid hM
  obtain ⟨A, C, rfl⟩ : ∃ A C, kv = .slice A K.length C := by
    rcases hk with ⟨g, o, C, n, rfl, hn, -⟩ | ⟨rfl, A, C, rfl⟩
    · exact ⟨_, _, by rw [← hn, List.length_map]⟩
    · exact ⟨A, C, rfl⟩
  have HKV : Hid (∀ (j p : Nat), (K.map Prod.fst)[j]? = some p → ∃ g o, A = some ⟨g, o, none⟩ ∧ w.cell? ⟨g, o + j, none⟩ = some (.int .i64 (p : Int))) := Lib.hid (fun j p hj => by
    rcases hk with ⟨g, o, C', n, e, -, -, -, hc⟩ | ⟨rfl, -⟩
    · simp only [Value.slice.injEq] at e
      obtain ⟨rfl, -, -⟩ := e
      exact ⟨g, o, rfl, hc j p hj⟩
    · simp at hj)
  clear h hT hY hM hk
  go_enter Tryz.func121, Tryz.ntmps121
  go_wp2_with fail
  go_loopw [5, 10] (fun u i wr => ∃ (k : Nat) (mt : Ty), i = .int .i64 k ∧ k ≤ K.length ∧ u = .string mt.str ∧ Hid mt.fits ∧ Hid (Ins.MetC mt ((K.drop k).map Prod.snd)) ∧ Hid (Ins.met (K.map Prod.snd) = ((K.drop k).map Prod.snd).foldl meet mt) ∧ Hid (Below w.heap.size w wr)) (fun _ i _ => K.length - (intOf i).toNat)
  case atStart => exact ⟨0, .dyn, rfl, Nat.zero_le _, rfl, Lib.hid (by simp [Ty.fits, Ty.enc]), HM, Lib.hid rfl, Lib.hid (Below.refl _ _)⟩
  case round =>
    clear HM
    obtain ⟨k, mt, rfl, hk, rfl, HF, HM, HR, HB⟩ := hrel
    by_cases hlt : k < K.length
    · obtain ⟨⟨q, s⟩, hKk⟩ : ∃ x, K[k]? = some x := ⟨_, List.getElem?_eq_getElem hlt⟩
      obtain ⟨gk, o, rfl, hkq⟩ := HKV.out k q (by rw [List.getElem?_map, hKk]; rfl)
      have x0 := cell_later HB.out hkq
      have hts := HT.out (q, s) (List.mem_of_getElem? hKk)
      have hD : K.drop k = (q, s) :: K.drop (k + 1) := by
        rw [List.drop_eq_getElem_cons hlt]
        rw [List.getElem?_eq_getElem hlt] at hKk
        injection hKk with hKk
        rw [hKk]
      have hM1 := HM.out
      have hR1 := HR.out
      rw [hD] at hM1 hR1
      simp only [List.map_cons, Ins.MetC] at hM1
      simp only [List.map_cons, List.foldl_cons] at hR1
      have HMT := Lib.hid (fun w => Meet_any mt s w HF.out hts.2 hM1.1)
      have HE : Hid (MeetRes mt s = .tuple #[.string (meet mt s).str, .int .i64 0]) := Lib.hid (if_pos hM1.2.1)
      have HM2 := Lib.hid hM1.2.2
      have HF2 : Hid (meet mt s).fits := Lib.hid hM1.2.1
      have HR2 := Lib.hid hR1
      have HI := Lib.hid (HH.out.later HB.out)
      have c2 := HI.out.c2
      obtain ⟨g, C', rfl, r0, hql, -⟩ := types_read HY.out HI.out.low hts.1
      clear hKk hkq hts hD hM1 hR1 HM HR
      go_wp2_with fail
      refine (HMT.out _).mono ?_
      rintro E w3 ⟨rfl, hb3⟩
      have HB3 := Lib.hid (HB.out.trans (hb3.mono HB.out.size))
      clear hb3 c2 r0 x0 HMT
      rw [HE.out]
      go_wp2_with fail
      go_roundw
      case rel => exact ⟨k + 1, meet mt s, by go_num, by omega, rfl, HF2, HM2, HR2, HB3⟩
      case measure => simp [intOf]; omega
    · have HR2 : Hid (Ins.met (K.map Prod.snd) = mt) := Lib.hid (by rw [HR.out, List.drop_eq_nil_of_le (by omega)]; rfl)
      clear HR HM
      go_wp2_with fail
      go_ret
      rw [HR2.out]
      exact ⟨rfl, HB.out⟩
end
end Go.Proofs.YtdfadmhomjcmeaaGreatDoor

/- Walks of insert: the casts that a node asks for. -/
namespace Go.Proofs.YtdfadmhomjcmeaaGreatDoor
set_option linter.unusedSimpArgs false
set_option linter.unusedVariables false
open Go.RowKit Culp
theorem own_wide (w : World) (e : TypeId) (size n : Nat) (cs : Array Value) (h : cs.size = n * size) (hn : n ≤ 1000) : (w.alloc (.cells cs e)).ownsRow w.heap.size e size (.slice (some ⟨w.heap.size, 0, none⟩) n n) n cs.toList := by
  refine ⟨by simpa using h, .inr ⟨w.heap.size, n, cs, rfl, Nat.le_refl _, (MapKept.heap_alloc w _).1, Nat.le_refl _, by unfold maxLen; omega, h, ?_⟩⟩
  rw [List.take_of_length_le (by rw [Array.length_toList, h]; exact Nat.le_refl _)]
theorem build_wish2 (w : World) (k r k2 r2 : Int) (t t2 : ByteArray) : (Instr.buildSlice 120 2 #[(0, .agg #[.int .i64 k, .string t, .int .i64 r]), (1, .agg #[.int .i64 k2, .string t2, .int .i64 r2])]).run Tryz.prog w = .ok (.slice (some ⟨w.heap.size, 0, none⟩) 2 2) (w.alloc (.cells #[.int .i64 k, .string t, .int .i64 r, .int .i64 k2, .string t2, .int .i64 r2] 123)) := by
  simp [go_sem, Instr.buildSlice, run_underlying Tryz.underlying120]
theorem build_wish3 (w : World) (k r k2 r2 k3 r3 : Int) (t t2 t3 : ByteArray) : (Instr.buildSlice 120 3 #[(0, .agg #[.int .i64 k, .string t, .int .i64 r]), (1, .agg #[.int .i64 k2, .string t2, .int .i64 r2]), (2, .agg #[.int .i64 k3, .string t3, .int .i64 r3])]).run Tryz.prog w = .ok (.slice (some ⟨w.heap.size, 0, none⟩) 3 3) (w.alloc (.cells #[.int .i64 k, .string t, .int .i64 r, .int .i64 k2, .string t2, .int .i64 r2, .int .i64 k3, .string t3, .int .i64 r3] 123)) := by
  simp [go_sem, Instr.buildSlice, run_underlying Tryz.underlying120]
/-- A row that was built last. -/
theorem wish_made {P : List Nat} {L : List Ins.Wish} {w w1 : World} {cs : Array Value} (hcs : cs.toList = L.flatMap (wcells P)) (hL : L.length ≤ 1000) (hb : Below w.heap.size w w1) : WishRes P L w (.returned (.slice (some ⟨w1.heap.size, 0, none⟩) L.length L.length)) (w1.alloc (.cells cs 123)) := by
  have hf : ∀ l : List Ins.Wish, (l.flatMap (wcells P)).length = l.length * 3 := fun l => by
    induction l with
    | nil => rfl
    | cons a l ih => rw [List.flatMap_cons, List.length_append, ih, List.length_cons]; simp [wcells]; omega
  refine ⟨_, rfl, ?_, hb.alloc hb.size _⟩
  have := own_wide w1 123 3 L.length cs (by rw [← Array.length_toList, hcs, hf]) hL
  rw [hcs] at this
  exact own_base this hb.size
section
variable {W w : World} {c : Nat} {m : ByteArray} {tv yv sv kv : Value} {S : List Ins.Sit} {ys : List ByteArray} {T : List Nd} {x : Nd} {p p0 p1 p2 : Nat} {t0 t1 t2 : Ty}
set_option maxRecDepth 100000 in
set_option maxHeartbeats 1600000 in
theorem wishes_5 (hx : T[p]? = some x) (hk : x.kind = 5) (hN : Nodes W tv T) (hTl : T.length ≤ 1000000) (hK : KidsV c w kv (([(p0, t0)]).map Prod.fst)) (hT : Told ys ([(p0, t0)])) (hY : Nms W yv ys) (h : InAt W c m tv yv sv S w) (hn : NoteOk x.u):
    Calls Tryz.prog 68 #[.pointer (some ⟨c, 0, none⟩), .int .i64 (p : Int), kv] w (WishRes (([(p0, t0)]).map Prod.fst) ([(0, Tr.noteT x.u, 1)]) w) := by
  have HI := Lib.hid h
  have HT := Lib.hid hT
  have HY := Lib.hid hY
  have hp := (List.getElem?_eq_some_iff.1 hx).1
  have c1 := h.c1
  obtain ⟨A, C, rfl, hlc, hNN⟩ := hN.later h.low
  obtain ⟨b, off, rfl, hM⟩ := hNN (by omega)
  obtain ⟨n0, n1, n2, n3, n4, n5, n6, n7⟩ := hM.at_ hx
  obtain ⟨k, kd, n, s, t, u, l, cl⟩ := x
  obtain rfl : k = 5 := hk
  obtain ⟨g, o, Ck, rfl, hlC, hg, hkc⟩ := hK.shape
  have HKV := Lib.hid hkc
  have hlm : (([(p0, t0)] : List (Nat × Ty)).map Prod.fst).length = ([(p0, t0)] : List (Nat × Ty)).length := List.length_map _
  rw [hlm] at hlC ⊢
  have HBX : Hid (Box w.heap.size (Nd.mk 5 kd n s t u l cl) (w.alloc (.cells #[.int .i8 5, .int .i64 kd, .int .i64 n, .string s, .string t, .string u, .int .i64 l, .int .i64 cl] 38))) := Lib.hid (MapKept.heap_alloc w _).1
  have HB0 := Lib.hid ((Below.refl w.heap.size w).alloc (Nat.le_refl _) (.cells #[.int .i8 5, .int .i64 kd, .int .i64 n, .string s, .string t, .string u, .int .i64 l, .int .i64 cl] 38))
  clear hM hNN hN h hx hT hY hkc hlm hK
  simp only at n0 n1 n2 n3 n4 n5 n6 n7
  go_enter Tryz.func68, Tryz.ntmps68
  go_wp2_with fail
  have HU := Lib.hid (fun w' => iunknown_any u hn w')
  have x4 := HBX.out.cell 4
  have x5 := HBX.out.cell 5
  have k0 := HKV.out _ (Keep.of HB0.out) 0 p0 rfl
  rw [Nat.add_zero] at k0
  have HIB := Lib.hid (HI.out.later HB0.out)
  clear n0 n1 n2 n3 n4 n5 n6 n7 c1 HBX
  generalize (w.alloc (.cells #[.int .i8 5, .int .i64 kd, .int .i64 n, .string s, .string t, .string u, .int .i64 l, .int .i64 cl] 38)) = w1 at *
  refine wp_region_plan (S := fun w' => w'.cell? ⟨g, o, none⟩ = some (.int .i64 (p0 : Int)) ∧ w'.cell? ⟨w.heap.size, 4, none⟩ = some (.string t) ∧ w'.cell? ⟨w.heap.size, 5, none⟩ = some (.string u)) [(0, true), (1, true), (2, true), (3, true), (4, true), (5, false), (6, true), (7, false), (8, true)] (by kernel_rfl) (by kernel_rfl) (by kernel_rfl) (fun _ _ _ _ _ h => h) ⟨k0, x4, x5⟩ ?_
  intro HS
  repeat (first | (apply wpPlan_look; rfl; rfl; (intro wq hq; (try dsimp only at hq); go_split_ands; go_simp; (try rw [if_neg (by omega)]); (try rw [if_pos (by omega)]); try with_reducible rfl); simp only [Act.put, List.setIfInBounds_toArray, List.set_cons_zero, List.set_cons_succ]) | (apply wpPlan_skip; rfl; rfl; simp only [Act.put, List.setIfInBounds_toArray, List.set_cons_zero, List.set_cons_succ]) | (apply wpPlan_pass; rfl; rfl; assumption; simp only [Act.put, List.setIfInBounds_toArray, List.set_cons_zero, List.set_cons_succ]))
  apply wpPlan_call; rfl; rfl; rfl; rfl; kernel_rfl; exact HU.out _; rfl; rintro E w5 ⟨rfl, rfl⟩
  refine ⟨_, rfl, as_S HS ?_⟩
  intro HS
  simp only [Act.put, List.setIfInBounds_toArray, List.set_cons_zero, List.set_cons_succ]
  repeat (first | (apply wpPlan_look; rfl; rfl; (intro wq hq; (try dsimp only at hq); go_split_ands; go_simp; (try rw [if_neg (by omega)]); (try rw [if_pos (by omega)]); try with_reducible rfl); simp only [Act.put, List.setIfInBounds_toArray, List.set_cons_zero, List.set_cons_succ]) | (apply wpPlan_skip; rfl; rfl; simp only [Act.put, List.setIfInBounds_toArray, List.set_cons_zero, List.set_cons_succ]) | (apply wpPlan_pass; rfl; rfl; assumption; simp only [Act.put, List.setIfInBounds_toArray, List.set_cons_zero, List.set_cons_succ]))
  have hb5 : Below w1.heap.size w1 (w1.drew.alloc (.cells #[.int .i64 (p0 : Int), .string (Tr.noteT u).str, .int .i64 1] 123)) := (Below.refl _ _).drew.alloc (Nat.le_refl _) _
  have q0 := cell_later hb5 k0
  have q4 := cell_later hb5 x4
  have q5 := cell_later hb5 x5
  refine wpPlan_run rfl rfl (by simp [execOp, go_sem, build_wish]; (first | exact ⟨rfl, rfl⟩ | rfl)) _ (fun _ h => h) ⟨q0, q4, q5⟩ ?_
  simp only [Act.put, List.setIfInBounds_toArray, List.set_cons_zero, List.set_cons_succ]
  repeat (first | (apply wpPlan_look; rfl; rfl; (intro wq hq; (try dsimp only at hq); go_split_ands; go_simp; (try rw [if_neg (by omega)]); (try rw [if_pos (by omega)]); try with_reducible rfl); simp only [Act.put, List.setIfInBounds_toArray, List.set_cons_zero, List.set_cons_succ]) | (apply wpPlan_skip; rfl; rfl; simp only [Act.put, List.setIfInBounds_toArray, List.set_cons_zero, List.set_cons_succ]) | (apply wpPlan_pass; rfl; rfl; assumption; simp only [Act.put, List.setIfInBounds_toArray, List.set_cons_zero, List.set_cons_succ]))
  apply wpPlan_done
  go_wp2_with fail
  go_ret
  exact wish_made (w1 := w1.drew) (L := [(0, Tr.noteT u, 1)]) rfl (by simp) HB0.out.drew
set_option maxRecDepth 100000 in
set_option maxHeartbeats 1600000 in
theorem wishes_6 (hx : T[p]? = some x) (hk : x.kind = 6) (hN : Nodes W tv T) (hTl : T.length ≤ 1000000) (hK : KidsV c w kv (([(p0, t0)]).map Prod.fst)) (hT : Told ys ([(p0, t0)])) (hY : Nms W yv ys) (h : InAt W c m tv yv sv S w) (hn : NoteOk x.u):
    Calls Tryz.prog 68 #[.pointer (some ⟨c, 0, none⟩), .int .i64 (p : Int), kv] w (WishRes (([(p0, t0)]).map Prod.fst) ([(0, Tr.noteT x.u, 1)]) w) := by
  have HI := Lib.hid h
  have HT := Lib.hid hT
  have HY := Lib.hid hY
  have hp := (List.getElem?_eq_some_iff.1 hx).1
  have c1 := h.c1
  obtain ⟨A, C, rfl, hlc, hNN⟩ := hN.later h.low
  obtain ⟨b, off, rfl, hM⟩ := hNN (by omega)
  obtain ⟨n0, n1, n2, n3, n4, n5, n6, n7⟩ := hM.at_ hx
  obtain ⟨k, kd, n, s, t, u, l, cl⟩ := x
  obtain rfl : k = 6 := hk
  obtain ⟨g, o, Ck, rfl, hlC, hg, hkc⟩ := hK.shape
  have HKV := Lib.hid hkc
  have hlm : (([(p0, t0)] : List (Nat × Ty)).map Prod.fst).length = ([(p0, t0)] : List (Nat × Ty)).length := List.length_map _
  rw [hlm] at hlC ⊢
  have HBX : Hid (Box w.heap.size (Nd.mk 6 kd n s t u l cl) (w.alloc (.cells #[.int .i8 6, .int .i64 kd, .int .i64 n, .string s, .string t, .string u, .int .i64 l, .int .i64 cl] 38))) := Lib.hid (MapKept.heap_alloc w _).1
  have HB0 := Lib.hid ((Below.refl w.heap.size w).alloc (Nat.le_refl _) (.cells #[.int .i8 6, .int .i64 kd, .int .i64 n, .string s, .string t, .string u, .int .i64 l, .int .i64 cl] 38))
  clear hM hNN hN h hx hT hY hkc hlm hK
  simp only at n0 n1 n2 n3 n4 n5 n6 n7
  go_enter Tryz.func68, Tryz.ntmps68
  go_wp2_with fail
  have HU := Lib.hid (fun w' => iunknown_any u hn w')
  have x4 := HBX.out.cell 4
  have x5 := HBX.out.cell 5
  have k0 := HKV.out _ (Keep.of HB0.out) 0 p0 rfl
  rw [Nat.add_zero] at k0
  have HIB := Lib.hid (HI.out.later HB0.out)
  clear n0 n1 n2 n3 n4 n5 n6 n7 c1 HBX
  generalize (w.alloc (.cells #[.int .i8 6, .int .i64 kd, .int .i64 n, .string s, .string t, .string u, .int .i64 l, .int .i64 cl] 38)) = w1 at *
  refine wp_region_plan (S := fun w' => w'.cell? ⟨g, o, none⟩ = some (.int .i64 (p0 : Int)) ∧ w'.cell? ⟨w.heap.size, 4, none⟩ = some (.string t) ∧ w'.cell? ⟨w.heap.size, 5, none⟩ = some (.string u)) [(0, true), (1, true), (2, true), (3, true), (4, true), (5, false), (6, true), (7, false), (8, true)] (by kernel_rfl) (by kernel_rfl) (by kernel_rfl) (fun _ _ _ _ _ h => h) ⟨k0, x4, x5⟩ ?_
  intro HS
  repeat (first | (apply wpPlan_look; rfl; rfl; (intro wq hq; (try dsimp only at hq); go_split_ands; go_simp; (try rw [if_neg (by omega)]); (try rw [if_pos (by omega)]); try with_reducible rfl); simp only [Act.put, List.setIfInBounds_toArray, List.set_cons_zero, List.set_cons_succ]) | (apply wpPlan_skip; rfl; rfl; simp only [Act.put, List.setIfInBounds_toArray, List.set_cons_zero, List.set_cons_succ]) | (apply wpPlan_pass; rfl; rfl; assumption; simp only [Act.put, List.setIfInBounds_toArray, List.set_cons_zero, List.set_cons_succ]))
  apply wpPlan_call; rfl; rfl; rfl; rfl; kernel_rfl; exact HU.out _; rfl; rintro E w5 ⟨rfl, rfl⟩
  refine ⟨_, rfl, as_S HS ?_⟩
  intro HS
  simp only [Act.put, List.setIfInBounds_toArray, List.set_cons_zero, List.set_cons_succ]
  repeat (first | (apply wpPlan_look; rfl; rfl; (intro wq hq; (try dsimp only at hq); go_split_ands; go_simp; (try rw [if_neg (by omega)]); (try rw [if_pos (by omega)]); try with_reducible rfl); simp only [Act.put, List.setIfInBounds_toArray, List.set_cons_zero, List.set_cons_succ]) | (apply wpPlan_skip; rfl; rfl; simp only [Act.put, List.setIfInBounds_toArray, List.set_cons_zero, List.set_cons_succ]) | (apply wpPlan_pass; rfl; rfl; assumption; simp only [Act.put, List.setIfInBounds_toArray, List.set_cons_zero, List.set_cons_succ]))
  have hb5 : Below w1.heap.size w1 (w1.drew.alloc (.cells #[.int .i64 (p0 : Int), .string (Tr.noteT u).str, .int .i64 1] 123)) := (Below.refl _ _).drew.alloc (Nat.le_refl _) _
  have q0 := cell_later hb5 k0
  have q4 := cell_later hb5 x4
  have q5 := cell_later hb5 x5
  refine wpPlan_run rfl rfl (by simp [execOp, go_sem, build_wish]; (first | exact ⟨rfl, rfl⟩ | rfl)) _ (fun _ h => h) ⟨q0, q4, q5⟩ ?_
  simp only [Act.put, List.setIfInBounds_toArray, List.set_cons_zero, List.set_cons_succ]
  repeat (first | (apply wpPlan_look; rfl; rfl; (intro wq hq; (try dsimp only at hq); go_split_ands; go_simp; (try rw [if_neg (by omega)]); (try rw [if_pos (by omega)]); try with_reducible rfl); simp only [Act.put, List.setIfInBounds_toArray, List.set_cons_zero, List.set_cons_succ]) | (apply wpPlan_skip; rfl; rfl; simp only [Act.put, List.setIfInBounds_toArray, List.set_cons_zero, List.set_cons_succ]) | (apply wpPlan_pass; rfl; rfl; assumption; simp only [Act.put, List.setIfInBounds_toArray, List.set_cons_zero, List.set_cons_succ]))
  apply wpPlan_done
  go_wp2_with fail
  go_ret
  exact wish_made (w1 := w1.drew) (L := [(0, Tr.noteT u, 1)]) rfl (by simp) HB0.out.drew
set_option maxRecDepth 100000 in
set_option maxHeartbeats 1600000 in
theorem wishes_8 (hx : T[p]? = some x) (hk : x.kind = 8) (hN : Nodes W tv T) (hTl : T.length ≤ 1000000) (hK : KidsV c w kv (([(p0, t0), (p1, t1)]).map Prod.fst)) (hT : Told ys ([(p0, t0), (p1, t1)])) (hY : Nms W yv ys) (h : InAt W c m tv yv sv S w) (hn : NoteOk x.t):
    Calls Tryz.prog 68 #[.pointer (some ⟨c, 0, none⟩), .int .i64 (p : Int), kv] w (WishRes (([(p0, t0), (p1, t1)]).map Prod.fst) ([(0, Tr.noteT x.t, 2)]) w) := by
  have HI := Lib.hid h
  have HT := Lib.hid hT
  have HY := Lib.hid hY
  have hp := (List.getElem?_eq_some_iff.1 hx).1
  have c1 := h.c1
  obtain ⟨A, C, rfl, hlc, hNN⟩ := hN.later h.low
  obtain ⟨b, off, rfl, hM⟩ := hNN (by omega)
  obtain ⟨n0, n1, n2, n3, n4, n5, n6, n7⟩ := hM.at_ hx
  obtain ⟨k, kd, n, s, t, u, l, cl⟩ := x
  obtain rfl : k = 8 := hk
  obtain ⟨g, o, Ck, rfl, hlC, hg, hkc⟩ := hK.shape
  have HKV := Lib.hid hkc
  have hlm : (([(p0, t0), (p1, t1)] : List (Nat × Ty)).map Prod.fst).length = ([(p0, t0), (p1, t1)] : List (Nat × Ty)).length := List.length_map _
  rw [hlm] at hlC ⊢
  have HBX : Hid (Box w.heap.size (Nd.mk 8 kd n s t u l cl) (w.alloc (.cells #[.int .i8 8, .int .i64 kd, .int .i64 n, .string s, .string t, .string u, .int .i64 l, .int .i64 cl] 38))) := Lib.hid (MapKept.heap_alloc w _).1
  have HB0 := Lib.hid ((Below.refl w.heap.size w).alloc (Nat.le_refl _) (.cells #[.int .i8 8, .int .i64 kd, .int .i64 n, .string s, .string t, .string u, .int .i64 l, .int .i64 cl] 38))
  clear hM hNN hN h hx hT hY hkc hlm hK
  simp only at n0 n1 n2 n3 n4 n5 n6 n7
  go_enter Tryz.func68, Tryz.ntmps68
  go_wp2_with fail
  have HU := Lib.hid (fun w' => iunknown_any t hn w')
  have x4 := HBX.out.cell 4
  have x5 := HBX.out.cell 5
  have k0 := HKV.out _ (Keep.of HB0.out) 0 p0 rfl
  rw [Nat.add_zero] at k0
  have HIB := Lib.hid (HI.out.later HB0.out)
  clear n0 n1 n2 n3 n4 n5 n6 n7 c1 HBX
  generalize (w.alloc (.cells #[.int .i8 8, .int .i64 kd, .int .i64 n, .string s, .string t, .string u, .int .i64 l, .int .i64 cl] 38)) = w1 at *
  refine wp_region_plan (S := fun w' => w'.cell? ⟨g, o, none⟩ = some (.int .i64 (p0 : Int)) ∧ w'.cell? ⟨w.heap.size, 4, none⟩ = some (.string t) ∧ w'.cell? ⟨w.heap.size, 5, none⟩ = some (.string u)) [(0, true), (1, true), (2, true), (3, true), (4, true), (5, false), (6, true), (7, false), (8, true)] (by kernel_rfl) (by kernel_rfl) (by kernel_rfl) (fun _ _ _ _ _ h => h) ⟨k0, x4, x5⟩ ?_
  intro HS
  repeat (first | (apply wpPlan_look; rfl; rfl; (intro wq hq; (try dsimp only at hq); go_split_ands; go_simp; (try rw [if_neg (by omega)]); (try rw [if_pos (by omega)]); try with_reducible rfl); simp only [Act.put, List.setIfInBounds_toArray, List.set_cons_zero, List.set_cons_succ]) | (apply wpPlan_skip; rfl; rfl; simp only [Act.put, List.setIfInBounds_toArray, List.set_cons_zero, List.set_cons_succ]) | (apply wpPlan_pass; rfl; rfl; assumption; simp only [Act.put, List.setIfInBounds_toArray, List.set_cons_zero, List.set_cons_succ]))
  apply wpPlan_call; rfl; rfl; rfl; rfl; kernel_rfl; exact HU.out _; rfl; rintro E w5 ⟨rfl, rfl⟩
  refine ⟨_, rfl, as_S HS ?_⟩
  intro HS
  simp only [Act.put, List.setIfInBounds_toArray, List.set_cons_zero, List.set_cons_succ]
  repeat (first | (apply wpPlan_look; rfl; rfl; (intro wq hq; (try dsimp only at hq); go_split_ands; go_simp; (try rw [if_neg (by omega)]); (try rw [if_pos (by omega)]); try with_reducible rfl); simp only [Act.put, List.setIfInBounds_toArray, List.set_cons_zero, List.set_cons_succ]) | (apply wpPlan_skip; rfl; rfl; simp only [Act.put, List.setIfInBounds_toArray, List.set_cons_zero, List.set_cons_succ]) | (apply wpPlan_pass; rfl; rfl; assumption; simp only [Act.put, List.setIfInBounds_toArray, List.set_cons_zero, List.set_cons_succ]))
  have hb5 : Below w1.heap.size w1 (w1.drew.alloc (.cells #[.int .i64 (p0 : Int), .string (Tr.noteT t).str, .int .i64 2] 123)) := (Below.refl _ _).drew.alloc (Nat.le_refl _) _
  have q0 := cell_later hb5 k0
  have q4 := cell_later hb5 x4
  have q5 := cell_later hb5 x5
  refine wpPlan_run rfl rfl (by simp [execOp, go_sem, build_wish]; (first | exact ⟨rfl, rfl⟩ | rfl)) _ (fun _ h => h) ⟨q0, q4, q5⟩ ?_
  simp only [Act.put, List.setIfInBounds_toArray, List.set_cons_zero, List.set_cons_succ]
  repeat (first | (apply wpPlan_look; rfl; rfl; (intro wq hq; (try dsimp only at hq); go_split_ands; go_simp; (try rw [if_neg (by omega)]); (try rw [if_pos (by omega)]); try with_reducible rfl); simp only [Act.put, List.setIfInBounds_toArray, List.set_cons_zero, List.set_cons_succ]) | (apply wpPlan_skip; rfl; rfl; simp only [Act.put, List.setIfInBounds_toArray, List.set_cons_zero, List.set_cons_succ]) | (apply wpPlan_pass; rfl; rfl; assumption; simp only [Act.put, List.setIfInBounds_toArray, List.set_cons_zero, List.set_cons_succ]))
  apply wpPlan_done
  go_wp2_with fail
  go_ret
  exact wish_made (w1 := w1.drew) (L := [(0, Tr.noteT t, 2)]) rfl (by simp) HB0.out.drew
set_option maxRecDepth 100000 in
set_option maxHeartbeats 1600000 in
theorem wishes_19 (hx : T[p]? = some x) (hk : x.kind = 19) (hN : Nodes W tv T) (hTl : T.length ≤ 1000000) (hK : KidsV c w kv (([(p0, t0)]).map Prod.fst)) (hT : Told ys ([(p0, t0)])) (hY : Nms W yv ys) (h : InAt W c m tv yv sv S w) :
    Calls Tryz.prog 68 #[.pointer (some ⟨c, 0, none⟩), .int .i64 (p : Int), kv] w (WishRes (([(p0, t0)]).map Prod.fst) ([(0, Ins.headed t0 (.pair .dyn .dyn), 10)]) w) := by
  have HI := Lib.hid h
  have HT := Lib.hid hT
  have HY := Lib.hid hY
  have hp := (List.getElem?_eq_some_iff.1 hx).1
  have c1 := h.c1
  obtain ⟨A, C, rfl, hlc, hNN⟩ := hN.later h.low
  obtain ⟨b, off, rfl, hM⟩ := hNN (by omega)
  obtain ⟨n0, n1, n2, n3, n4, n5, n6, n7⟩ := hM.at_ hx
  obtain ⟨k, kd, n, s, t, u, l, cl⟩ := x
  obtain rfl : k = 19 := hk
  obtain ⟨g, o, Ck, rfl, hlC, hg, hkc⟩ := hK.shape
  have HKV := Lib.hid hkc
  have hlm : (([(p0, t0)] : List (Nat × Ty)).map Prod.fst).length = ([(p0, t0)] : List (Nat × Ty)).length := List.length_map _
  rw [hlm] at hlC ⊢
  have HBX : Hid (Box w.heap.size (Nd.mk 19 kd n s t u l cl) (w.alloc (.cells #[.int .i8 19, .int .i64 kd, .int .i64 n, .string s, .string t, .string u, .int .i64 l, .int .i64 cl] 38))) := Lib.hid (MapKept.heap_alloc w _).1
  have HB0 := Lib.hid ((Below.refl w.heap.size w).alloc (Nat.le_refl _) (.cells #[.int .i8 19, .int .i64 kd, .int .i64 n, .string s, .string t, .string u, .int .i64 l, .int .i64 cl] 38))
  clear hM hNN hN h hx hT hY hkc hlm hK
  simp only at n0 n1 n2 n3 n4 n5 n6 n7
  go_enter Tryz.func68, Tryz.ntmps68
  go_wp2_with fail
  have HH := Lib.hid (fun (w' : World) (hI : InAt W c m (.slice (some ⟨b, off, none⟩) T.length C) yv sv S w') => headed_any p0 t0 (.pair .dyn .dyn) HY.out (HT.out _ List.mem_cons_self).1 hI)
  have x4 := HBX.out.cell 4
  have x5 := HBX.out.cell 5
  have k0 := HKV.out _ (Keep.of HB0.out) 0 p0 rfl
  rw [Nat.add_zero] at k0
  have HIB := Lib.hid (HI.out.later HB0.out)
  clear n0 n1 n2 n3 n4 n5 n6 n7 c1 HBX
  generalize (w.alloc (.cells #[.int .i8 19, .int .i64 kd, .int .i64 n, .string s, .string t, .string u, .int .i64 l, .int .i64 cl] 38)) = w1 at *
  refine wp_region_plan (S := fun w' => w'.cell? ⟨g, o, none⟩ = some (.int .i64 (p0 : Int))) [(0, true), (1, true), (2, true), (3, true), (4, true), (5, true), (6, true), (7, false), (8, true), (9, false), (10, true)] (by kernel_rfl) (by kernel_rfl) (by kernel_rfl) (fun _ _ _ _ _ h => h) k0 ?_
  intro HS
  repeat (first | (apply wpPlan_look; rfl; rfl; (intro wq hq; (try dsimp only at hq); go_split_ands; go_simp; (try rw [if_neg (by omega)]); (try rw [if_pos (by omega)]); try with_reducible rfl); simp only [Act.put, List.setIfInBounds_toArray, List.set_cons_zero, List.set_cons_succ]) | (apply wpPlan_skip; rfl; rfl; simp only [Act.put, List.setIfInBounds_toArray, List.set_cons_zero, List.set_cons_succ]) | (apply wpPlan_pass; rfl; rfl; assumption; simp only [Act.put, List.setIfInBounds_toArray, List.set_cons_zero, List.set_cons_succ]))
  apply wpPlan_call; rfl; rfl; rfl; rfl; kernel_rfl; exact HH.out _ (HIB.out.later (Below.refl _ _).drew); rfl; rintro E w5 ⟨rfl, rfl⟩
  refine ⟨_, rfl, as_S HS ?_⟩
  intro HS
  simp only [Act.put, List.setIfInBounds_toArray, List.set_cons_zero, List.set_cons_succ]
  repeat (first | (apply wpPlan_look; rfl; rfl; (intro wq hq; (try dsimp only at hq); go_split_ands; go_simp; (try rw [if_neg (by omega)]); (try rw [if_pos (by omega)]); try with_reducible rfl); simp only [Act.put, List.setIfInBounds_toArray, List.set_cons_zero, List.set_cons_succ]) | (apply wpPlan_skip; rfl; rfl; simp only [Act.put, List.setIfInBounds_toArray, List.set_cons_zero, List.set_cons_succ]) | (apply wpPlan_pass; rfl; rfl; assumption; simp only [Act.put, List.setIfInBounds_toArray, List.set_cons_zero, List.set_cons_succ]))
  have hb5 : Below w1.heap.size w1 (w1.drew.alloc (.cells #[.int .i64 (p0 : Int), .string (Ins.headed t0 (.pair .dyn .dyn)).str, .int .i64 10] 123)) := (Below.refl _ _).drew.alloc (Nat.le_refl _) _
  have q0 := cell_later hb5 k0
  refine wpPlan_run rfl rfl (by simp [execOp, go_sem, build_wish]; (first | exact ⟨rfl, rfl⟩ | rfl)) _ (fun _ h => h) q0 ?_
  simp only [Act.put, List.setIfInBounds_toArray, List.set_cons_zero, List.set_cons_succ]
  repeat (first | (apply wpPlan_look; rfl; rfl; (intro wq hq; (try dsimp only at hq); go_split_ands; go_simp; (try rw [if_neg (by omega)]); (try rw [if_pos (by omega)]); try with_reducible rfl); simp only [Act.put, List.setIfInBounds_toArray, List.set_cons_zero, List.set_cons_succ]) | (apply wpPlan_skip; rfl; rfl; simp only [Act.put, List.setIfInBounds_toArray, List.set_cons_zero, List.set_cons_succ]) | (apply wpPlan_pass; rfl; rfl; assumption; simp only [Act.put, List.setIfInBounds_toArray, List.set_cons_zero, List.set_cons_succ]))
  apply wpPlan_done
  go_wp2_with fail
  go_ret
  exact wish_made (w1 := w1.drew) (L := [(0, Ins.headed t0 (.pair .dyn .dyn), 10)]) rfl (by simp) HB0.out.drew
set_option maxRecDepth 100000 in
set_option maxHeartbeats 1600000 in
theorem wishes_20 (hx : T[p]? = some x) (hk : x.kind = 20) (hN : Nodes W tv T) (hTl : T.length ≤ 1000000) (hK : KidsV c w kv (([(p0, t0)]).map Prod.fst)) (hT : Told ys ([(p0, t0)])) (hY : Nms W yv ys) (h : InAt W c m tv yv sv S w) :
    Calls Tryz.prog 68 #[.pointer (some ⟨c, 0, none⟩), .int .i64 (p : Int), kv] w (WishRes (([(p0, t0)]).map Prod.fst) ([(0, Ins.headed t0 (.pair .dyn .dyn), 10)]) w) := by
  have HI := Lib.hid h
  have HT := Lib.hid hT
  have HY := Lib.hid hY
  have hp := (List.getElem?_eq_some_iff.1 hx).1
  have c1 := h.c1
  obtain ⟨A, C, rfl, hlc, hNN⟩ := hN.later h.low
  obtain ⟨b, off, rfl, hM⟩ := hNN (by omega)
  obtain ⟨n0, n1, n2, n3, n4, n5, n6, n7⟩ := hM.at_ hx
  obtain ⟨k, kd, n, s, t, u, l, cl⟩ := x
  obtain rfl : k = 20 := hk
  obtain ⟨g, o, Ck, rfl, hlC, hg, hkc⟩ := hK.shape
  have HKV := Lib.hid hkc
  have hlm : (([(p0, t0)] : List (Nat × Ty)).map Prod.fst).length = ([(p0, t0)] : List (Nat × Ty)).length := List.length_map _
  rw [hlm] at hlC ⊢
  have HBX : Hid (Box w.heap.size (Nd.mk 20 kd n s t u l cl) (w.alloc (.cells #[.int .i8 20, .int .i64 kd, .int .i64 n, .string s, .string t, .string u, .int .i64 l, .int .i64 cl] 38))) := Lib.hid (MapKept.heap_alloc w _).1
  have HB0 := Lib.hid ((Below.refl w.heap.size w).alloc (Nat.le_refl _) (.cells #[.int .i8 20, .int .i64 kd, .int .i64 n, .string s, .string t, .string u, .int .i64 l, .int .i64 cl] 38))
  clear hM hNN hN h hx hT hY hkc hlm hK
  simp only at n0 n1 n2 n3 n4 n5 n6 n7
  go_enter Tryz.func68, Tryz.ntmps68
  go_wp2_with fail
  have HH := Lib.hid (fun (w' : World) (hI : InAt W c m (.slice (some ⟨b, off, none⟩) T.length C) yv sv S w') => headed_any p0 t0 (.pair .dyn .dyn) HY.out (HT.out _ List.mem_cons_self).1 hI)
  have x4 := HBX.out.cell 4
  have x5 := HBX.out.cell 5
  have k0 := HKV.out _ (Keep.of HB0.out) 0 p0 rfl
  rw [Nat.add_zero] at k0
  have HIB := Lib.hid (HI.out.later HB0.out)
  clear n0 n1 n2 n3 n4 n5 n6 n7 c1 HBX
  generalize (w.alloc (.cells #[.int .i8 20, .int .i64 kd, .int .i64 n, .string s, .string t, .string u, .int .i64 l, .int .i64 cl] 38)) = w1 at *
  refine wp_region_plan (S := fun w' => w'.cell? ⟨g, o, none⟩ = some (.int .i64 (p0 : Int))) [(0, true), (1, true), (2, true), (3, true), (4, true), (5, true), (6, true), (7, false), (8, true), (9, false), (10, true)] (by kernel_rfl) (by kernel_rfl) (by kernel_rfl) (fun _ _ _ _ _ h => h) k0 ?_
  intro HS
  repeat (first | (apply wpPlan_look; rfl; rfl; (intro wq hq; (try dsimp only at hq); go_split_ands; go_simp; (try rw [if_neg (by omega)]); (try rw [if_pos (by omega)]); try with_reducible rfl); simp only [Act.put, List.setIfInBounds_toArray, List.set_cons_zero, List.set_cons_succ]) | (apply wpPlan_skip; rfl; rfl; simp only [Act.put, List.setIfInBounds_toArray, List.set_cons_zero, List.set_cons_succ]) | (apply wpPlan_pass; rfl; rfl; assumption; simp only [Act.put, List.setIfInBounds_toArray, List.set_cons_zero, List.set_cons_succ]))
  apply wpPlan_call; rfl; rfl; rfl; rfl; kernel_rfl; exact HH.out _ (HIB.out.later (Below.refl _ _).drew); rfl; rintro E w5 ⟨rfl, rfl⟩
  refine ⟨_, rfl, as_S HS ?_⟩
  intro HS
  simp only [Act.put, List.setIfInBounds_toArray, List.set_cons_zero, List.set_cons_succ]
  repeat (first | (apply wpPlan_look; rfl; rfl; (intro wq hq; (try dsimp only at hq); go_split_ands; go_simp; (try rw [if_neg (by omega)]); (try rw [if_pos (by omega)]); try with_reducible rfl); simp only [Act.put, List.setIfInBounds_toArray, List.set_cons_zero, List.set_cons_succ]) | (apply wpPlan_skip; rfl; rfl; simp only [Act.put, List.setIfInBounds_toArray, List.set_cons_zero, List.set_cons_succ]) | (apply wpPlan_pass; rfl; rfl; assumption; simp only [Act.put, List.setIfInBounds_toArray, List.set_cons_zero, List.set_cons_succ]))
  have hb5 : Below w1.heap.size w1 (w1.drew.alloc (.cells #[.int .i64 (p0 : Int), .string (Ins.headed t0 (.pair .dyn .dyn)).str, .int .i64 10] 123)) := (Below.refl _ _).drew.alloc (Nat.le_refl _) _
  have q0 := cell_later hb5 k0
  refine wpPlan_run rfl rfl (by simp [execOp, go_sem, build_wish]; (first | exact ⟨rfl, rfl⟩ | rfl)) _ (fun _ h => h) q0 ?_
  simp only [Act.put, List.setIfInBounds_toArray, List.set_cons_zero, List.set_cons_succ]
  repeat (first | (apply wpPlan_look; rfl; rfl; (intro wq hq; (try dsimp only at hq); go_split_ands; go_simp; (try rw [if_neg (by omega)]); (try rw [if_pos (by omega)]); try with_reducible rfl); simp only [Act.put, List.setIfInBounds_toArray, List.set_cons_zero, List.set_cons_succ]) | (apply wpPlan_skip; rfl; rfl; simp only [Act.put, List.setIfInBounds_toArray, List.set_cons_zero, List.set_cons_succ]) | (apply wpPlan_pass; rfl; rfl; assumption; simp only [Act.put, List.setIfInBounds_toArray, List.set_cons_zero, List.set_cons_succ]))
  apply wpPlan_done
  go_wp2_with fail
  go_ret
  exact wish_made (w1 := w1.drew) (L := [(0, Ins.headed t0 (.pair .dyn .dyn), 10)]) rfl (by simp) HB0.out.drew
set_option maxRecDepth 100000 in
set_option maxHeartbeats 1600000 in
theorem wishes_22 (hx : T[p]? = some x) (hk : x.kind = 22) (hN : Nodes W tv T) (hTl : T.length ≤ 1000000) (hK : KidsV c w kv (([(p0, t0)]).map Prod.fst)) (hT : Told ys ([(p0, t0)])) (hY : Nms W yv ys) (h : InAt W c m tv yv sv S w) :
    Calls Tryz.prog 68 #[.pointer (some ⟨c, 0, none⟩), .int .i64 (p : Int), kv] w (WishRes (([(p0, t0)]).map Prod.fst) ([(0, Ins.headed t0 (.list .dyn), 11)]) w) := by
  have HI := Lib.hid h
  have HT := Lib.hid hT
  have HY := Lib.hid hY
  have hp := (List.getElem?_eq_some_iff.1 hx).1
  have c1 := h.c1
  obtain ⟨A, C, rfl, hlc, hNN⟩ := hN.later h.low
  obtain ⟨b, off, rfl, hM⟩ := hNN (by omega)
  obtain ⟨n0, n1, n2, n3, n4, n5, n6, n7⟩ := hM.at_ hx
  obtain ⟨k, kd, n, s, t, u, l, cl⟩ := x
  obtain rfl : k = 22 := hk
  obtain ⟨g, o, Ck, rfl, hlC, hg, hkc⟩ := hK.shape
  have HKV := Lib.hid hkc
  have hlm : (([(p0, t0)] : List (Nat × Ty)).map Prod.fst).length = ([(p0, t0)] : List (Nat × Ty)).length := List.length_map _
  rw [hlm] at hlC ⊢
  have HBX : Hid (Box w.heap.size (Nd.mk 22 kd n s t u l cl) (w.alloc (.cells #[.int .i8 22, .int .i64 kd, .int .i64 n, .string s, .string t, .string u, .int .i64 l, .int .i64 cl] 38))) := Lib.hid (MapKept.heap_alloc w _).1
  have HB0 := Lib.hid ((Below.refl w.heap.size w).alloc (Nat.le_refl _) (.cells #[.int .i8 22, .int .i64 kd, .int .i64 n, .string s, .string t, .string u, .int .i64 l, .int .i64 cl] 38))
  clear hM hNN hN h hx hT hY hkc hlm hK
  simp only at n0 n1 n2 n3 n4 n5 n6 n7
  go_enter Tryz.func68, Tryz.ntmps68
  go_wp2_with fail
  have HH := Lib.hid (fun (w' : World) (hI : InAt W c m (.slice (some ⟨b, off, none⟩) T.length C) yv sv S w') => headed_any p0 t0 (.list .dyn) HY.out (HT.out _ List.mem_cons_self).1 hI)
  have x4 := HBX.out.cell 4
  have x5 := HBX.out.cell 5
  have k0 := HKV.out _ (Keep.of HB0.out) 0 p0 rfl
  rw [Nat.add_zero] at k0
  have HIB := Lib.hid (HI.out.later HB0.out)
  clear n0 n1 n2 n3 n4 n5 n6 n7 c1 HBX
  generalize (w.alloc (.cells #[.int .i8 22, .int .i64 kd, .int .i64 n, .string s, .string t, .string u, .int .i64 l, .int .i64 cl] 38)) = w1 at *
  refine wp_region_plan (S := fun w' => w'.cell? ⟨g, o, none⟩ = some (.int .i64 (p0 : Int))) [(0, true), (1, true), (2, true), (3, true), (4, true), (5, true), (6, true), (7, false), (8, true), (9, false), (10, true)] (by kernel_rfl) (by kernel_rfl) (by kernel_rfl) (fun _ _ _ _ _ h => h) k0 ?_
  intro HS
  repeat (first | (apply wpPlan_look; rfl; rfl; (intro wq hq; (try dsimp only at hq); go_split_ands; go_simp; (try rw [if_neg (by omega)]); (try rw [if_pos (by omega)]); try with_reducible rfl); simp only [Act.put, List.setIfInBounds_toArray, List.set_cons_zero, List.set_cons_succ]) | (apply wpPlan_skip; rfl; rfl; simp only [Act.put, List.setIfInBounds_toArray, List.set_cons_zero, List.set_cons_succ]) | (apply wpPlan_pass; rfl; rfl; assumption; simp only [Act.put, List.setIfInBounds_toArray, List.set_cons_zero, List.set_cons_succ]))
  apply wpPlan_call; rfl; rfl; rfl; rfl; kernel_rfl; exact HH.out _ (HIB.out.later (Below.refl _ _).drew); rfl; rintro E w5 ⟨rfl, rfl⟩
  refine ⟨_, rfl, as_S HS ?_⟩
  intro HS
  simp only [Act.put, List.setIfInBounds_toArray, List.set_cons_zero, List.set_cons_succ]
  repeat (first | (apply wpPlan_look; rfl; rfl; (intro wq hq; (try dsimp only at hq); go_split_ands; go_simp; (try rw [if_neg (by omega)]); (try rw [if_pos (by omega)]); try with_reducible rfl); simp only [Act.put, List.setIfInBounds_toArray, List.set_cons_zero, List.set_cons_succ]) | (apply wpPlan_skip; rfl; rfl; simp only [Act.put, List.setIfInBounds_toArray, List.set_cons_zero, List.set_cons_succ]) | (apply wpPlan_pass; rfl; rfl; assumption; simp only [Act.put, List.setIfInBounds_toArray, List.set_cons_zero, List.set_cons_succ]))
  have hb5 : Below w1.heap.size w1 (w1.drew.alloc (.cells #[.int .i64 (p0 : Int), .string (Ins.headed t0 (.list .dyn)).str, .int .i64 11] 123)) := (Below.refl _ _).drew.alloc (Nat.le_refl _) _
  have q0 := cell_later hb5 k0
  refine wpPlan_run rfl rfl (by simp [execOp, go_sem, build_wish]; (first | exact ⟨rfl, rfl⟩ | rfl)) _ (fun _ h => h) q0 ?_
  simp only [Act.put, List.setIfInBounds_toArray, List.set_cons_zero, List.set_cons_succ]
  repeat (first | (apply wpPlan_look; rfl; rfl; (intro wq hq; (try dsimp only at hq); go_split_ands; go_simp; (try rw [if_neg (by omega)]); (try rw [if_pos (by omega)]); try with_reducible rfl); simp only [Act.put, List.setIfInBounds_toArray, List.set_cons_zero, List.set_cons_succ]) | (apply wpPlan_skip; rfl; rfl; simp only [Act.put, List.setIfInBounds_toArray, List.set_cons_zero, List.set_cons_succ]) | (apply wpPlan_pass; rfl; rfl; assumption; simp only [Act.put, List.setIfInBounds_toArray, List.set_cons_zero, List.set_cons_succ]))
  apply wpPlan_done
  go_wp2_with fail
  go_ret
  exact wish_made (w1 := w1.drew) (L := [(0, Ins.headed t0 (.list .dyn), 11)]) rfl (by simp) HB0.out.drew
set_option maxRecDepth 100000 in
set_option maxHeartbeats 1600000 in
theorem wishes_23 (hx : T[p]? = some x) (hk : x.kind = 23) (hN : Nodes W tv T) (hTl : T.length ≤ 1000000) (hK : KidsV c w kv (([(p0, t0)]).map Prod.fst)) (hT : Told ys ([(p0, t0)])) (hY : Nms W yv ys) (h : InAt W c m tv yv sv S w) :
    Calls Tryz.prog 68 #[.pointer (some ⟨c, 0, none⟩), .int .i64 (p : Int), kv] w (WishRes (([(p0, t0)]).map Prod.fst) ([(0, Ins.headed t0 (.list .dyn), 11)]) w) := by
  have HI := Lib.hid h
  have HT := Lib.hid hT
  have HY := Lib.hid hY
  have hp := (List.getElem?_eq_some_iff.1 hx).1
  have c1 := h.c1
  obtain ⟨A, C, rfl, hlc, hNN⟩ := hN.later h.low
  obtain ⟨b, off, rfl, hM⟩ := hNN (by omega)
  obtain ⟨n0, n1, n2, n3, n4, n5, n6, n7⟩ := hM.at_ hx
  obtain ⟨k, kd, n, s, t, u, l, cl⟩ := x
  obtain rfl : k = 23 := hk
  obtain ⟨g, o, Ck, rfl, hlC, hg, hkc⟩ := hK.shape
  have HKV := Lib.hid hkc
  have hlm : (([(p0, t0)] : List (Nat × Ty)).map Prod.fst).length = ([(p0, t0)] : List (Nat × Ty)).length := List.length_map _
  rw [hlm] at hlC ⊢
  have HBX : Hid (Box w.heap.size (Nd.mk 23 kd n s t u l cl) (w.alloc (.cells #[.int .i8 23, .int .i64 kd, .int .i64 n, .string s, .string t, .string u, .int .i64 l, .int .i64 cl] 38))) := Lib.hid (MapKept.heap_alloc w _).1
  have HB0 := Lib.hid ((Below.refl w.heap.size w).alloc (Nat.le_refl _) (.cells #[.int .i8 23, .int .i64 kd, .int .i64 n, .string s, .string t, .string u, .int .i64 l, .int .i64 cl] 38))
  clear hM hNN hN h hx hT hY hkc hlm hK
  simp only at n0 n1 n2 n3 n4 n5 n6 n7
  go_enter Tryz.func68, Tryz.ntmps68
  go_wp2_with fail
  have HH := Lib.hid (fun (w' : World) (hI : InAt W c m (.slice (some ⟨b, off, none⟩) T.length C) yv sv S w') => headed_any p0 t0 (.list .dyn) HY.out (HT.out _ List.mem_cons_self).1 hI)
  have x4 := HBX.out.cell 4
  have x5 := HBX.out.cell 5
  have k0 := HKV.out _ (Keep.of HB0.out) 0 p0 rfl
  rw [Nat.add_zero] at k0
  have HIB := Lib.hid (HI.out.later HB0.out)
  clear n0 n1 n2 n3 n4 n5 n6 n7 c1 HBX
  generalize (w.alloc (.cells #[.int .i8 23, .int .i64 kd, .int .i64 n, .string s, .string t, .string u, .int .i64 l, .int .i64 cl] 38)) = w1 at *
  refine wp_region_plan (S := fun w' => w'.cell? ⟨g, o, none⟩ = some (.int .i64 (p0 : Int))) [(0, true), (1, true), (2, true), (3, true), (4, true), (5, true), (6, true), (7, false), (8, true), (9, false), (10, true)] (by kernel_rfl) (by kernel_rfl) (by kernel_rfl) (fun _ _ _ _ _ h => h) k0 ?_
  intro HS
  repeat (first | (apply wpPlan_look; rfl; rfl; (intro wq hq; (try dsimp only at hq); go_split_ands; go_simp; (try rw [if_neg (by omega)]); (try rw [if_pos (by omega)]); try with_reducible rfl); simp only [Act.put, List.setIfInBounds_toArray, List.set_cons_zero, List.set_cons_succ]) | (apply wpPlan_skip; rfl; rfl; simp only [Act.put, List.setIfInBounds_toArray, List.set_cons_zero, List.set_cons_succ]) | (apply wpPlan_pass; rfl; rfl; assumption; simp only [Act.put, List.setIfInBounds_toArray, List.set_cons_zero, List.set_cons_succ]))
  apply wpPlan_call; rfl; rfl; rfl; rfl; kernel_rfl; exact HH.out _ (HIB.out.later (Below.refl _ _).drew); rfl; rintro E w5 ⟨rfl, rfl⟩
  refine ⟨_, rfl, as_S HS ?_⟩
  intro HS
  simp only [Act.put, List.setIfInBounds_toArray, List.set_cons_zero, List.set_cons_succ]
  repeat (first | (apply wpPlan_look; rfl; rfl; (intro wq hq; (try dsimp only at hq); go_split_ands; go_simp; (try rw [if_neg (by omega)]); (try rw [if_pos (by omega)]); try with_reducible rfl); simp only [Act.put, List.setIfInBounds_toArray, List.set_cons_zero, List.set_cons_succ]) | (apply wpPlan_skip; rfl; rfl; simp only [Act.put, List.setIfInBounds_toArray, List.set_cons_zero, List.set_cons_succ]) | (apply wpPlan_pass; rfl; rfl; assumption; simp only [Act.put, List.setIfInBounds_toArray, List.set_cons_zero, List.set_cons_succ]))
  have hb5 : Below w1.heap.size w1 (w1.drew.alloc (.cells #[.int .i64 (p0 : Int), .string (Ins.headed t0 (.list .dyn)).str, .int .i64 11] 123)) := (Below.refl _ _).drew.alloc (Nat.le_refl _) _
  have q0 := cell_later hb5 k0
  refine wpPlan_run rfl rfl (by simp [execOp, go_sem, build_wish]; (first | exact ⟨rfl, rfl⟩ | rfl)) _ (fun _ h => h) q0 ?_
  simp only [Act.put, List.setIfInBounds_toArray, List.set_cons_zero, List.set_cons_succ]
  repeat (first | (apply wpPlan_look; rfl; rfl; (intro wq hq; (try dsimp only at hq); go_split_ands; go_simp; (try rw [if_neg (by omega)]); (try rw [if_pos (by omega)]); try with_reducible rfl); simp only [Act.put, List.setIfInBounds_toArray, List.set_cons_zero, List.set_cons_succ]) | (apply wpPlan_skip; rfl; rfl; simp only [Act.put, List.setIfInBounds_toArray, List.set_cons_zero, List.set_cons_succ]) | (apply wpPlan_pass; rfl; rfl; assumption; simp only [Act.put, List.setIfInBounds_toArray, List.set_cons_zero, List.set_cons_succ]))
  apply wpPlan_done
  go_wp2_with fail
  go_ret
  exact wish_made (w1 := w1.drew) (L := [(0, Ins.headed t0 (.list .dyn), 11)]) rfl (by simp) HB0.out.drew
set_option maxRecDepth 100000 in
set_option maxHeartbeats 1600000 in
theorem wishes_24 (hx : T[p]? = some x) (hk : x.kind = 24) (hN : Nodes W tv T) (hTl : T.length ≤ 1000000) (hK : KidsV c w kv (([(p0, t0)]).map Prod.fst)) (hT : Told ys ([(p0, t0)])) (hY : Nms W yv ys) (h : InAt W c m tv yv sv S w) :
    Calls Tryz.prog 68 #[.pointer (some ⟨c, 0, none⟩), .int .i64 (p : Int), kv] w (WishRes (([(p0, t0)]).map Prod.fst) ([(0, Ins.headed t0 (.list .dyn), 11)]) w) := by
  have HI := Lib.hid h
  have HT := Lib.hid hT
  have HY := Lib.hid hY
  have hp := (List.getElem?_eq_some_iff.1 hx).1
  have c1 := h.c1
  obtain ⟨A, C, rfl, hlc, hNN⟩ := hN.later h.low
  obtain ⟨b, off, rfl, hM⟩ := hNN (by omega)
  obtain ⟨n0, n1, n2, n3, n4, n5, n6, n7⟩ := hM.at_ hx
  obtain ⟨k, kd, n, s, t, u, l, cl⟩ := x
  obtain rfl : k = 24 := hk
  obtain ⟨g, o, Ck, rfl, hlC, hg, hkc⟩ := hK.shape
  have HKV := Lib.hid hkc
  have hlm : (([(p0, t0)] : List (Nat × Ty)).map Prod.fst).length = ([(p0, t0)] : List (Nat × Ty)).length := List.length_map _
  rw [hlm] at hlC ⊢
  have HBX : Hid (Box w.heap.size (Nd.mk 24 kd n s t u l cl) (w.alloc (.cells #[.int .i8 24, .int .i64 kd, .int .i64 n, .string s, .string t, .string u, .int .i64 l, .int .i64 cl] 38))) := Lib.hid (MapKept.heap_alloc w _).1
  have HB0 := Lib.hid ((Below.refl w.heap.size w).alloc (Nat.le_refl _) (.cells #[.int .i8 24, .int .i64 kd, .int .i64 n, .string s, .string t, .string u, .int .i64 l, .int .i64 cl] 38))
  clear hM hNN hN h hx hT hY hkc hlm hK
  simp only at n0 n1 n2 n3 n4 n5 n6 n7
  go_enter Tryz.func68, Tryz.ntmps68
  go_wp2_with fail
  have HH := Lib.hid (fun (w' : World) (hI : InAt W c m (.slice (some ⟨b, off, none⟩) T.length C) yv sv S w') => headed_any p0 t0 (.list .dyn) HY.out (HT.out _ List.mem_cons_self).1 hI)
  have x4 := HBX.out.cell 4
  have x5 := HBX.out.cell 5
  have k0 := HKV.out _ (Keep.of HB0.out) 0 p0 rfl
  rw [Nat.add_zero] at k0
  have HIB := Lib.hid (HI.out.later HB0.out)
  clear n0 n1 n2 n3 n4 n5 n6 n7 c1 HBX
  generalize (w.alloc (.cells #[.int .i8 24, .int .i64 kd, .int .i64 n, .string s, .string t, .string u, .int .i64 l, .int .i64 cl] 38)) = w1 at *
  refine wp_region_plan (S := fun w' => w'.cell? ⟨g, o, none⟩ = some (.int .i64 (p0 : Int))) [(0, true), (1, true), (2, true), (3, true), (4, true), (5, true), (6, true), (7, false), (8, true), (9, false), (10, true)] (by kernel_rfl) (by kernel_rfl) (by kernel_rfl) (fun _ _ _ _ _ h => h) k0 ?_
  intro HS
  repeat (first | (apply wpPlan_look; rfl; rfl; (intro wq hq; (try dsimp only at hq); go_split_ands; go_simp; (try rw [if_neg (by omega)]); (try rw [if_pos (by omega)]); try with_reducible rfl); simp only [Act.put, List.setIfInBounds_toArray, List.set_cons_zero, List.set_cons_succ]) | (apply wpPlan_skip; rfl; rfl; simp only [Act.put, List.setIfInBounds_toArray, List.set_cons_zero, List.set_cons_succ]) | (apply wpPlan_pass; rfl; rfl; assumption; simp only [Act.put, List.setIfInBounds_toArray, List.set_cons_zero, List.set_cons_succ]))
  apply wpPlan_call; rfl; rfl; rfl; rfl; kernel_rfl; exact HH.out _ (HIB.out.later (Below.refl _ _).drew); rfl; rintro E w5 ⟨rfl, rfl⟩
  refine ⟨_, rfl, as_S HS ?_⟩
  intro HS
  simp only [Act.put, List.setIfInBounds_toArray, List.set_cons_zero, List.set_cons_succ]
  repeat (first | (apply wpPlan_look; rfl; rfl; (intro wq hq; (try dsimp only at hq); go_split_ands; go_simp; (try rw [if_neg (by omega)]); (try rw [if_pos (by omega)]); try with_reducible rfl); simp only [Act.put, List.setIfInBounds_toArray, List.set_cons_zero, List.set_cons_succ]) | (apply wpPlan_skip; rfl; rfl; simp only [Act.put, List.setIfInBounds_toArray, List.set_cons_zero, List.set_cons_succ]) | (apply wpPlan_pass; rfl; rfl; assumption; simp only [Act.put, List.setIfInBounds_toArray, List.set_cons_zero, List.set_cons_succ]))
  have hb5 : Below w1.heap.size w1 (w1.drew.alloc (.cells #[.int .i64 (p0 : Int), .string (Ins.headed t0 (.list .dyn)).str, .int .i64 11] 123)) := (Below.refl _ _).drew.alloc (Nat.le_refl _) _
  have q0 := cell_later hb5 k0
  refine wpPlan_run rfl rfl (by simp [execOp, go_sem, build_wish]; (first | exact ⟨rfl, rfl⟩ | rfl)) _ (fun _ h => h) q0 ?_
  simp only [Act.put, List.setIfInBounds_toArray, List.set_cons_zero, List.set_cons_succ]
  repeat (first | (apply wpPlan_look; rfl; rfl; (intro wq hq; (try dsimp only at hq); go_split_ands; go_simp; (try rw [if_neg (by omega)]); (try rw [if_pos (by omega)]); try with_reducible rfl); simp only [Act.put, List.setIfInBounds_toArray, List.set_cons_zero, List.set_cons_succ]) | (apply wpPlan_skip; rfl; rfl; simp only [Act.put, List.setIfInBounds_toArray, List.set_cons_zero, List.set_cons_succ]) | (apply wpPlan_pass; rfl; rfl; assumption; simp only [Act.put, List.setIfInBounds_toArray, List.set_cons_zero, List.set_cons_succ]))
  apply wpPlan_done
  go_wp2_with fail
  go_ret
  exact wish_made (w1 := w1.drew) (L := [(0, Ins.headed t0 (.list .dyn), 11)]) rfl (by simp) HB0.out.drew
set_option maxRecDepth 100000 in
set_option maxHeartbeats 1600000 in
theorem wishes_27 (hx : T[p]? = some x) (hk : x.kind = 27) (hN : Nodes W tv T) (hTl : T.length ≤ 1000000) (hK : KidsV c w kv (([(p0, t0)]).map Prod.fst)) (hT : Told ys ([(p0, t0)])) (hY : Nms W yv ys) (h : InAt W c m tv yv sv S w) :
    Calls Tryz.prog 68 #[.pointer (some ⟨c, 0, none⟩), .int .i64 (p : Int), kv] w (WishRes (([(p0, t0)]).map Prod.fst) ([(0, Ins.headed t0 (.box .dyn), 12)]) w) := by
  have HI := Lib.hid h
  have HT := Lib.hid hT
  have HY := Lib.hid hY
  have hp := (List.getElem?_eq_some_iff.1 hx).1
  have c1 := h.c1
  obtain ⟨A, C, rfl, hlc, hNN⟩ := hN.later h.low
  obtain ⟨b, off, rfl, hM⟩ := hNN (by omega)
  obtain ⟨n0, n1, n2, n3, n4, n5, n6, n7⟩ := hM.at_ hx
  obtain ⟨k, kd, n, s, t, u, l, cl⟩ := x
  obtain rfl : k = 27 := hk
  obtain ⟨g, o, Ck, rfl, hlC, hg, hkc⟩ := hK.shape
  have HKV := Lib.hid hkc
  have hlm : (([(p0, t0)] : List (Nat × Ty)).map Prod.fst).length = ([(p0, t0)] : List (Nat × Ty)).length := List.length_map _
  rw [hlm] at hlC ⊢
  have HBX : Hid (Box w.heap.size (Nd.mk 27 kd n s t u l cl) (w.alloc (.cells #[.int .i8 27, .int .i64 kd, .int .i64 n, .string s, .string t, .string u, .int .i64 l, .int .i64 cl] 38))) := Lib.hid (MapKept.heap_alloc w _).1
  have HB0 := Lib.hid ((Below.refl w.heap.size w).alloc (Nat.le_refl _) (.cells #[.int .i8 27, .int .i64 kd, .int .i64 n, .string s, .string t, .string u, .int .i64 l, .int .i64 cl] 38))
  clear hM hNN hN h hx hT hY hkc hlm hK
  simp only at n0 n1 n2 n3 n4 n5 n6 n7
  go_enter Tryz.func68, Tryz.ntmps68
  go_wp2_with fail
  have HH := Lib.hid (fun (w' : World) (hI : InAt W c m (.slice (some ⟨b, off, none⟩) T.length C) yv sv S w') => headed_any p0 t0 (.box .dyn) HY.out (HT.out _ List.mem_cons_self).1 hI)
  have x4 := HBX.out.cell 4
  have x5 := HBX.out.cell 5
  have k0 := HKV.out _ (Keep.of HB0.out) 0 p0 rfl
  rw [Nat.add_zero] at k0
  have HIB := Lib.hid (HI.out.later HB0.out)
  clear n0 n1 n2 n3 n4 n5 n6 n7 c1 HBX
  generalize (w.alloc (.cells #[.int .i8 27, .int .i64 kd, .int .i64 n, .string s, .string t, .string u, .int .i64 l, .int .i64 cl] 38)) = w1 at *
  refine wp_region_plan (S := fun w' => w'.cell? ⟨g, o, none⟩ = some (.int .i64 (p0 : Int))) [(0, true), (1, true), (2, true), (3, true), (4, true), (5, true), (6, true), (7, false), (8, true), (9, false), (10, true)] (by kernel_rfl) (by kernel_rfl) (by kernel_rfl) (fun _ _ _ _ _ h => h) k0 ?_
  intro HS
  repeat (first | (apply wpPlan_look; rfl; rfl; (intro wq hq; (try dsimp only at hq); go_split_ands; go_simp; (try rw [if_neg (by omega)]); (try rw [if_pos (by omega)]); try with_reducible rfl); simp only [Act.put, List.setIfInBounds_toArray, List.set_cons_zero, List.set_cons_succ]) | (apply wpPlan_skip; rfl; rfl; simp only [Act.put, List.setIfInBounds_toArray, List.set_cons_zero, List.set_cons_succ]) | (apply wpPlan_pass; rfl; rfl; assumption; simp only [Act.put, List.setIfInBounds_toArray, List.set_cons_zero, List.set_cons_succ]))
  apply wpPlan_call; rfl; rfl; rfl; rfl; kernel_rfl; exact HH.out _ (HIB.out.later (Below.refl _ _).drew); rfl; rintro E w5 ⟨rfl, rfl⟩
  refine ⟨_, rfl, as_S HS ?_⟩
  intro HS
  simp only [Act.put, List.setIfInBounds_toArray, List.set_cons_zero, List.set_cons_succ]
  repeat (first | (apply wpPlan_look; rfl; rfl; (intro wq hq; (try dsimp only at hq); go_split_ands; go_simp; (try rw [if_neg (by omega)]); (try rw [if_pos (by omega)]); try with_reducible rfl); simp only [Act.put, List.setIfInBounds_toArray, List.set_cons_zero, List.set_cons_succ]) | (apply wpPlan_skip; rfl; rfl; simp only [Act.put, List.setIfInBounds_toArray, List.set_cons_zero, List.set_cons_succ]) | (apply wpPlan_pass; rfl; rfl; assumption; simp only [Act.put, List.setIfInBounds_toArray, List.set_cons_zero, List.set_cons_succ]))
  have hb5 : Below w1.heap.size w1 (w1.drew.alloc (.cells #[.int .i64 (p0 : Int), .string (Ins.headed t0 (.box .dyn)).str, .int .i64 12] 123)) := (Below.refl _ _).drew.alloc (Nat.le_refl _) _
  have q0 := cell_later hb5 k0
  refine wpPlan_run rfl rfl (by simp [execOp, go_sem, build_wish]; (first | exact ⟨rfl, rfl⟩ | rfl)) _ (fun _ h => h) q0 ?_
  simp only [Act.put, List.setIfInBounds_toArray, List.set_cons_zero, List.set_cons_succ]
  repeat (first | (apply wpPlan_look; rfl; rfl; (intro wq hq; (try dsimp only at hq); go_split_ands; go_simp; (try rw [if_neg (by omega)]); (try rw [if_pos (by omega)]); try with_reducible rfl); simp only [Act.put, List.setIfInBounds_toArray, List.set_cons_zero, List.set_cons_succ]) | (apply wpPlan_skip; rfl; rfl; simp only [Act.put, List.setIfInBounds_toArray, List.set_cons_zero, List.set_cons_succ]) | (apply wpPlan_pass; rfl; rfl; assumption; simp only [Act.put, List.setIfInBounds_toArray, List.set_cons_zero, List.set_cons_succ]))
  apply wpPlan_done
  go_wp2_with fail
  go_ret
  exact wish_made (w1 := w1.drew) (L := [(0, Ins.headed t0 (.box .dyn), 12)]) rfl (by simp) HB0.out.drew
set_option maxRecDepth 100000 in
set_option maxHeartbeats 1600000 in
theorem wishes_7 (hx : T[p]? = some x) (hk : x.kind = 7) (hN : Nodes W tv T) (hTl : T.length ≤ 1000000) (hK : KidsV c w kv (([(p0, t0), (p1, t1)]).map Prod.fst)) (hT : Told ys ([(p0, t0), (p1, t1)])) (hY : Nms W yv ys) (h : InAt W c m tv yv sv S w) (u0 : Ty) (lm : List Ty) (hm : Tr.matchT t0 62 = some lm) (hl0 : lm[0]? = some u0):
    Calls Tryz.prog 68 #[.pointer (some ⟨c, 0, none⟩), .int .i64 (p : Int), kv] w (WishRes (([(p0, t0), (p1, t1)]).map Prod.fst) ([(0, Ins.headed t0 (.fn .dyn .dyn), 3), (1, Ins.innerM t0 62, 4)]) w) := by
  have HI := Lib.hid h
  have HT := Lib.hid hT
  have HY := Lib.hid hY
  have hp := (List.getElem?_eq_some_iff.1 hx).1
  have c1 := h.c1
  obtain ⟨A, C, rfl, hlc, hNN⟩ := hN.later h.low
  obtain ⟨b, off, rfl, hM⟩ := hNN (by omega)
  obtain ⟨n0, n1, n2, n3, n4, n5, n6, n7⟩ := hM.at_ hx
  obtain ⟨k, kd, n, s, t, u, l, cl⟩ := x
  obtain rfl : k = 7 := hk
  obtain ⟨g, o, Ck, rfl, hlC, hg, hkc⟩ := hK.shape
  have HKV := Lib.hid hkc
  have hlm : (([(p0, t0), (p1, t1)] : List (Nat × Ty)).map Prod.fst).length = ([(p0, t0), (p1, t1)] : List (Nat × Ty)).length := List.length_map _
  rw [hlm] at hlC ⊢
  have HBX : Hid (Box w.heap.size (Nd.mk 7 kd n s t u l cl) (w.alloc (.cells #[.int .i8 7, .int .i64 kd, .int .i64 n, .string s, .string t, .string u, .int .i64 l, .int .i64 cl] 38))) := Lib.hid (MapKept.heap_alloc w _).1
  have HB0 := Lib.hid ((Below.refl w.heap.size w).alloc (Nat.le_refl _) (.cells #[.int .i8 7, .int .i64 kd, .int .i64 n, .string s, .string t, .string u, .int .i64 l, .int .i64 cl] 38))
  clear hM hNN hN h hx hT hY hkc hlm hK
  simp only at n0 n1 n2 n3 n4 n5 n6 n7
  go_enter Tryz.func68, Tryz.ntmps68
  go_wp2_with fail
  have HTJ := Lib.hid (HT.out (p0, t0) (by simp))
  have HH := Lib.hid (fun (w' : World) (hI : InAt W c m (.slice (some ⟨b, off, none⟩) T.length C) yv sv S w') => headed_any p0 t0 (.fn .dyn .dyn) HY.out HTJ.out.1 hI)
  have HN := Lib.hid (fun (w' : World) (hI : InAt W c m (.slice (some ⟨b, off, none⟩) T.length C) yv sv S w') => iinner_any p0 t0 u0 HTJ.out.2 62 (by decide) lm hm hl0 HY.out HTJ.out.1 hI)
  have k1 := HKV.out _ (Keep.of HB0.out) 1 p1 rfl
  clear hm hl0
  have x4 := HBX.out.cell 4
  have x5 := HBX.out.cell 5
  have k0 := HKV.out _ (Keep.of HB0.out) 0 p0 rfl
  rw [Nat.add_zero] at k0
  have HIB := Lib.hid (HI.out.later HB0.out)
  clear n0 n1 n2 n3 n4 n5 n6 n7 c1 HBX
  generalize (w.alloc (.cells #[.int .i8 7, .int .i64 kd, .int .i64 n, .string s, .string t, .string u, .int .i64 l, .int .i64 cl] 38)) = w1 at *
  refine wp_region_plan (S := fun w' => w'.cell? ⟨g, o, none⟩ = some (.int .i64 (p0 : Int)) ∧ w'.cell? ⟨g, o + 1, none⟩ = some (.int .i64 (p1 : Int))) [(0, true), (1, true), (2, true), (3, true), (4, true), (5, true), (6, true), (9, true), (10, true), (11, true), (12, true), (13, true), (14, true), (15, true), (7, false), (8, true), (16, false), (17, true), (18, false), (19, true)] (by kernel_rfl) (by kernel_rfl) (by kernel_rfl) (fun _ _ _ _ _ h => h) ⟨k0, k1⟩ ?_
  intro HS
  repeat (first | (apply wpPlan_look; rfl; rfl; (intro wq hq; (try dsimp only at hq); go_split_ands; go_simp; (try rw [if_neg (by omega)]); (try rw [if_pos (by omega)]); try with_reducible rfl); simp only [Act.put, List.setIfInBounds_toArray, List.set_cons_zero, List.set_cons_succ]) | (apply wpPlan_skip; rfl; rfl; simp only [Act.put, List.setIfInBounds_toArray, List.set_cons_zero, List.set_cons_succ]) | (apply wpPlan_pass; rfl; rfl; assumption; simp only [Act.put, List.setIfInBounds_toArray, List.set_cons_zero, List.set_cons_succ]))
  apply wpPlan_call; rfl; rfl; rfl; rfl; kernel_rfl; exact HH.out _ (HIB.out.later (Below.refl _ _).drew); rfl; rintro E w5 ⟨rfl, rfl⟩
  refine ⟨_, rfl, as_S HS ?_⟩
  intro HS
  simp only [Act.put, List.setIfInBounds_toArray, List.set_cons_zero, List.set_cons_succ]
  repeat (first | (apply wpPlan_look; rfl; rfl; (intro wq hq; (try dsimp only at hq); go_split_ands; go_simp; (try rw [if_neg (by omega)]); (try rw [if_pos (by omega)]); try with_reducible rfl); simp only [Act.put, List.setIfInBounds_toArray, List.set_cons_zero, List.set_cons_succ]) | (apply wpPlan_skip; rfl; rfl; simp only [Act.put, List.setIfInBounds_toArray, List.set_cons_zero, List.set_cons_succ]) | (apply wpPlan_pass; rfl; rfl; assumption; simp only [Act.put, List.setIfInBounds_toArray, List.set_cons_zero, List.set_cons_succ]))
  apply wpPlan_call; rfl; rfl; rfl; rfl; kernel_rfl; exact HN.out _ (HIB.out.later (Below.refl _ _).drew); rfl; rintro E w6 ⟨rfl, hb6⟩
  have hb6' : Below w1.heap.size w1 w6 := (Below.refl _ _).drew.trans hb6
  refine ⟨_, rfl, as_S ⟨cell_later hb6' k0, cell_later hb6' k1⟩ ?_⟩
  intro HS
  simp only [Act.put, List.setIfInBounds_toArray, List.set_cons_zero, List.set_cons_succ]
  repeat (first | (apply wpPlan_look; rfl; rfl; (intro wq hq; (try dsimp only at hq); go_split_ands; go_simp; (try rw [if_neg (by omega)]); (try rw [if_pos (by omega)]); try with_reducible rfl); simp only [Act.put, List.setIfInBounds_toArray, List.set_cons_zero, List.set_cons_succ]) | (apply wpPlan_skip; rfl; rfl; simp only [Act.put, List.setIfInBounds_toArray, List.set_cons_zero, List.set_cons_succ]) | (apply wpPlan_pass; rfl; rfl; assumption; simp only [Act.put, List.setIfInBounds_toArray, List.set_cons_zero, List.set_cons_succ]))
  have hb7 : Below w1.heap.size w1 (w6.alloc (.cells #[.int .i64 (p0 : Int), .string (Ins.headed t0 (.fn .dyn .dyn)).str, .int .i64 3, .int .i64 (p1 : Int), .string (Ins.innerM t0 62).str, .int .i64 4] 123)) := hb6'.alloc hb6'.size _
  have q0 := cell_later hb7 k0
  have q1 := cell_later hb7 k1
  refine wpPlan_run rfl rfl (by simp [execOp, go_sem, build_wish2]; (first | exact ⟨rfl, rfl⟩ | rfl)) _ (fun _ h => h) ⟨q0, q1⟩ ?_
  simp only [Act.put, List.setIfInBounds_toArray, List.set_cons_zero, List.set_cons_succ]
  repeat (first | (apply wpPlan_look; rfl; rfl; (intro wq hq; (try dsimp only at hq); go_split_ands; go_simp; (try rw [if_neg (by omega)]); (try rw [if_pos (by omega)]); try with_reducible rfl); simp only [Act.put, List.setIfInBounds_toArray, List.set_cons_zero, List.set_cons_succ]) | (apply wpPlan_skip; rfl; rfl; simp only [Act.put, List.setIfInBounds_toArray, List.set_cons_zero, List.set_cons_succ]) | (apply wpPlan_pass; rfl; rfl; assumption; simp only [Act.put, List.setIfInBounds_toArray, List.set_cons_zero, List.set_cons_succ]))
  apply wpPlan_done
  have HB6 := Lib.hid (HB0.out.trans (hb6'.mono HB0.out.size))
  clear hb6 hb6' hb7 q0 q1 k0 k1 x4 x5 HS
  go_wp2_with fail
  go_ret
  exact wish_made (w1 := w6) (L := [(0, Ins.headed t0 (.fn .dyn .dyn), 3), (1, Ins.innerM t0 62, 4)]) rfl (by simp) HB6.out
set_option maxRecDepth 100000 in
set_option maxHeartbeats 1600000 in
theorem wishes_25 (hx : T[p]? = some x) (hk : x.kind = 25) (hN : Nodes W tv T) (hTl : T.length ≤ 1000000) (hK : KidsV c w kv (([(p0, t0), (p1, t1)]).map Prod.fst)) (hT : Told ys ([(p0, t0), (p1, t1)])) (hY : Nms W yv ys) (h : InAt W c m tv yv sv S w) (u0 : Ty) (lm : List Ty) (hm : Tr.matchT t1 108 = some lm) (hl0 : lm[0]? = some u0):
    Calls Tryz.prog 68 #[.pointer (some ⟨c, 0, none⟩), .int .i64 (p : Int), kv] w (WishRes (([(p0, t0), (p1, t1)]).map Prod.fst) ([(1, Ins.headed t1 (.list .dyn), 11), (0, Ins.innerM t1 108, 14)]) w) := by
  have HI := Lib.hid h
  have HT := Lib.hid hT
  have HY := Lib.hid hY
  have hp := (List.getElem?_eq_some_iff.1 hx).1
  have c1 := h.c1
  obtain ⟨A, C, rfl, hlc, hNN⟩ := hN.later h.low
  obtain ⟨b, off, rfl, hM⟩ := hNN (by omega)
  obtain ⟨n0, n1, n2, n3, n4, n5, n6, n7⟩ := hM.at_ hx
  obtain ⟨k, kd, n, s, t, u, l, cl⟩ := x
  obtain rfl : k = 25 := hk
  obtain ⟨g, o, Ck, rfl, hlC, hg, hkc⟩ := hK.shape
  have HKV := Lib.hid hkc
  have hlm : (([(p0, t0), (p1, t1)] : List (Nat × Ty)).map Prod.fst).length = ([(p0, t0), (p1, t1)] : List (Nat × Ty)).length := List.length_map _
  rw [hlm] at hlC ⊢
  have HBX : Hid (Box w.heap.size (Nd.mk 25 kd n s t u l cl) (w.alloc (.cells #[.int .i8 25, .int .i64 kd, .int .i64 n, .string s, .string t, .string u, .int .i64 l, .int .i64 cl] 38))) := Lib.hid (MapKept.heap_alloc w _).1
  have HB0 := Lib.hid ((Below.refl w.heap.size w).alloc (Nat.le_refl _) (.cells #[.int .i8 25, .int .i64 kd, .int .i64 n, .string s, .string t, .string u, .int .i64 l, .int .i64 cl] 38))
  clear hM hNN hN h hx hT hY hkc hlm hK
  simp only at n0 n1 n2 n3 n4 n5 n6 n7
  go_enter Tryz.func68, Tryz.ntmps68
  go_wp2_with fail
  have HTJ := Lib.hid (HT.out (p1, t1) (by simp))
  have HH := Lib.hid (fun (w' : World) (hI : InAt W c m (.slice (some ⟨b, off, none⟩) T.length C) yv sv S w') => headed_any p1 t1 (.list .dyn) HY.out HTJ.out.1 hI)
  have HN := Lib.hid (fun (w' : World) (hI : InAt W c m (.slice (some ⟨b, off, none⟩) T.length C) yv sv S w') => iinner_any p1 t1 u0 HTJ.out.2 108 (by decide) lm hm hl0 HY.out HTJ.out.1 hI)
  have k1 := HKV.out _ (Keep.of HB0.out) 1 p1 rfl
  clear hm hl0
  have x4 := HBX.out.cell 4
  have x5 := HBX.out.cell 5
  have k0 := HKV.out _ (Keep.of HB0.out) 0 p0 rfl
  rw [Nat.add_zero] at k0
  have HIB := Lib.hid (HI.out.later HB0.out)
  clear n0 n1 n2 n3 n4 n5 n6 n7 c1 HBX
  generalize (w.alloc (.cells #[.int .i8 25, .int .i64 kd, .int .i64 n, .string s, .string t, .string u, .int .i64 l, .int .i64 cl] 38)) = w1 at *
  refine wp_region_plan (S := fun w' => w'.cell? ⟨g, o, none⟩ = some (.int .i64 (p0 : Int)) ∧ w'.cell? ⟨g, o + 1, none⟩ = some (.int .i64 (p1 : Int))) [(0, true), (1, true), (2, true), (3, true), (4, true), (5, true), (6, true), (9, true), (10, true), (11, true), (12, true), (13, true), (14, true), (15, true), (7, false), (8, true), (16, false), (17, true), (18, false), (19, true)] (by kernel_rfl) (by kernel_rfl) (by kernel_rfl) (fun _ _ _ _ _ h => h) ⟨k0, k1⟩ ?_
  intro HS
  repeat (first | (apply wpPlan_look; rfl; rfl; (intro wq hq; (try dsimp only at hq); go_split_ands; go_simp; (try rw [if_neg (by omega)]); (try rw [if_pos (by omega)]); try with_reducible rfl); simp only [Act.put, List.setIfInBounds_toArray, List.set_cons_zero, List.set_cons_succ]) | (apply wpPlan_skip; rfl; rfl; simp only [Act.put, List.setIfInBounds_toArray, List.set_cons_zero, List.set_cons_succ]) | (apply wpPlan_pass; rfl; rfl; assumption; simp only [Act.put, List.setIfInBounds_toArray, List.set_cons_zero, List.set_cons_succ]))
  apply wpPlan_call; rfl; rfl; rfl; rfl; kernel_rfl; exact HH.out _ (HIB.out.later (Below.refl _ _).drew); rfl; rintro E w5 ⟨rfl, rfl⟩
  refine ⟨_, rfl, as_S HS ?_⟩
  intro HS
  simp only [Act.put, List.setIfInBounds_toArray, List.set_cons_zero, List.set_cons_succ]
  repeat (first | (apply wpPlan_look; rfl; rfl; (intro wq hq; (try dsimp only at hq); go_split_ands; go_simp; (try rw [if_neg (by omega)]); (try rw [if_pos (by omega)]); try with_reducible rfl); simp only [Act.put, List.setIfInBounds_toArray, List.set_cons_zero, List.set_cons_succ]) | (apply wpPlan_skip; rfl; rfl; simp only [Act.put, List.setIfInBounds_toArray, List.set_cons_zero, List.set_cons_succ]) | (apply wpPlan_pass; rfl; rfl; assumption; simp only [Act.put, List.setIfInBounds_toArray, List.set_cons_zero, List.set_cons_succ]))
  apply wpPlan_call; rfl; rfl; rfl; rfl; kernel_rfl; exact HN.out _ (HIB.out.later (Below.refl _ _).drew); rfl; rintro E w6 ⟨rfl, hb6⟩
  have hb6' : Below w1.heap.size w1 w6 := (Below.refl _ _).drew.trans hb6
  refine ⟨_, rfl, as_S ⟨cell_later hb6' k0, cell_later hb6' k1⟩ ?_⟩
  intro HS
  simp only [Act.put, List.setIfInBounds_toArray, List.set_cons_zero, List.set_cons_succ]
  repeat (first | (apply wpPlan_look; rfl; rfl; (intro wq hq; (try dsimp only at hq); go_split_ands; go_simp; (try rw [if_neg (by omega)]); (try rw [if_pos (by omega)]); try with_reducible rfl); simp only [Act.put, List.setIfInBounds_toArray, List.set_cons_zero, List.set_cons_succ]) | (apply wpPlan_skip; rfl; rfl; simp only [Act.put, List.setIfInBounds_toArray, List.set_cons_zero, List.set_cons_succ]) | (apply wpPlan_pass; rfl; rfl; assumption; simp only [Act.put, List.setIfInBounds_toArray, List.set_cons_zero, List.set_cons_succ]))
  have hb7 : Below w1.heap.size w1 (w6.alloc (.cells #[.int .i64 (p1 : Int), .string (Ins.headed t1 (.list .dyn)).str, .int .i64 11, .int .i64 (p0 : Int), .string (Ins.innerM t1 108).str, .int .i64 14] 123)) := hb6'.alloc hb6'.size _
  have q0 := cell_later hb7 k0
  have q1 := cell_later hb7 k1
  refine wpPlan_run rfl rfl (by simp [execOp, go_sem, build_wish2]; (first | exact ⟨rfl, rfl⟩ | rfl)) _ (fun _ h => h) ⟨q0, q1⟩ ?_
  simp only [Act.put, List.setIfInBounds_toArray, List.set_cons_zero, List.set_cons_succ]
  repeat (first | (apply wpPlan_look; rfl; rfl; (intro wq hq; (try dsimp only at hq); go_split_ands; go_simp; (try rw [if_neg (by omega)]); (try rw [if_pos (by omega)]); try with_reducible rfl); simp only [Act.put, List.setIfInBounds_toArray, List.set_cons_zero, List.set_cons_succ]) | (apply wpPlan_skip; rfl; rfl; simp only [Act.put, List.setIfInBounds_toArray, List.set_cons_zero, List.set_cons_succ]) | (apply wpPlan_pass; rfl; rfl; assumption; simp only [Act.put, List.setIfInBounds_toArray, List.set_cons_zero, List.set_cons_succ]))
  apply wpPlan_done
  have HB6 := Lib.hid (HB0.out.trans (hb6'.mono HB0.out.size))
  clear hb6 hb6' hb7 q0 q1 k0 k1 x4 x5 HS
  go_wp2_with fail
  go_ret
  exact wish_made (w1 := w6) (L := [(1, Ins.headed t1 (.list .dyn), 11), (0, Ins.innerM t1 108, 14)]) rfl (by simp) HB6.out
set_option maxRecDepth 100000 in
set_option maxHeartbeats 1600000 in
theorem wishes_28 (hx : T[p]? = some x) (hk : x.kind = 28) (hN : Nodes W tv T) (hTl : T.length ≤ 1000000) (hK : KidsV c w kv (([(p0, t0), (p1, t1)]).map Prod.fst)) (hT : Told ys ([(p0, t0), (p1, t1)])) (hY : Nms W yv ys) (h : InAt W c m tv yv sv S w) (u0 : Ty) (lm : List Ty) (hm : Tr.matchT t0 120 = some lm) (hl0 : lm[0]? = some u0):
    Calls Tryz.prog 68 #[.pointer (some ⟨c, 0, none⟩), .int .i64 (p : Int), kv] w (WishRes (([(p0, t0), (p1, t1)]).map Prod.fst) ([(0, Ins.headed t0 (.box .dyn), 12), (1, Ins.innerM t0 120, 15)]) w) := by
  have HI := Lib.hid h
  have HT := Lib.hid hT
  have HY := Lib.hid hY
  have hp := (List.getElem?_eq_some_iff.1 hx).1
  have c1 := h.c1
  obtain ⟨A, C, rfl, hlc, hNN⟩ := hN.later h.low
  obtain ⟨b, off, rfl, hM⟩ := hNN (by omega)
  obtain ⟨n0, n1, n2, n3, n4, n5, n6, n7⟩ := hM.at_ hx
  obtain ⟨k, kd, n, s, t, u, l, cl⟩ := x
  obtain rfl : k = 28 := hk
  obtain ⟨g, o, Ck, rfl, hlC, hg, hkc⟩ := hK.shape
  have HKV := Lib.hid hkc
  have hlm : (([(p0, t0), (p1, t1)] : List (Nat × Ty)).map Prod.fst).length = ([(p0, t0), (p1, t1)] : List (Nat × Ty)).length := List.length_map _
  rw [hlm] at hlC ⊢
  have HBX : Hid (Box w.heap.size (Nd.mk 28 kd n s t u l cl) (w.alloc (.cells #[.int .i8 28, .int .i64 kd, .int .i64 n, .string s, .string t, .string u, .int .i64 l, .int .i64 cl] 38))) := Lib.hid (MapKept.heap_alloc w _).1
  have HB0 := Lib.hid ((Below.refl w.heap.size w).alloc (Nat.le_refl _) (.cells #[.int .i8 28, .int .i64 kd, .int .i64 n, .string s, .string t, .string u, .int .i64 l, .int .i64 cl] 38))
  clear hM hNN hN h hx hT hY hkc hlm hK
  simp only at n0 n1 n2 n3 n4 n5 n6 n7
  go_enter Tryz.func68, Tryz.ntmps68
  go_wp2_with fail
  have HTJ := Lib.hid (HT.out (p0, t0) (by simp))
  have HH := Lib.hid (fun (w' : World) (hI : InAt W c m (.slice (some ⟨b, off, none⟩) T.length C) yv sv S w') => headed_any p0 t0 (.box .dyn) HY.out HTJ.out.1 hI)
  have HN := Lib.hid (fun (w' : World) (hI : InAt W c m (.slice (some ⟨b, off, none⟩) T.length C) yv sv S w') => iinner_any p0 t0 u0 HTJ.out.2 120 (by decide) lm hm hl0 HY.out HTJ.out.1 hI)
  have k1 := HKV.out _ (Keep.of HB0.out) 1 p1 rfl
  clear hm hl0
  have x4 := HBX.out.cell 4
  have x5 := HBX.out.cell 5
  have k0 := HKV.out _ (Keep.of HB0.out) 0 p0 rfl
  rw [Nat.add_zero] at k0
  have HIB := Lib.hid (HI.out.later HB0.out)
  clear n0 n1 n2 n3 n4 n5 n6 n7 c1 HBX
  generalize (w.alloc (.cells #[.int .i8 28, .int .i64 kd, .int .i64 n, .string s, .string t, .string u, .int .i64 l, .int .i64 cl] 38)) = w1 at *
  refine wp_region_plan (S := fun w' => w'.cell? ⟨g, o, none⟩ = some (.int .i64 (p0 : Int)) ∧ w'.cell? ⟨g, o + 1, none⟩ = some (.int .i64 (p1 : Int))) [(0, true), (1, true), (2, true), (3, true), (4, true), (5, true), (6, true), (9, true), (10, true), (11, true), (12, true), (13, true), (14, true), (15, true), (7, false), (8, true), (16, false), (17, true), (18, false), (19, true)] (by kernel_rfl) (by kernel_rfl) (by kernel_rfl) (fun _ _ _ _ _ h => h) ⟨k0, k1⟩ ?_
  intro HS
  repeat (first | (apply wpPlan_look; rfl; rfl; (intro wq hq; (try dsimp only at hq); go_split_ands; go_simp; (try rw [if_neg (by omega)]); (try rw [if_pos (by omega)]); try with_reducible rfl); simp only [Act.put, List.setIfInBounds_toArray, List.set_cons_zero, List.set_cons_succ]) | (apply wpPlan_skip; rfl; rfl; simp only [Act.put, List.setIfInBounds_toArray, List.set_cons_zero, List.set_cons_succ]) | (apply wpPlan_pass; rfl; rfl; assumption; simp only [Act.put, List.setIfInBounds_toArray, List.set_cons_zero, List.set_cons_succ]))
  apply wpPlan_call; rfl; rfl; rfl; rfl; kernel_rfl; exact HH.out _ (HIB.out.later (Below.refl _ _).drew); rfl; rintro E w5 ⟨rfl, rfl⟩
  refine ⟨_, rfl, as_S HS ?_⟩
  intro HS
  simp only [Act.put, List.setIfInBounds_toArray, List.set_cons_zero, List.set_cons_succ]
  repeat (first | (apply wpPlan_look; rfl; rfl; (intro wq hq; (try dsimp only at hq); go_split_ands; go_simp; (try rw [if_neg (by omega)]); (try rw [if_pos (by omega)]); try with_reducible rfl); simp only [Act.put, List.setIfInBounds_toArray, List.set_cons_zero, List.set_cons_succ]) | (apply wpPlan_skip; rfl; rfl; simp only [Act.put, List.setIfInBounds_toArray, List.set_cons_zero, List.set_cons_succ]) | (apply wpPlan_pass; rfl; rfl; assumption; simp only [Act.put, List.setIfInBounds_toArray, List.set_cons_zero, List.set_cons_succ]))
  apply wpPlan_call; rfl; rfl; rfl; rfl; kernel_rfl; exact HN.out _ (HIB.out.later (Below.refl _ _).drew); rfl; rintro E w6 ⟨rfl, hb6⟩
  have hb6' : Below w1.heap.size w1 w6 := (Below.refl _ _).drew.trans hb6
  refine ⟨_, rfl, as_S ⟨cell_later hb6' k0, cell_later hb6' k1⟩ ?_⟩
  intro HS
  simp only [Act.put, List.setIfInBounds_toArray, List.set_cons_zero, List.set_cons_succ]
  repeat (first | (apply wpPlan_look; rfl; rfl; (intro wq hq; (try dsimp only at hq); go_split_ands; go_simp; (try rw [if_neg (by omega)]); (try rw [if_pos (by omega)]); try with_reducible rfl); simp only [Act.put, List.setIfInBounds_toArray, List.set_cons_zero, List.set_cons_succ]) | (apply wpPlan_skip; rfl; rfl; simp only [Act.put, List.setIfInBounds_toArray, List.set_cons_zero, List.set_cons_succ]) | (apply wpPlan_pass; rfl; rfl; assumption; simp only [Act.put, List.setIfInBounds_toArray, List.set_cons_zero, List.set_cons_succ]))
  have hb7 : Below w1.heap.size w1 (w6.alloc (.cells #[.int .i64 (p0 : Int), .string (Ins.headed t0 (.box .dyn)).str, .int .i64 12, .int .i64 (p1 : Int), .string (Ins.innerM t0 120).str, .int .i64 15] 123)) := hb6'.alloc hb6'.size _
  have q0 := cell_later hb7 k0
  have q1 := cell_later hb7 k1
  refine wpPlan_run rfl rfl (by simp [execOp, go_sem, build_wish2]; (first | exact ⟨rfl, rfl⟩ | rfl)) _ (fun _ h => h) ⟨q0, q1⟩ ?_
  simp only [Act.put, List.setIfInBounds_toArray, List.set_cons_zero, List.set_cons_succ]
  repeat (first | (apply wpPlan_look; rfl; rfl; (intro wq hq; (try dsimp only at hq); go_split_ands; go_simp; (try rw [if_neg (by omega)]); (try rw [if_pos (by omega)]); try with_reducible rfl); simp only [Act.put, List.setIfInBounds_toArray, List.set_cons_zero, List.set_cons_succ]) | (apply wpPlan_skip; rfl; rfl; simp only [Act.put, List.setIfInBounds_toArray, List.set_cons_zero, List.set_cons_succ]) | (apply wpPlan_pass; rfl; rfl; assumption; simp only [Act.put, List.setIfInBounds_toArray, List.set_cons_zero, List.set_cons_succ]))
  apply wpPlan_done
  have HB6 := Lib.hid (HB0.out.trans (hb6'.mono HB0.out.size))
  clear hb6 hb6' hb7 q0 q1 k0 k1 x4 x5 HS
  go_wp2_with fail
  go_ret
  exact wish_made (w1 := w6) (L := [(0, Ins.headed t0 (.box .dyn), 12), (1, Ins.innerM t0 120, 15)]) rfl (by simp) HB6.out
end
end Go.Proofs.YtdfadmhomjcmeaaGreatDoor

/- Walks of insert: the casts that a node asks for: If, the operations, lists, and those that ask for none. -/
namespace Go.Proofs.YtdfadmhomjcmeaaGreatDoor
set_option linter.unusedSimpArgs false
set_option linter.unusedVariables false
open Go.RowKit Culp
theorem WishRes.base {P : List Nat} {L : List Ins.Wish} {w w1 w2 : World} {E : Ending} (h : WishRes P L w1 E w2) (hb : Below w.heap.size w w1) : WishRes P L w E w2 := by
  obtain ⟨v, h1, h2, h3⟩ := h
  exact ⟨v, h1, own_base h2 hb.size, below_later h3 hb⟩
section
variable {W w : World} {c : Nat} {m : ByteArray} {tv yv sv kv : Value} {S : List Ins.Sit} {ys : List ByteArray} {T : List Nd} {x : Nd} {p p0 p1 p2 : Nat} {t0 t1 t2 : Ty} {Kl : List (Nat × Ty)}
set_option maxRecDepth 100000 in
set_option maxHeartbeats 1600000 in
theorem wishes_10 (hx : T[p]? = some x) (hk : x.kind = 10) (hN : Nodes W tv T) (hTl : T.length ≤ 1000000) (hK : KidsV c w kv ((Kl).map Prod.fst)) (hT : Told ys (Kl)) (hY : Nms W yv ys) (h : InAt W c m tv yv sv S w) (hl : Kl.length ≤ 1000000):
    Calls Tryz.prog 68 #[.pointer (some ⟨c, 0, none⟩), .int .i64 (p : Int), kv] w (WishRes ((Kl).map Prod.fst) (Ins.all Kl.length .int 8) w) := by
  have HI := Lib.hid h
  have HT := Lib.hid hT
  have HY := Lib.hid hY
  have hp := (List.getElem?_eq_some_iff.1 hx).1
  have c1 := h.c1
  obtain ⟨A, C, rfl, hlc, hNN⟩ := hN.later h.low
  obtain ⟨b, off, rfl, hM⟩ := hNN (by omega)
  obtain ⟨n0, n1, n2, n3, n4, n5, n6, n7⟩ := hM.at_ hx
  obtain ⟨k, kd, n, s, t, u, l, cl⟩ := x
  obtain rfl : k = 10 := hk
  obtain ⟨g, o, Ck, rfl, hlC, hg, hkc⟩ := hK.shape
  have HKS := Lib.hid hK
  have HKV := Lib.hid hkc
  have hlm : ((Kl : List (Nat × Ty)).map Prod.fst).length = (Kl : List (Nat × Ty)).length := List.length_map _
  rw [hlm] at hlC HKS ⊢
  have HBX : Hid (Box w.heap.size (Nd.mk 10 kd n s t u l cl) (w.alloc (.cells #[.int .i8 10, .int .i64 kd, .int .i64 n, .string s, .string t, .string u, .int .i64 l, .int .i64 cl] 38))) := Lib.hid (MapKept.heap_alloc w _).1
  have HB0 := Lib.hid ((Below.refl w.heap.size w).alloc (Nat.le_refl _) (.cells #[.int .i8 10, .int .i64 kd, .int .i64 n, .string s, .string t, .string u, .int .i64 l, .int .i64 cl] 38))
  clear hM hNN hN h hx hT hY hkc hlm hK
  simp only at n0 n1 n2 n3 n4 n5 n6 n7
  have HA := Lib.hid (fun (w' : World) hk' => iall_any (Kl.map Prod.fst) c (.slice (some ⟨g, o, none⟩) Kl.length Ck) .int 8 w' (.inl hk') (by rw [List.length_map]; exact hl))
  have HK0 := Lib.hid (HKS.out.keep (Keep.of HB0.out))
  go_enter Tryz.func68, Tryz.ntmps68
  go_wp2_with fail
  refine (HA.out _ HK0.out).mono ?_
  rintro E w2 h2
  rw [List.length_map] at h2
  have HR := Lib.hid (h2.base HB0.out)
  obtain ⟨v, rfl, -, -⟩ := h2
  clear HA HBX c1 n0 n1 n2 n3 n4 n5 n6 n7
  go_wp2_with fail
  go_ret
  exact HR.out
set_option maxRecDepth 100000 in
set_option maxHeartbeats 1600000 in
theorem wishes_11 (hx : T[p]? = some x) (hk : x.kind = 11) (hN : Nodes W tv T) (hTl : T.length ≤ 1000000) (hK : KidsV c w kv ((Kl).map Prod.fst)) (hT : Told ys (Kl)) (hY : Nms W yv ys) (h : InAt W c m tv yv sv S w) (hl : Kl.length ≤ 1000000):
    Calls Tryz.prog 68 #[.pointer (some ⟨c, 0, none⟩), .int .i64 (p : Int), kv] w (WishRes ((Kl).map Prod.fst) (Ins.all Kl.length .int 8) w) := by
  have HI := Lib.hid h
  have HT := Lib.hid hT
  have HY := Lib.hid hY
  have hp := (List.getElem?_eq_some_iff.1 hx).1
  have c1 := h.c1
  obtain ⟨A, C, rfl, hlc, hNN⟩ := hN.later h.low
  obtain ⟨b, off, rfl, hM⟩ := hNN (by omega)
  obtain ⟨n0, n1, n2, n3, n4, n5, n6, n7⟩ := hM.at_ hx
  obtain ⟨k, kd, n, s, t, u, l, cl⟩ := x
  obtain rfl : k = 11 := hk
  obtain ⟨g, o, Ck, rfl, hlC, hg, hkc⟩ := hK.shape
  have HKS := Lib.hid hK
  have HKV := Lib.hid hkc
  have hlm : ((Kl : List (Nat × Ty)).map Prod.fst).length = (Kl : List (Nat × Ty)).length := List.length_map _
  rw [hlm] at hlC HKS ⊢
  have HBX : Hid (Box w.heap.size (Nd.mk 11 kd n s t u l cl) (w.alloc (.cells #[.int .i8 11, .int .i64 kd, .int .i64 n, .string s, .string t, .string u, .int .i64 l, .int .i64 cl] 38))) := Lib.hid (MapKept.heap_alloc w _).1
  have HB0 := Lib.hid ((Below.refl w.heap.size w).alloc (Nat.le_refl _) (.cells #[.int .i8 11, .int .i64 kd, .int .i64 n, .string s, .string t, .string u, .int .i64 l, .int .i64 cl] 38))
  clear hM hNN hN h hx hT hY hkc hlm hK
  simp only at n0 n1 n2 n3 n4 n5 n6 n7
  have HA := Lib.hid (fun (w' : World) hk' => iall_any (Kl.map Prod.fst) c (.slice (some ⟨g, o, none⟩) Kl.length Ck) .int 8 w' (.inl hk') (by rw [List.length_map]; exact hl))
  have HK0 := Lib.hid (HKS.out.keep (Keep.of HB0.out))
  go_enter Tryz.func68, Tryz.ntmps68
  go_wp2_with fail
  refine (HA.out _ HK0.out).mono ?_
  rintro E w2 h2
  rw [List.length_map] at h2
  have HR := Lib.hid (h2.base HB0.out)
  obtain ⟨v, rfl, -, -⟩ := h2
  clear HA HBX c1 n0 n1 n2 n3 n4 n5 n6 n7
  go_wp2_with fail
  go_ret
  exact HR.out
set_option maxRecDepth 100000 in
set_option maxHeartbeats 1600000 in
theorem wishes_12 (hx : T[p]? = some x) (hk : x.kind = 12) (hN : Nodes W tv T) (hTl : T.length ≤ 1000000) (hK : KidsV c w kv ((Kl).map Prod.fst)) (hT : Told ys (Kl)) (hY : Nms W yv ys) (h : InAt W c m tv yv sv S w) (hl : Kl.length ≤ 1000000):
    Calls Tryz.prog 68 #[.pointer (some ⟨c, 0, none⟩), .int .i64 (p : Int), kv] w (WishRes ((Kl).map Prod.fst) (Ins.all Kl.length .int 8) w) := by
  have HI := Lib.hid h
  have HT := Lib.hid hT
  have HY := Lib.hid hY
  have hp := (List.getElem?_eq_some_iff.1 hx).1
  have c1 := h.c1
  obtain ⟨A, C, rfl, hlc, hNN⟩ := hN.later h.low
  obtain ⟨b, off, rfl, hM⟩ := hNN (by omega)
  obtain ⟨n0, n1, n2, n3, n4, n5, n6, n7⟩ := hM.at_ hx
  obtain ⟨k, kd, n, s, t, u, l, cl⟩ := x
  obtain rfl : k = 12 := hk
  obtain ⟨g, o, Ck, rfl, hlC, hg, hkc⟩ := hK.shape
  have HKS := Lib.hid hK
  have HKV := Lib.hid hkc
  have hlm : ((Kl : List (Nat × Ty)).map Prod.fst).length = (Kl : List (Nat × Ty)).length := List.length_map _
  rw [hlm] at hlC HKS ⊢
  have HBX : Hid (Box w.heap.size (Nd.mk 12 kd n s t u l cl) (w.alloc (.cells #[.int .i8 12, .int .i64 kd, .int .i64 n, .string s, .string t, .string u, .int .i64 l, .int .i64 cl] 38))) := Lib.hid (MapKept.heap_alloc w _).1
  have HB0 := Lib.hid ((Below.refl w.heap.size w).alloc (Nat.le_refl _) (.cells #[.int .i8 12, .int .i64 kd, .int .i64 n, .string s, .string t, .string u, .int .i64 l, .int .i64 cl] 38))
  clear hM hNN hN h hx hT hY hkc hlm hK
  simp only at n0 n1 n2 n3 n4 n5 n6 n7
  have HA := Lib.hid (fun (w' : World) hk' => iall_any (Kl.map Prod.fst) c (.slice (some ⟨g, o, none⟩) Kl.length Ck) .int 8 w' (.inl hk') (by rw [List.length_map]; exact hl))
  have HK0 := Lib.hid (HKS.out.keep (Keep.of HB0.out))
  go_enter Tryz.func68, Tryz.ntmps68
  go_wp2_with fail
  refine (HA.out _ HK0.out).mono ?_
  rintro E w2 h2
  rw [List.length_map] at h2
  have HR := Lib.hid (h2.base HB0.out)
  obtain ⟨v, rfl, -, -⟩ := h2
  clear HA HBX c1 n0 n1 n2 n3 n4 n5 n6 n7
  go_wp2_with fail
  go_ret
  exact HR.out
set_option maxRecDepth 100000 in
set_option maxHeartbeats 1600000 in
theorem wishes_16 (hx : T[p]? = some x) (hk : x.kind = 16) (hN : Nodes W tv T) (hTl : T.length ≤ 1000000) (hK : KidsV c w kv ((Kl).map Prod.fst)) (hT : Told ys (Kl)) (hY : Nms W yv ys) (h : InAt W c m tv yv sv S w) (hl : Kl.length ≤ 1000000):
    Calls Tryz.prog 68 #[.pointer (some ⟨c, 0, none⟩), .int .i64 (p : Int), kv] w (WishRes ((Kl).map Prod.fst) (Ins.all Kl.length .int 8) w) := by
  have HI := Lib.hid h
  have HT := Lib.hid hT
  have HY := Lib.hid hY
  have hp := (List.getElem?_eq_some_iff.1 hx).1
  have c1 := h.c1
  obtain ⟨A, C, rfl, hlc, hNN⟩ := hN.later h.low
  obtain ⟨b, off, rfl, hM⟩ := hNN (by omega)
  obtain ⟨n0, n1, n2, n3, n4, n5, n6, n7⟩ := hM.at_ hx
  obtain ⟨k, kd, n, s, t, u, l, cl⟩ := x
  obtain rfl : k = 16 := hk
  obtain ⟨g, o, Ck, rfl, hlC, hg, hkc⟩ := hK.shape
  have HKS := Lib.hid hK
  have HKV := Lib.hid hkc
  have hlm : ((Kl : List (Nat × Ty)).map Prod.fst).length = (Kl : List (Nat × Ty)).length := List.length_map _
  rw [hlm] at hlC HKS ⊢
  have HBX : Hid (Box w.heap.size (Nd.mk 16 kd n s t u l cl) (w.alloc (.cells #[.int .i8 16, .int .i64 kd, .int .i64 n, .string s, .string t, .string u, .int .i64 l, .int .i64 cl] 38))) := Lib.hid (MapKept.heap_alloc w _).1
  have HB0 := Lib.hid ((Below.refl w.heap.size w).alloc (Nat.le_refl _) (.cells #[.int .i8 16, .int .i64 kd, .int .i64 n, .string s, .string t, .string u, .int .i64 l, .int .i64 cl] 38))
  clear hM hNN hN h hx hT hY hkc hlm hK
  simp only at n0 n1 n2 n3 n4 n5 n6 n7
  have HA := Lib.hid (fun (w' : World) hk' => iall_any (Kl.map Prod.fst) c (.slice (some ⟨g, o, none⟩) Kl.length Ck) .int 8 w' (.inl hk') (by rw [List.length_map]; exact hl))
  have HK0 := Lib.hid (HKS.out.keep (Keep.of HB0.out))
  go_enter Tryz.func68, Tryz.ntmps68
  go_wp2_with fail
  refine (HA.out _ HK0.out).mono ?_
  rintro E w2 h2
  rw [List.length_map] at h2
  have HR := Lib.hid (h2.base HB0.out)
  obtain ⟨v, rfl, -, -⟩ := h2
  clear HA HBX c1 n0 n1 n2 n3 n4 n5 n6 n7
  go_wp2_with fail
  go_ret
  exact HR.out
set_option maxRecDepth 100000 in
set_option maxHeartbeats 1600000 in
theorem wishes_14 (hx : T[p]? = some x) (hk : x.kind = 14) (hN : Nodes W tv T) (hTl : T.length ≤ 1000000) (hK : KidsV c w kv ((Kl).map Prod.fst)) (hT : Told ys (Kl)) (hY : Nms W yv ys) (h : InAt W c m tv yv sv S w) (hl : Kl.length ≤ 1000000):
    Calls Tryz.prog 68 #[.pointer (some ⟨c, 0, none⟩), .int .i64 (p : Int), kv] w (WishRes ((Kl).map Prod.fst) (Ins.all Kl.length .int 8) w) := by
  have HI := Lib.hid h
  have HT := Lib.hid hT
  have HY := Lib.hid hY
  have hp := (List.getElem?_eq_some_iff.1 hx).1
  have c1 := h.c1
  obtain ⟨A, C, rfl, hlc, hNN⟩ := hN.later h.low
  obtain ⟨b, off, rfl, hM⟩ := hNN (by omega)
  obtain ⟨n0, n1, n2, n3, n4, n5, n6, n7⟩ := hM.at_ hx
  obtain ⟨k, kd, n, s, t, u, l, cl⟩ := x
  obtain rfl : k = 14 := hk
  obtain ⟨g, o, Ck, rfl, hlC, hg, hkc⟩ := hK.shape
  have HKS := Lib.hid hK
  have HKV := Lib.hid hkc
  have hlm : ((Kl : List (Nat × Ty)).map Prod.fst).length = (Kl : List (Nat × Ty)).length := List.length_map _
  rw [hlm] at hlC HKS ⊢
  have HBX : Hid (Box w.heap.size (Nd.mk 14 kd n s t u l cl) (w.alloc (.cells #[.int .i8 14, .int .i64 kd, .int .i64 n, .string s, .string t, .string u, .int .i64 l, .int .i64 cl] 38))) := Lib.hid (MapKept.heap_alloc w _).1
  have HB0 := Lib.hid ((Below.refl w.heap.size w).alloc (Nat.le_refl _) (.cells #[.int .i8 14, .int .i64 kd, .int .i64 n, .string s, .string t, .string u, .int .i64 l, .int .i64 cl] 38))
  clear hM hNN hN h hx hT hY hkc hlm hK
  simp only at n0 n1 n2 n3 n4 n5 n6 n7
  have HA := Lib.hid (fun (w' : World) hk' => iall_any (Kl.map Prod.fst) c (.slice (some ⟨g, o, none⟩) Kl.length Ck) .int 8 w' (.inl hk') (by rw [List.length_map]; exact hl))
  have HK0 := Lib.hid (HKS.out.keep (Keep.of HB0.out))
  go_enter Tryz.func68, Tryz.ntmps68
  go_wp2_with fail
  refine (HA.out _ HK0.out).mono ?_
  rintro E w2 h2
  rw [List.length_map] at h2
  have HR := Lib.hid (h2.base HB0.out)
  obtain ⟨v, rfl, -, -⟩ := h2
  clear HA HBX c1 n0 n1 n2 n3 n4 n5 n6 n7
  go_wp2_with fail
  go_ret
  exact HR.out
set_option maxRecDepth 100000 in
set_option maxHeartbeats 1600000 in
theorem wishes_15 (hx : T[p]? = some x) (hk : x.kind = 15) (hN : Nodes W tv T) (hTl : T.length ≤ 1000000) (hK : KidsV c w kv ((Kl).map Prod.fst)) (hT : Told ys (Kl)) (hY : Nms W yv ys) (h : InAt W c m tv yv sv S w) (hl : Kl.length ≤ 1000000):
    Calls Tryz.prog 68 #[.pointer (some ⟨c, 0, none⟩), .int .i64 (p : Int), kv] w (WishRes ((Kl).map Prod.fst) (Ins.all Kl.length .int 8) w) := by
  have HI := Lib.hid h
  have HT := Lib.hid hT
  have HY := Lib.hid hY
  have hp := (List.getElem?_eq_some_iff.1 hx).1
  have c1 := h.c1
  obtain ⟨A, C, rfl, hlc, hNN⟩ := hN.later h.low
  obtain ⟨b, off, rfl, hM⟩ := hNN (by omega)
  obtain ⟨n0, n1, n2, n3, n4, n5, n6, n7⟩ := hM.at_ hx
  obtain ⟨k, kd, n, s, t, u, l, cl⟩ := x
  obtain rfl : k = 15 := hk
  obtain ⟨g, o, Ck, rfl, hlC, hg, hkc⟩ := hK.shape
  have HKS := Lib.hid hK
  have HKV := Lib.hid hkc
  have hlm : ((Kl : List (Nat × Ty)).map Prod.fst).length = (Kl : List (Nat × Ty)).length := List.length_map _
  rw [hlm] at hlC HKS ⊢
  have HBX : Hid (Box w.heap.size (Nd.mk 15 kd n s t u l cl) (w.alloc (.cells #[.int .i8 15, .int .i64 kd, .int .i64 n, .string s, .string t, .string u, .int .i64 l, .int .i64 cl] 38))) := Lib.hid (MapKept.heap_alloc w _).1
  have HB0 := Lib.hid ((Below.refl w.heap.size w).alloc (Nat.le_refl _) (.cells #[.int .i8 15, .int .i64 kd, .int .i64 n, .string s, .string t, .string u, .int .i64 l, .int .i64 cl] 38))
  clear hM hNN hN h hx hT hY hkc hlm hK
  simp only at n0 n1 n2 n3 n4 n5 n6 n7
  have HA := Lib.hid (fun (w' : World) hk' => iall_any (Kl.map Prod.fst) c (.slice (some ⟨g, o, none⟩) Kl.length Ck) .int 8 w' (.inl hk') (by rw [List.length_map]; exact hl))
  have HK0 := Lib.hid (HKS.out.keep (Keep.of HB0.out))
  go_enter Tryz.func68, Tryz.ntmps68
  go_wp2_with fail
  refine (HA.out _ HK0.out).mono ?_
  rintro E w2 h2
  rw [List.length_map] at h2
  have HR := Lib.hid (h2.base HB0.out)
  obtain ⟨v, rfl, -, -⟩ := h2
  clear HA HBX c1 n0 n1 n2 n3 n4 n5 n6 n7
  go_wp2_with fail
  go_ret
  exact HR.out
set_option maxRecDepth 100000 in
set_option maxHeartbeats 1600000 in
theorem wishes_13 (hx : T[p]? = some x) (hk : x.kind = 13) (hN : Nodes W tv T) (hTl : T.length ≤ 1000000) (hK : KidsV c w kv ((Kl).map Prod.fst)) (hT : Told ys (Kl)) (hY : Nms W yv ys) (h : InAt W c m tv yv sv S w) (hl : Kl.length ≤ 1000000):
    Calls Tryz.prog 68 #[.pointer (some ⟨c, 0, none⟩), .int .i64 (p : Int), kv] w (WishRes ((Kl).map Prod.fst) (Ins.all Kl.length .text 9) w) := by
  have HI := Lib.hid h
  have HT := Lib.hid hT
  have HY := Lib.hid hY
  have hp := (List.getElem?_eq_some_iff.1 hx).1
  have c1 := h.c1
  obtain ⟨A, C, rfl, hlc, hNN⟩ := hN.later h.low
  obtain ⟨b, off, rfl, hM⟩ := hNN (by omega)
  obtain ⟨n0, n1, n2, n3, n4, n5, n6, n7⟩ := hM.at_ hx
  obtain ⟨k, kd, n, s, t, u, l, cl⟩ := x
  obtain rfl : k = 13 := hk
  obtain ⟨g, o, Ck, rfl, hlC, hg, hkc⟩ := hK.shape
  have HKS := Lib.hid hK
  have HKV := Lib.hid hkc
  have hlm : ((Kl : List (Nat × Ty)).map Prod.fst).length = (Kl : List (Nat × Ty)).length := List.length_map _
  rw [hlm] at hlC HKS ⊢
  have HBX : Hid (Box w.heap.size (Nd.mk 13 kd n s t u l cl) (w.alloc (.cells #[.int .i8 13, .int .i64 kd, .int .i64 n, .string s, .string t, .string u, .int .i64 l, .int .i64 cl] 38))) := Lib.hid (MapKept.heap_alloc w _).1
  have HB0 := Lib.hid ((Below.refl w.heap.size w).alloc (Nat.le_refl _) (.cells #[.int .i8 13, .int .i64 kd, .int .i64 n, .string s, .string t, .string u, .int .i64 l, .int .i64 cl] 38))
  clear hM hNN hN h hx hT hY hkc hlm hK
  simp only at n0 n1 n2 n3 n4 n5 n6 n7
  have HA := Lib.hid (fun (w' : World) hk' => iall_any (Kl.map Prod.fst) c (.slice (some ⟨g, o, none⟩) Kl.length Ck) .text 9 w' (.inl hk') (by rw [List.length_map]; exact hl))
  have HK0 := Lib.hid (HKS.out.keep (Keep.of HB0.out))
  go_enter Tryz.func68, Tryz.ntmps68
  go_wp2_with fail
  refine (HA.out _ HK0.out).mono ?_
  rintro E w2 h2
  rw [List.length_map] at h2
  have HR := Lib.hid (h2.base HB0.out)
  obtain ⟨v, rfl, -, -⟩ := h2
  clear HA HBX c1 n0 n1 n2 n3 n4 n5 n6 n7
  go_wp2_with fail
  go_ret
  exact HR.out
set_option maxRecDepth 100000 in
set_option maxHeartbeats 1600000 in
theorem wishes_17 (hx : T[p]? = some x) (hk : x.kind = 17) (hN : Nodes W tv T) (hTl : T.length ≤ 1000000) (hK : KidsV c w kv ((Kl).map Prod.fst)) (hT : Told ys (Kl)) (hY : Nms W yv ys) (h : InAt W c m tv yv sv S w) (hl : Kl.length ≤ 1000000):
    Calls Tryz.prog 68 #[.pointer (some ⟨c, 0, none⟩), .int .i64 (p : Int), kv] w (WishRes ((Kl).map Prod.fst) (Ins.all Kl.length .text 9) w) := by
  have HI := Lib.hid h
  have HT := Lib.hid hT
  have HY := Lib.hid hY
  have hp := (List.getElem?_eq_some_iff.1 hx).1
  have c1 := h.c1
  obtain ⟨A, C, rfl, hlc, hNN⟩ := hN.later h.low
  obtain ⟨b, off, rfl, hM⟩ := hNN (by omega)
  obtain ⟨n0, n1, n2, n3, n4, n5, n6, n7⟩ := hM.at_ hx
  obtain ⟨k, kd, n, s, t, u, l, cl⟩ := x
  obtain rfl : k = 17 := hk
  obtain ⟨g, o, Ck, rfl, hlC, hg, hkc⟩ := hK.shape
  have HKS := Lib.hid hK
  have HKV := Lib.hid hkc
  have hlm : ((Kl : List (Nat × Ty)).map Prod.fst).length = (Kl : List (Nat × Ty)).length := List.length_map _
  rw [hlm] at hlC HKS ⊢
  have HBX : Hid (Box w.heap.size (Nd.mk 17 kd n s t u l cl) (w.alloc (.cells #[.int .i8 17, .int .i64 kd, .int .i64 n, .string s, .string t, .string u, .int .i64 l, .int .i64 cl] 38))) := Lib.hid (MapKept.heap_alloc w _).1
  have HB0 := Lib.hid ((Below.refl w.heap.size w).alloc (Nat.le_refl _) (.cells #[.int .i8 17, .int .i64 kd, .int .i64 n, .string s, .string t, .string u, .int .i64 l, .int .i64 cl] 38))
  clear hM hNN hN h hx hT hY hkc hlm hK
  simp only at n0 n1 n2 n3 n4 n5 n6 n7
  have HA := Lib.hid (fun (w' : World) hk' => iall_any (Kl.map Prod.fst) c (.slice (some ⟨g, o, none⟩) Kl.length Ck) .text 9 w' (.inl hk') (by rw [List.length_map]; exact hl))
  have HK0 := Lib.hid (HKS.out.keep (Keep.of HB0.out))
  go_enter Tryz.func68, Tryz.ntmps68
  go_wp2_with fail
  refine (HA.out _ HK0.out).mono ?_
  rintro E w2 h2
  rw [List.length_map] at h2
  have HR := Lib.hid (h2.base HB0.out)
  obtain ⟨v, rfl, -, -⟩ := h2
  clear HA HBX c1 n0 n1 n2 n3 n4 n5 n6 n7
  go_wp2_with fail
  go_ret
  exact HR.out
set_option maxRecDepth 100000 in
set_option maxHeartbeats 1600000 in
theorem wishes_21 (hx : T[p]? = some x) (hk : x.kind = 21) (hN : Nodes W tv T) (hTl : T.length ≤ 1000000) (hK : KidsV c w kv ((Kl).map Prod.fst)) (hT : Told ys (Kl)) (hY : Nms W yv ys) (h : InAt W c m tv yv sv S w) (hl : Kl.length ≤ 1000000) (hM : Ins.MetC .dyn (Kl.map Prod.snd)):
    Calls Tryz.prog 68 #[.pointer (some ⟨c, 0, none⟩), .int .i64 (p : Int), kv] w (WishRes ((Kl).map Prod.fst) (Ins.all Kl.length (Ins.met (Kl.map Prod.snd)) 13) w) := by
  have HI := Lib.hid h
  have HT := Lib.hid hT
  have HY := Lib.hid hY
  have hp := (List.getElem?_eq_some_iff.1 hx).1
  have c1 := h.c1
  obtain ⟨A, C, rfl, hlc, hNN⟩ := hN.later h.low
  obtain ⟨b, off, rfl, hM⟩ := hNN (by omega)
  obtain ⟨n0, n1, n2, n3, n4, n5, n6, n7⟩ := hM.at_ hx
  obtain ⟨k, kd, n, s, t, u, l, cl⟩ := x
  obtain rfl : k = 21 := hk
  obtain ⟨g, o, Ck, rfl, hlC, hg, hkc⟩ := hK.shape
  have HKS := Lib.hid hK
  have HKV := Lib.hid hkc
  have hlm : ((Kl : List (Nat × Ty)).map Prod.fst).length = (Kl : List (Nat × Ty)).length := List.length_map _
  rw [hlm] at hlC HKS ⊢
  have HBX : Hid (Box w.heap.size (Nd.mk 21 kd n s t u l cl) (w.alloc (.cells #[.int .i8 21, .int .i64 kd, .int .i64 n, .string s, .string t, .string u, .int .i64 l, .int .i64 cl] 38))) := Lib.hid (MapKept.heap_alloc w _).1
  have HB0 := Lib.hid ((Below.refl w.heap.size w).alloc (Nat.le_refl _) (.cells #[.int .i8 21, .int .i64 kd, .int .i64 n, .string s, .string t, .string u, .int .i64 l, .int .i64 cl] 38))
  clear hM hNN hN h hx hT hY hkc hlm hK
  simp only at n0 n1 n2 n3 n4 n5 n6 n7
  have HA := Lib.hid (fun (w' : World) hk' => iall_any (Kl.map Prod.fst) c (.slice (some ⟨g, o, none⟩) Kl.length Ck) (Ins.met (Kl.map Prod.snd)) 13 w' (.inl hk') (by rw [List.length_map]; exact hl))
  have HMT := Lib.hid (fun (w' : World) (hb : Below w.heap.size w w') (hI : InAt W c m (.slice (some ⟨b, off, none⟩) T.length C) yv sv S w') => imet_any Kl (.slice (some ⟨g, o, none⟩) Kl.length Ck) (.inl (HKS.out.keep (Keep.of hb))) HT.out hM hl HY.out hI)
  have HK0 := Lib.hid (fun (w' : World) (hb : Below w.heap.size w w') => HKS.out.keep (Keep.of hb))
  have HMT := Lib.hid (HMT.out _ HB0.out)
  clear hM
  generalize Ins.met (Kl.map Prod.snd) = mt at *
  go_enter Tryz.func68, Tryz.ntmps68
  go_wp2_with fail
  refine (HMT.out (HI.out.later HB0.out)).mono ?_
  rintro E w2 ⟨rfl, hb2⟩
  have HB2 := Lib.hid (below_later hb2 HB0.out)
  clear hb2 HMT c1 n0 n1 n2 n3 n4 n5 n6 n7
  go_wp2_with fail
  refine (HA.out _ (HK0.out _ HB2.out)).mono ?_
  rintro E w3 h3
  rw [List.length_map] at h3
  have HR := Lib.hid (h3.base HB2.out)
  obtain ⟨v, rfl, -, -⟩ := h3
  clear HA HBX
  go_wp2_with fail
  go_ret
  exact HR.out
end
end Go.Proofs.YtdfadmhomjcmeaaGreatDoor
