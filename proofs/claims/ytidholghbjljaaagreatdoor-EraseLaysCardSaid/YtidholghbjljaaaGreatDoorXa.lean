
/- Walks of erase: Static. -/
import Derived.Test.YtidholghbjljaaaGreatDoorWk
import Derived.Test.YtidholghbjljaaaGreatDoorWr
import Derived.Test.YtidholghbjljaaaGreatDoorVd
import Derived.Lib.Bytealg
import Derived.Lib.IndexAny
namespace Culp.Er
set_option linter.unusedSimpArgs false
set_option linter.unusedVariables false
open Culp Culp.Tr Culp.Mo
/-- No slot without a type, none with one that is not known, no empty list. -/
def statS (t : ByteArray) : Bool := !decide (t = no) && !t.data.toList.contains 63
def statN (x : Nd) : Bool := !decide (x.kind = 21) || decide (0 < x.kids)
def statSl (S : List Sl) (f : Pos → ByteArray) (k : Nat) : Bool := (S.take k).all fun s => statS (f s.pos)
def statT (T : List Nd) : Bool := T.all statN
def statD (D : List Df) : Bool := D.all fun d => statT d.tree
def statM (L : List Md) : Bool := L.all fun m => statD m.defs
def staticL (L : List Md) : Bool := decide (mods L = 0) && statSl (slots L) (note L) (slots L).length && statM L
theorem all_takeS {α : Type} {p : α → Bool} {l : List α} {k : Nat} {x : α} (h : l[k]? = some x) : (l.take (k + 1)).all p = ((l.take k).all p && p x) := by
  rw [List.take_add_one, h, List.all_append]; simp
end Culp.Er
namespace Go.Proofs.YtidholghbjljaaaGreatDoor
open Go.RowKit Culp Culp.Er
theorem xContains_any (s : ByteArray) (w : World) : Calls Tryz.prog 81 #[.string s, .string { data := #[63] }] w (Gives (.bool (s.data.toList.contains 63)) w) := by
  have HI := Lib.hid (Tryz.stringslite_Index_one s 63 w)
  have HC := Lib.hid (Go.Lib.contains_iff_indexByte s.data.toList 63)
  go_enter Tryz.func81, Tryz.ntmps81
  go_wp2_with (first | (go_at_call 129; refine HI.out.mono ?_; rintro e w' ⟨rfl, rfl⟩) | go_in)
  all_goals
    go_ret
    rw [HC.out]
    first
      | exact Gives.mk rfl
      | (refine Gives.mk ?_; congr 1; simp_all)
theorem cell_ok {w : World} {p : Nat} {v : Value} (h : One p 4 v w) : p < w.heap.size := (Array.getElem?_eq_some_iff.1 h).1
set_option maxRecDepth 100000 in
set_option maxHeartbeats 1600000 in
theorem static1_any (sk : Sk) (s : Sl) (t : ByteArray) (k p : Nat) (b : Bool) (W : World) (hp : One p 4 (.bool b) W) :
    Calls Tryz.prog 80 #[.int .i64 k, slotV s t, placeV sk s, .pointer (some ⟨p, 0, none⟩)] W fun e W' => e = .returned (.tuple #[]) ∧ One p 4 (.bool (b && statS t)) W' ∧ KeepN p none W W' := by
  have HP := Lib.hid hp
  have HB2 : Hid (∀ a b, Below W.heap.size W ((W.alloc a).alloc b)) := Lib.hid fun a b => below_two W a b
  have HST : Hid (statS t = (!decide (t = no) && !t.data.toList.contains 63)) := Lib.hid rfl
  have hpl := cell_ok hp
  have c0 := hp.cell
  have f0 := hp.free
  have e1 := eq_no t
  have HC := Lib.hid (fun w => xContains_any t w)
  generalize t.data.toList.contains 63 = z at *
  have HEND : Hid (∀ (x y : Obj) (v : Bool), v = (b && statS t) → One p 4 (.bool (b && statS t)) (((W.setCell ⟨p, 0, none⟩ (.bool v)).alloc x).alloc y) ∧ KeepN p none W (((W.setCell ⟨p, 0, none⟩ (.bool v)).alloc x).alloc y)) := Lib.hid fun x y v h2 => by
    subst h2
    have hk : Keep p W (W.setCell ⟨p, 0, none⟩ (.bool (b && statS t))) := (Keep.refl p W).setCell 0 _
    have h3 : One p 4 (.bool (b && statS t)) (W.setCell ⟨p, 0, none⟩ (.bool (b && statS t))) := HP.out.put _
    have hb := below_two (W.setCell ⟨p, 0, none⟩ (.bool (b && statS t))) x y
    have h4 : KeepN p none W (W.setCell ⟨p, 0, none⟩ (.bool (b && statS t))) := ⟨hk.os, hk.tape, hk.output, hk.size, fun k a b _ => hk.block k a b⟩
    exact ⟨(hb.block p (cell_ok h3)).trans h3, h4.trans (KeepN.of p none hb) (.inl rfl)⟩
  obtain ⟨z2, HZ2⟩ : ∃ z2, Hid (statS t = z2) := ⟨_, Lib.hid rfl⟩
  rw [HZ2.out] at HEND ⊢
  have HQ : Hid (z2 = (!decide (t = no) && !z)) := Lib.hid (by rw [← HZ2.out, HST.out])
  clear hp
  unfold slotV placeV
  cases b with
  | false =>
    go_enter Tryz.func80, Tryz.ntmps80
    go_wp2_with fail
    exact bodyPost_end (v := .tuple #[]) (by simp [results, Tryz.results80, go_sem]) rfl ⟨rfl, HEND.out _ _ _ rfl⟩
  | true =>
    by_cases h0 : t = no
    · rw [decide_eq_true h0] at e1
      have HV : Hid (false = (true && z2)) := Lib.hid (by rw [HQ.out, decide_eq_true h0]; rfl)
      clear h0
      go_enter Tryz.func80, Tryz.ntmps80
      go_wp2_with fail
      exact bodyPost_end (v := .tuple #[]) (by simp [results, Tryz.results80, go_sem]) rfl ⟨rfl, HEND.out _ _ _ HV.out⟩
    · rw [decide_eq_false h0] at e1
      have HV : Hid ((!z) = (true && z2)) := Lib.hid (by rw [HQ.out, decide_eq_false h0]; simp)
      clear h0
      go_enter Tryz.func80, Tryz.ntmps80
      go_wp2_with fail
      refine (HC.out _).mono ?_
      rintro E w5 ⟨rfl, rfl⟩
      go_wp2_with fail
      exact bodyPost_end (v := .tuple #[]) (by simp [results, Tryz.results80, go_sem]) rfl ⟨rfl, HEND.out _ _ _ HV.out⟩
def StaticI (p : Nat) (S : List Sl) (f : Pos → ByteArray) (W0 : World) (k : Nat) (W : World) : Prop := One p 4 (.bool (statSl S f k)) W ∧ Below p W0 W
set_option maxRecDepth 100000 in
set_option maxHeartbeats 6400000 in
theorem Static_any (L : List Md) (v : Value) (w : World) (hm : Mods w v L) (hS : Sp w) (hl : L.length ≤ 1000000000000000) (hz : ∀ m ∈ L, MdSz m) : Calls Tryz.prog 30 #[v] w (Makes (.bool (staticL L)) w) := by
  have hba : ∀ o, Below w.heap.size w (w.alloc o) := fun o => (Below.refl _ _).alloc (Nat.le_refl _) o
  have HMM := Lib.hid hm
  by_cases h0 : Mo.mods L = 0
  · have hft := fits_of h0
    have hlen := hft.mods
    have HFD := Lib.hid hft.defs
    have HR : Hid (staticL L = (statSl (slots L) (note L) (slots L).length && statM L)) := Lib.hid (by unfold staticL; rw [decide_eq_true h0, Bool.true_and])
    obtain ⟨sk, hM, hv, hu⟩ := sk_of_mods hm
    obtain ⟨A, c, rfl, hc, hA⟩ := hv
    have hsz : (w.alloc (.cells #[.bool true] 4)).heap.size = w.heap.size + 1 := World.size_alloc _ _
    have key : Calls Tryz.prog 37 #[.slice A L.length c, .func (.func 80) #[] #[.pointer (some ⟨w.heap.size, 0, none⟩)]] (w.alloc (.cells #[.bool true] 4)) fun e w' => e = .returned (.int .i64 0) ∧ StaticI w.heap.size (slots L) (note L) w (slots L).length w' := by
      refine (each_ok sk L (fun _ => note L) A c hA hc hft 80 (by intro a b; rfl) _ (w.alloc (.cells #[.bool true] 4)) (hS.later (hba _)) (by rw [lay_note]; exact hz) (by rw [lay_note]; exact h0) (fun k o W => o = none ∧ StaticI w.heap.size (slots L) (note L) w k W)
        (fun k o W g h hg => by rw [h.1] at hg; cases hg) (fun k o W W' h hb hs => ⟨h.1, (hb.block _ (by omega)).trans h.2.1, h.2.2.trans (hb.mono (by omega))⟩) (fun k o W h => hM.keep hu h.2.2) ⟨rfl, (show One w.heap.size 4 (.bool true) _ from (MapKept.heap_alloc w _).1), hba _⟩ ?_).mono ?_
      · intro k s o W hs hI hlt
        obtain ⟨rfl, h1, h2⟩ := hI
        rw [hsz] at hlt ⊢
        refine (static1_any sk s (note L s.pos) k w.heap.size _ W h1).mono ?_
        rintro E W' ⟨rfl, h3, h4⟩
        refine ⟨rfl, ⟨h4.size, fun b b1 b2 _ => h4.block b b2 (by omega) (fun e => by cases e)⟩, none, ⟨rfl, ?_, h4.below h2 (by omega) (Nat.le_refl _) (fun g e => by cases e)⟩, .inl rfl⟩
        have : statSl (slots L) (note L) (k + 1) = (statSl (slots L) (note L) k && statS (note L s.pos)) := by unfold statSl; rw [all_takeS hs]
        rw [this]; exact h3
      · rintro E w' ⟨rfl, ⟨o, -, h1⟩, -⟩
        exact ⟨rfl, h1⟩
    have HK := Lib.hid key
    have HA := Lib.hid hA
    clear key hM hu hc hft h0 hS hz hm hsz hA
    go_enter Tryz.func30, Tryz.ntmps30
    go_wp2_with fail
    refine HK.out.mono ?_
    rintro E w2 ⟨rfl, h1, h2⟩
    have HB2 := Lib.hid h2
    have H1 := Lib.hid h1
    have hp2 : w.heap.size < w2.heap.size := cell_ok h1
    generalize statSl (slots L) (note L) (slots L).length = b at *
    clear h1 h2 HK hba
    go_wp2_with fail
    go_loopw [18] (fun i wr => ∃ m : Nat, m ≤ L.length ∧ i = .int .i64 m ∧ Hid (One w.heap.size 4 (.bool (b && statM (L.take m))) wr) ∧ Hid (Below w.heap.size w wr)) (fun i _ => L.length - (intOf i).toNat)
    case atStart => exact ⟨0, Nat.zero_le _, rfl, Lib.hid (by show One _ _ (.bool (b && true)) w2; rw [Bool.and_true]; exact H1.out), HB2⟩
    case round =>
      clear H1 HB2
      obtain ⟨m, hm, rfl, HO, HB⟩ := hrel
      by_cases hlt : m < L.length
      · obtain ⟨b1, o1, iv, dv, rfl, ⟨n0, n1, n2, n3, n4⟩, hi1, hd1⟩ := HMM.out.at_ hlt
        have hx : L[m]? = some L[m] := List.getElem?_eq_getElem hlt
        have hfd := HFD.out m _ hx
        have hst := all_takeS (p := fun m : Md => statD m.defs) hx
        generalize L[m] = md at *
        obtain ⟨Ai, ci, rfl⟩ := hi1.form
        obtain ⟨Ad, cd, rfl⟩ := hd1.form
        have HD := Lib.hid hd1
        have HFT := Lib.hid hfd.2
        have hdl := hfd.1
        have HST : Hid (statM (L.take (m + 1)) = (statM (L.take m) && statD md.defs)) := Lib.hid hst
        replace n0 := cell_later HB.out n0
        replace n1 := cell_later HB.out n1
        replace n2 := cell_later HB.out n2
        replace n3 := cell_later HB.out n3
        replace n4 := cell_later HB.out n4
        have hb3 : Below wr.heap.size wr (wr.alloc (.cells #[.string md.name, .slice Ai md.imps.length ci, .slice Ad md.defs.length cd, .int .i64 md.line, .int .i64 md.col] 88)) := (Below.refl _ _).alloc (Nat.le_refl _) _
        have HBX : Hid (Below w.heap.size w (wr.alloc (.cells #[.string md.name, .slice Ai md.imps.length ci, .slice Ad md.defs.length cd, .int .i64 md.line, .int .i64 md.col] 88))) := Lib.hid (below_later hb3 HB.out)
        have HOX : Hid (One w.heap.size 4 (.bool (b && statM (L.take m) && statD (md.defs.take 0))) (wr.alloc (.cells #[.string md.name, .slice Ai md.imps.length ci, .slice Ad md.defs.length cd, .int .i64 md.line, .int .i64 md.col] 88))) := Lib.hid (by
          show One _ _ (.bool (b && statM (L.take m) && true)) _
          rw [Bool.and_true]
          exact (hb3.block _ (cell_ok HO.out)).trans HO.out)
        clear hb3 hx hfd hst hd1 hi1 HO HB
        go_wp2_with fail
        clear n0 n1 n2 n3 n4
        generalize wr.alloc (.cells #[.string md.name, .slice Ai md.imps.length ci, .slice Ad md.defs.length cd, .int .i64 md.line, .int .i64 md.col] 88) = wx at *
        obtain ⟨b', hb'⟩ : ∃ b', b' = (b && statM (L.take m)) := ⟨_, rfl⟩
        rw [← hb'] at HOX
        have HBB := Lib.hid hb'
        clear hb'
        go_loopw [25] (fun i wr => ∃ k : Nat, k ≤ md.defs.length ∧ i = .int .i64 k ∧ Hid (One w.heap.size 4 (.bool (b' && statD (md.defs.take k))) wr) ∧ Hid (Below w.heap.size w wr)) (fun i _ => md.defs.length - (intOf i).toNat)
        case atStart => exact ⟨0, Nat.zero_le _, rfl, HOX, HBX⟩
        case round =>
          clear HOX HBX
          obtain ⟨k, hk, rfl, HO, HB⟩ := hrel
          by_cases hltk : k < md.defs.length
          · obtain ⟨b2, o2, tv, rfl, ⟨q0, q1, q2, q3, q4, q5⟩, ht1⟩ := HD.out.at_ hltk
            have hy : md.defs[k]? = some md.defs[k] := List.getElem?_eq_getElem hltk
            have htl := HFT.out k _ hy
            have hst := all_takeS (p := fun d : Df => statT d.tree) hy
            generalize md.defs[k] = d at *
            obtain ⟨At, ct, rfl⟩ := ht1.form
            have HTN := Lib.hid ht1
            have HST2 : Hid (statD (md.defs.take (k + 1)) = (statD (md.defs.take k) && statT d.tree)) := Lib.hid hst
            replace q0 := cell_later HB.out q0
            replace q1 := cell_later HB.out q1
            replace q2 := cell_later HB.out q2
            replace q3 := cell_later HB.out q3
            replace q4 := cell_later HB.out q4
            replace q5 := cell_later HB.out q5
            have hb3 : Below wr.heap.size wr (wr.alloc (.cells #[.string d.name, .bool d.out, .string d.t, .slice At d.tree.length ct, .int .i64 d.line, .int .i64 d.col] 84)) := (Below.refl _ _).alloc (Nat.le_refl _) _
            have HBX : Hid (Below w.heap.size w (wr.alloc (.cells #[.string d.name, .bool d.out, .string d.t, .slice At d.tree.length ct, .int .i64 d.line, .int .i64 d.col] 84))) := Lib.hid (below_later hb3 HB.out)
            have HOX : Hid (One w.heap.size 4 (.bool (b' && statD (md.defs.take k) && statT (d.tree.take 0))) (wr.alloc (.cells #[.string d.name, .bool d.out, .string d.t, .slice At d.tree.length ct, .int .i64 d.line, .int .i64 d.col] 84))) := Lib.hid (by
              show One _ _ (.bool (b' && statD (md.defs.take k) && true)) _
              rw [Bool.and_true]
              exact (hb3.block _ (cell_ok HO.out)).trans HO.out)
            clear hb3 hy hst ht1 HO HB
            go_wp2_with fail
            clear q0 q1 q2 q3 q4 q5
            generalize wr.alloc (.cells #[.string d.name, .bool d.out, .string d.t, .slice At d.tree.length ct, .int .i64 d.line, .int .i64 d.col] 84) = wy at *
            obtain ⟨b'', hb''⟩ : ∃ b'', b'' = (b' && statD (md.defs.take k)) := ⟨_, rfl⟩
            rw [← hb''] at HOX
            have HBB2 := Lib.hid hb''
            clear hb''
            go_loopw [32] (fun i wr => ∃ j : Nat, j ≤ d.tree.length ∧ i = .int .i64 j ∧ Hid (One w.heap.size 4 (.bool (b'' && statT (d.tree.take j))) wr) ∧ Hid (Below w.heap.size w wr)) (fun i _ => d.tree.length - (intOf i).toNat)
            case atStart => exact ⟨0, Nat.zero_le _, rfl, HOX, HBX⟩
            case round =>
              clear HOX HBX
              obtain ⟨j, hj, rfl, HO, HB⟩ := hrel
              by_cases hltj : j < d.tree.length
              · obtain ⟨A3, c3, e3, -, hN⟩ := HTN.out
                simp only [Value.slice.injEq] at e3
                obtain ⟨rfl, -, rfl⟩ := e3
                obtain ⟨b3, o3, rfl, hNN⟩ := hN (by omega)
                have hy : d.tree[j]? = some d.tree[j] := List.getElem?_eq_getElem hltj
                obtain ⟨r0, r1, r2, r3, r4, r5, r6, r7⟩ := hNN.at_ hy
                have hst := all_takeS (p := statN) hy
                generalize d.tree[j] = x at *
                have HST3 : Hid (statT (d.tree.take (j + 1)) = (statT (d.tree.take j) && statN x)) := Lib.hid hst
                replace r0 := cell_later HB.out r0
                replace r1 := cell_later HB.out r1
                replace r2 := cell_later HB.out r2
                replace r3 := cell_later HB.out r3
                replace r4 := cell_later HB.out r4
                replace r5 := cell_later HB.out r5
                replace r6 := cell_later HB.out r6
                replace r7 := cell_later HB.out r7
                have c0 := HO.out.cell
                have c0f := HO.out.free
                have hpl := cell_ok HO.out
                obtain ⟨z, HZ⟩ : ∃ z, Hid (statT (d.tree.take j) = z) := ⟨_, Lib.hid rfl⟩
                rw [HZ.out] at c0
                have HEND : Hid (∀ (v : Bool) (y : Obj), v = (b'' && z && statN x) → Hid (One w.heap.size 4 (.bool (b'' && statT (d.tree.take (j + 1)))) ((wr.setCell ⟨w.heap.size, 0, none⟩ (.bool v)).alloc y)) ∧ Hid (Below w.heap.size w ((wr.setCell ⟨w.heap.size, 0, none⟩ (.bool v)).alloc y))) := Lib.hid fun v y hv => by
                  have h1 : One w.heap.size 4 (.bool v) (wr.setCell ⟨w.heap.size, 0, none⟩ (.bool v)) := HO.out.put _
                  have hb : Below (wr.setCell ⟨w.heap.size, 0, none⟩ (.bool v)).heap.size (wr.setCell ⟨w.heap.size, 0, none⟩ (.bool v)) ((wr.setCell ⟨w.heap.size, 0, none⟩ (.bool v)).alloc y) := (Below.refl _ _).alloc (Nat.le_refl _) _
                  have hb2 : Below w.heap.size w (wr.setCell ⟨w.heap.size, 0, none⟩ (.bool v)) := below_setCell HB.out (Nat.le_refl _)
                  refine ⟨Lib.hid ?_, Lib.hid (below_later hb hb2)⟩
                  rw [HST3.out, HZ.out, ← Bool.and_assoc, ← hv]
                  exact (hb.block _ (cell_ok h1)).trans h1
                have HSN : Hid (statN x = (!decide (x.kind = 21) || decide (0 < x.kids))) := Lib.hid rfl
                clear hy hst hN hNN HO HB
                cases hbz : (b'' && z) with
                | false =>
                  rw [hbz] at c0 HEND
                  have HE2 := Lib.hid (HEND.out false (.cells #[.int .i8 x.kind, .int .i64 x.kids, .int .i64 x.n, .string x.s, .string x.t, .string x.u, .int .i64 x.line, .int .i64 x.col] 81) rfl)
                  clear hbz HEND
                  go_wp2_with fail
                  go_roundw
                  case rel => exact ⟨j + 1, by omega, by go_num, HE2.out.1, HE2.out.2⟩
                  case measure => simp [intOf]; omega
                | true =>
                  rw [hbz] at c0 HEND
                  clear hbz
                  by_cases h21 : x.kind = 21
                  · have i21 : (x.kind != 21) = false := by rw [h21]; rfl
                    obtain ⟨z2, hz2⟩ : ∃ z2, z2 = decide (0 < x.kids) := ⟨_, rfl⟩
                    have HE2 := Lib.hid (HEND.out z2 (.cells #[.int .i8 x.kind, .int .i64 x.kids, .int .i64 x.n, .string x.s, .string x.t, .string x.u, .int .i64 x.line, .int .i64 x.col] 81) (by rw [HSN.out, decide_eq_true h21, ← hz2]; rfl))
                    clear h21 HEND
                    cases z2 with
                    | false =>
                      have i2 : ¬ (0 < x.kids) := of_decide_eq_false hz2.symm
                      clear hz2
                      go_wp2_with fail
                      go_roundw
                      case rel => exact ⟨j + 1, by omega, by go_num, HE2.out.1, HE2.out.2⟩
                      case measure => simp [intOf]; omega
                    | true =>
                      have i2 : 0 < x.kids := of_decide_eq_true hz2.symm
                      clear hz2
                      go_wp2_with fail
                      go_roundw
                      case rel => exact ⟨j + 1, by omega, by go_num, HE2.out.1, HE2.out.2⟩
                      case measure => simp [intOf]; omega
                  · have i21 : (x.kind != 21) = true := by rw [bne, beq_eq_false_iff_ne.2 h21]; rfl
                    have HE2 := Lib.hid (HEND.out true (.cells #[.int .i8 x.kind, .int .i64 x.kids, .int .i64 x.n, .string x.s, .string x.t, .string x.u, .int .i64 x.line, .int .i64 x.col] 81) (by rw [HSN.out, decide_eq_false h21]; rfl))
                    clear h21 HEND
                    go_wp2_with fail
                    go_roundw
                    case rel => exact ⟨j + 1, by omega, by go_num, HE2.out.1, HE2.out.2⟩
                    case measure => simp [intOf]; omega
              · have HO2 : Hid (One w.heap.size 4 (.bool (b' && statD (md.defs.take (k + 1)))) wr) := Lib.hid (by
                  have h := HO.out
                  rw [List.take_of_length_le (by omega), HBB2.out, Bool.and_assoc, ← HST2.out] at h
                  exact h)
                clear HO
                go_wp2_with fail
                go_roundw
                case rel => exact ⟨k + 1, by omega, by go_num, HO2, HB⟩
                case measure => simp [intOf]; omega
          · have HO2 : Hid (One w.heap.size 4 (.bool (b && statM (L.take (m + 1)))) wr) := Lib.hid (by
              have h := HO.out
              rw [List.take_of_length_le (by omega), HBB.out, Bool.and_assoc, ← HST.out] at h
              exact h)
            clear HO
            go_wp2_with fail
            go_roundw
            case rel => exact ⟨m + 1, by omega, by go_num, HO2, HB⟩
            case measure => simp [intOf]; omega
      · have h := HO.out
        rw [List.take_of_length_le (by omega), ← HR.out] at h
        have c0 := h.cell
        clear h HO
        go_wp2_with fail
        go_ret
        exact Makes.mk rfl HB.out
  · have HR : Hid (staticL L = false) := Lib.hid (by unfold staticL; rw [decide_eq_false h0]; rfl)
    obtain ⟨A, c, rfl⟩ := hm.form
    have HK := Lib.hid (each_bad L (.slice A L.length c) ⟨A, _, c, rfl⟩ 80 #[.pointer (some ⟨w.heap.size, 0, none⟩)] (w.alloc (.cells #[.bool true] 4)) (hm.later (hba _)) (hS.later (hba _)) hl hz h0)
    have hnz : (((Mo.mods L : Nat) : Int) == 0) = false := beq_eq_false_iff_ne.2 (by omega)
    have HB0 := Lib.hid (hba (.cells #[.bool true] 4))
    clear hm hba h0 hS hz hl HMM
    generalize Mo.mods L = z at *
    go_enter Tryz.func30, Tryz.ntmps30
    go_wp2_with fail
    refine HK.out.mono ?_
    rintro E w2 ⟨rfl, hb2⟩
    have HB := Lib.hid (below_later hb2 HB0.out)
    clear hb2 HK
    go_wp2_with fail
    go_ret
    exact Makes.mk (by rw [HR.out]; rfl) HB.out
end Go.Proofs.YtidholghbjljaaaGreatDoor
