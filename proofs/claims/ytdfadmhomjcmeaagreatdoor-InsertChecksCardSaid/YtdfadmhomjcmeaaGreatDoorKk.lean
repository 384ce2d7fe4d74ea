
/- Walks of the checker: what a node's rule asks: operations. -/
import Derived.Test.YtdfadmhomjcmeaaGreatDoorKj
import Derived.Deep.MidRow
namespace Culp.Tr
set_option linter.unusedSimpArgs false
set_option linter.unusedVariables false
/-- Kids that must each fit. -/
def eachF (R : Except Bad Ty) : List (Nat × Ty) → Except Bad Ty
  | [] => R
  | (q, s) :: l => eachF (thenFit R s 23 q) l
theorem eachF_bad (b : Bad) : ∀ l, eachF (.error b) l = .error b
  | [] => rfl
  | (q, s) :: l => eachF_bad b l
theorem eachF_eq (t : Ty) : ∀ l, eachF (.ok t) l = (eachT false t l).map fun _ => t
  | [] => rfl
  | (q, s) :: l => by
    unfold eachF eachT thenFit fitT
    by_cases h : cons s t = true
    · simp only [h, Bool.not_false, Bool.true_or, Bool.and_true, if_true, Except.map]
      exact eachF_eq t l
    · simp only [Bool.not_false, Bool.true_or, Bool.true_and, h, Except.map]
      exact eachF_bad _ l
theorem thenFit_same {R : Except Bad Ty} {s t : Ty} {n : Int} {p : Nat} (h : ∀ u, R = .ok u → u = t) : ∀ u, thenFit R s n p = .ok u → u = t := fun u hu => by
  cases R with
  | error b => cases hu
  | ok v =>
    have := h v rfl
    subst this
    unfold thenFit at hu
    dsimp only at hu
    cases hf : fitT false s v n p with
    | error b => rw [hf] at hu; cases hu
    | ok x => rw [hf] at hu; injection hu with hu; exact hu.symm
end Culp.Tr
namespace Go.Proofs.YtdfadmhomjcmeaaGreatDoor
set_option linter.unusedSimpArgs false
set_option linter.unusedVariables false
open Go.RowKit Culp
theorem KidsV.shape {c : Nat} {w : World} {v : Value} {P : List Nat} (h : KidsV c w v P) : ∃ g o C, v = .slice (some ⟨g, o, none⟩) P.length C ∧ P.length ≤ C ∧ g ≠ c ∧ ∀ w', Keep c w w' → ∀ (j q : Nat), P[j]? = some q → w'.cell? ⟨g, o + j, none⟩ = some (.int .i64 (q : Int)) := by
  obtain ⟨g, o, C, n, rfl, hn, hC, hg, hc⟩ := h
  subst hn
  exact ⟨g, o, C, rfl, hC, hg, fun w' k j q hj => k.cell (hc j q hj) hg⟩
/-- What the operations' table holds. -/
def rowsL : List Value := [.int .i8 10, .string { data := #[105] }, .string { data := #[105] }, .int .i8 11, .string { data := #[105] }, .string { data := #[105] }, .int .i8 12, .string { data := #[105] }, .string { data := #[105] }, .int .i8 16, .string { data := #[105] }, .string { data := #[105] }, .int .i8 14, .string { data := #[105] }, .string { data := #[98] }, .int .i8 15, .string { data := #[105] }, .string { data := #[98] }, .int .i8 13, .string { data := #[116] }, .string { data := #[116] }, .int .i8 17, .string { data := #[116] }, .string { data := #[105] }]
def Tab (w : World) : Prop := ∀ (i : Nat) (v : Value), rowsL[i]? = some v → w.cell? ⟨1, i, none⟩ = some v
theorem Tab.later {w w' : World} (h : Tab w) (hb : Below w.heap.size w w') : Tab w' := fun i v hi => cell_later hb (h i v hi)
theorem Tab.range {w : World} (h : Tab w) : w.rangeAt 1 0 rowsL := fun j v hj => by rw [Nat.zero_add]; exact h j v hj
/-- The kinds of the table's rows. -/
def rowK (k : Nat) : Int := match k with | 0 => 10 | 1 => 11 | 2 => 12 | 3 => 16 | 4 => 14 | 5 => 15 | 6 => 13 | _ => 17
theorem idx0 (w : World) : (Instr.index 205 (.agg rowsL.toArray) (.int .i64 0)).run Tryz.prog w = .ok (.agg #[.int .i8 10, .string { data := #[105] }, .string { data := #[105] }]) w := by kernel_rfl
theorem idx1 (w : World) : (Instr.index 205 (.agg rowsL.toArray) (.int .i64 1)).run Tryz.prog w = .ok (.agg #[.int .i8 11, .string { data := #[105] }, .string { data := #[105] }]) w := by kernel_rfl
theorem idx2 (w : World) : (Instr.index 205 (.agg rowsL.toArray) (.int .i64 2)).run Tryz.prog w = .ok (.agg #[.int .i8 12, .string { data := #[105] }, .string { data := #[105] }]) w := by kernel_rfl
theorem idx3 (w : World) : (Instr.index 205 (.agg rowsL.toArray) (.int .i64 3)).run Tryz.prog w = .ok (.agg #[.int .i8 16, .string { data := #[105] }, .string { data := #[105] }]) w := by kernel_rfl
theorem idx4 (w : World) : (Instr.index 205 (.agg rowsL.toArray) (.int .i64 4)).run Tryz.prog w = .ok (.agg #[.int .i8 14, .string { data := #[105] }, .string { data := #[98] }]) w := by kernel_rfl
theorem idx5 (w : World) : (Instr.index 205 (.agg rowsL.toArray) (.int .i64 5)).run Tryz.prog w = .ok (.agg #[.int .i8 15, .string { data := #[105] }, .string { data := #[98] }]) w := by kernel_rfl
theorem idx6 (w : World) : (Instr.index 205 (.agg rowsL.toArray) (.int .i64 6)).run Tryz.prog w = .ok (.agg #[.int .i8 13, .string { data := #[116] }, .string { data := #[116] }]) w := by kernel_rfl
theorem idx7 (w : World) : (Instr.index 205 (.agg rowsL.toArray) (.int .i64 7)).run Tryz.prog w = .ok (.agg #[.int .i8 17, .string { data := #[116] }, .string { data := #[105] }]) w := by kernel_rfl
theorem idx_any (k : Nat) (hk : k < 8) : ∃ s1 s2 : ByteArray, ∀ w, (Instr.index 205 (.agg rowsL.toArray) (.int .i64 (k : Int))).run Tryz.prog w = .ok (.agg #[.int .i8 (rowK k), .string s1, .string s2]) w := by
  match k, hk with
  | 0, _ => exact ⟨_, _, idx0⟩
  | 1, _ => exact ⟨_, _, idx1⟩
  | 2, _ => exact ⟨_, _, idx2⟩
  | 3, _ => exact ⟨_, _, idx3⟩
  | 4, _ => exact ⟨_, _, idx4⟩
  | 5, _ => exact ⟨_, _, idx5⟩
  | 6, _ => exact ⟨_, _, idx6⟩
  | 7, _ => exact ⟨_, _, idx7⟩
section
variable (c B : Nat) (tv yv : Value) (ys : List ByteArray) (a : Nat) (w : World)
variable (p : Nat) (x : Nd) (K : List (Nat × Ty)) (kv : Value)
theorem rowNot10 : ∀ k < 0, (rowK k == 10) = false := by decide
set_option maxRecDepth 100000 in
set_option maxHeartbeats 1600000 in
theorem asked_10 (hk : x.kind = 10) (hTab : Tab w) (hK : KidsV c w kv (K.map Prod.fst)) (hT : Told ys K) (hKl : K.length ≤ 1000000) (h : CkAt c B tv yv ys 0 a w) :
    Calls Tryz.prog 113 #[.pointer (some ⟨c, 0, none⟩), .int .i64 (p : Int), x.val, kv] w (RuleRes c B tv yv ys a ((Tr.eachT false Ty.int K).map fun _ => Ty.int) w) := by
  have rowNot := rowNot10
  have HTB := Lib.hid (fun cs => hTab.later ((Below.refl w.heap.size w).alloc (Nat.le_refl _) (.cells cs 38)))
  obtain ⟨k, kd, n, s, t, u, l, cl⟩ := x
  obtain rfl : k = 10 := hk
  have HC := Lib.hid h
  obtain ⟨g, o, C, rfl, hlC, hg, hkc⟩ := hK.shape
  have HKV := Lib.hid hkc
  have HBX : Hid (Box w.heap.size (Nd.mk 10 kd n s t u l cl) (w.alloc (.cells #[.int .i8 10, .int .i64 kd, .int .i64 n, .string s, .string t, .string u, .int .i64 l, .int .i64 cl] 38))) := Lib.hid (MapKept.heap_alloc w _).1
  have HB0 := Lib.hid ((Below.refl w.heap.size w).alloc (Nat.le_refl _) (.cells #[.int .i8 10, .int .i64 kd, .int .i64 n, .string s, .string t, .string u, .int .i64 l, .int .i64 cl] 38))
  show Calls Tryz.prog _ #[_, _, .agg #[.int .i8 10, .int .i64 kd, .int .i64 n, .string s, .string t, .string u, .int .i64 l, .int .i64 cl], _] w _
  have hlm : ((K : List (Nat × Ty)).map Prod.fst).length = (K : List (Nat × Ty)).length := List.length_map _
  rw [hlm] at hlC ⊢
  clear hTab h hkc hlm hK
  go_enter Tryz.func113, Tryz.ntmps113
  go_wp2_with (refine wpList_load_mid rfl 205 _ rfl 1 0 rfl rowsL _ (Tab.range (HTB.out _)) Tryz.underlying205 rfl (by kernel_rfl) ?_)
  go_loopw [17] (fun i wr => ∃ k : Nat, k ≤ 0 ∧ i = .int .i64 k ∧ Hid (Below w.heap.size w wr) ∧ Hid (Box w.heap.size (Nd.mk 10 kd n s t u l cl) wr)) (fun i _ => 8 - (intOf i).toNat)
  case atStart => exact ⟨0, Nat.zero_le _, rfl, HB0, HBX⟩
  case round =>
    obtain ⟨k, hk, rfl, HB, HX⟩ := hrel
    have x0 : ∀ cs, (wr.alloc (.cells cs 204)).cell? ⟨w.heap.size, 0, none⟩ = some (.int .i8 10) := fun cs => alloc_cell cs 204 (HX.out.cell 0)
    rcases Nat.lt_or_ge k 0 with hlt | hge
    ·
      exact absurd hlt (Nat.not_lt_zero _)
    · have hix : ∀ w, (Instr.index 205 (.agg rowsL.toArray) (.int .i64 (k : Int))).run Tryz.prog w = .ok (.agg #[.int .i8 10, .string { data := #[105] }, .string { data := #[105] }]) w := by
        obtain rfl : k = 0 := by omega
        exact idx0
      have hd8 : decide ((k : Int) < 8) = true := decide_eq_true (by omega)
      clear hk hge
      have hb : ∀ cs, Below wr.heap.size wr (wr.alloc (.cells cs 204)) := fun cs => (Below.refl _ _).alloc (Nat.le_refl _) _
      have HB2 := Lib.hid (fun cs => below_later (hb cs) HB.out)
      have hbl := HB.out.size
      generalize wr = w0 at *
      have hcw := HC.out.lt
      clear HB HX HBX HB0 HTB hb
      go_wp2_with fail
      go_loopw [27] (fun i wq => ∃ (j : Nat) (R : Except Tr.Bad Ty), i = .int .i64 j ∧ j ≤ K.length ∧ Hid (Tr.Good R) ∧ Hid (∀ t, R = .ok t → t = Ty.int) ∧ Hid (Tr.eachF R (K.drop j) = Tr.eachF (.ok Ty.int) K) ∧ Hid (CkAt c B tv yv ys (Tr.stE R) (Tr.stA a R) wq) ∧ Hid (Keep c w wq) ∧ wq.cell? ⟨w0.heap.size, 1, none⟩ = some (.string { data := #[105] }) ∧ wq.cell? ⟨w0.heap.size, 2, none⟩ = some (.string { data := #[105] })) (fun i _ => K.length - (intOf i).toNat)
      case atStart => exact ⟨0, .ok Ty.int, rfl, Nat.zero_le _, Lib.hid (Tr.good_ok _), Lib.hid (fun t ht => by injection ht with ht; exact ht.symm), Lib.hid rfl, Lib.hid (HC.out.later (HB2.out _)), Lib.hid (Keep.of (HB2.out _)), by go_simp, by go_simp⟩
      case round =>
        obtain ⟨j, R, rfl, hj, HG, HS, HE, HC2, HK2, b1, b2⟩ := hrel
        by_cases hlt : j < K.length
        · obtain ⟨⟨q, v⟩, hKj⟩ : ∃ y, K[j]? = some y := ⟨_, List.getElem?_eq_getElem hlt⟩
          have x0 := HKV.out _ HK2.out j q (by rw [List.getElem?_map, hKj]; rfl)
          have hts := hT (q, v) (List.mem_of_getElem? hKj)
          have HE2 : Hid (Tr.eachF (Tr.thenFit R v ((23 : Nat) : Int) q) (K.drop (j + 1)) = Tr.eachF (.ok Ty.int) K) := Lib.hid (by
            rw [← HE.out]
            rw [List.drop_eq_getElem_cons hlt]
            rw [List.getElem?_eq_getElem hlt] at hKj
            injection hKj with hKj
            rw [hKj]; rfl)
          have HF := Lib.hid (fun w' h' => fitsR c B tv yv ys a w' R HG.out (fun t ht => by rw [HS.out t ht]; unfold Ty.fits; decide) q 23 q { data := #[105] } (fun t ht => by rw [HS.out t ht]; rfl) v hts.2 (by decide) hts.1 h')
          have HG2 := Lib.hid (Tr.thenFit_good (s := v) (n := ((23 : Nat) : Int)) (p := q) HG.out (by decide))
          have HS2 := Lib.hid (Tr.thenFit_same (s := v) (n := ((23 : Nat) : Int)) (p := q) HS.out)
          generalize Tr.thenFit R v ((23 : Nat) : Int) q = R2 at *
          clear HG HS HE hKj hts
          go_wp2_with fail
          refine (HF.out _ HC2.out).mono ?_
          rintro E w3 ⟨rfl, h3, k3⟩
          have HC3 := Lib.hid h3
          have HK3 := Lib.hid (HK2.out.trans k3)
          have d1 := k3.cell b1 (by show w0.heap.size ≠ c; omega)
          have d2 := k3.cell b2 (by show w0.heap.size ≠ c; omega)
          clear h3 k3 b1 b2 HC2 HK2 HF x0
          go_wp2_with fail
          go_roundw
          case rel => exact ⟨j + 1, R2, by go_num, by omega, HG2, HS2, HE2, HC3, HK3, d1, d2⟩
          case measure => simp [intOf]; omega
        · obtain rfl : j = K.length := by omega
          have HR : Hid (RuleRes c B tv yv ys a ((Tr.eachT false Ty.int K).map fun _ => Ty.int) w (.returned (.string { data := #[105] })) wr) := Lib.hid (by
            have he := HE.out
            rw [List.drop_eq_nil_of_le (Nat.le_refl _), Tr.eachF_eq] at he
            have he : R = (Tr.eachT false Ty.int K).map fun _ => Ty.int := he
            have hc2 := HC2.out
            have hg2 := HG.out
            cases ht : Tr.eachT false Ty.int K with
            | ok u => rw [ht] at he; subst he; exact CkRes.rule c B tv yv ys a (R := .ok Ty.int) (Tr.good_ok _) (fun t ht => by injection ht with ht; subst ht; rfl) HK2.out hc2 (Keep.refl _ _)
            | error b => rw [ht] at he; subst he; exact CkRes.rule c B tv yv ys a (R := .error b) (fun b' hb => hg2 b' hb) (fun t ht => by cases ht) HK2.out hc2 (Keep.refl _ _))
          clear HG HS HE HC2 HK2
          go_wp2_with fail
          go_ret
          exact HR.out
theorem rowNot11 : ∀ k < 1, (rowK k == 11) = false := by decide
set_option maxRecDepth 100000 in
set_option maxHeartbeats 1600000 in
theorem asked_11 (hk : x.kind = 11) (hTab : Tab w) (hK : KidsV c w kv (K.map Prod.fst)) (hT : Told ys K) (hKl : K.length ≤ 1000000) (h : CkAt c B tv yv ys 0 a w) :
    Calls Tryz.prog 113 #[.pointer (some ⟨c, 0, none⟩), .int .i64 (p : Int), x.val, kv] w (RuleRes c B tv yv ys a ((Tr.eachT false Ty.int K).map fun _ => Ty.int) w) := by
  have rowNot := rowNot11
  have HTB := Lib.hid (fun cs => hTab.later ((Below.refl w.heap.size w).alloc (Nat.le_refl _) (.cells cs 38)))
  obtain ⟨k, kd, n, s, t, u, l, cl⟩ := x
  obtain rfl : k = 11 := hk
  have HC := Lib.hid h
  obtain ⟨g, o, C, rfl, hlC, hg, hkc⟩ := hK.shape
  have HKV := Lib.hid hkc
  have HBX : Hid (Box w.heap.size (Nd.mk 11 kd n s t u l cl) (w.alloc (.cells #[.int .i8 11, .int .i64 kd, .int .i64 n, .string s, .string t, .string u, .int .i64 l, .int .i64 cl] 38))) := Lib.hid (MapKept.heap_alloc w _).1
  have HB0 := Lib.hid ((Below.refl w.heap.size w).alloc (Nat.le_refl _) (.cells #[.int .i8 11, .int .i64 kd, .int .i64 n, .string s, .string t, .string u, .int .i64 l, .int .i64 cl] 38))
  show Calls Tryz.prog _ #[_, _, .agg #[.int .i8 11, .int .i64 kd, .int .i64 n, .string s, .string t, .string u, .int .i64 l, .int .i64 cl], _] w _
  have hlm : ((K : List (Nat × Ty)).map Prod.fst).length = (K : List (Nat × Ty)).length := List.length_map _
  rw [hlm] at hlC ⊢
  clear hTab h hkc hlm hK
  go_enter Tryz.func113, Tryz.ntmps113
  go_wp2_with (refine wpList_load_mid rfl 205 _ rfl 1 0 rfl rowsL _ (Tab.range (HTB.out _)) Tryz.underlying205 rfl (by kernel_rfl) ?_)
  go_loopw [17] (fun i wr => ∃ k : Nat, k ≤ 1 ∧ i = .int .i64 k ∧ Hid (Below w.heap.size w wr) ∧ Hid (Box w.heap.size (Nd.mk 11 kd n s t u l cl) wr)) (fun i _ => 8 - (intOf i).toNat)
  case atStart => exact ⟨0, Nat.zero_le _, rfl, HB0, HBX⟩
  case round =>
    obtain ⟨k, hk, rfl, HB, HX⟩ := hrel
    have x0 : ∀ cs, (wr.alloc (.cells cs 204)).cell? ⟨w.heap.size, 0, none⟩ = some (.int .i8 11) := fun cs => alloc_cell cs 204 (HX.out.cell 0)
    rcases Nat.lt_or_ge k 1 with hlt | hge
    ·
      obtain ⟨s1, s2, hix⟩ := idx_any k (by omega)
      have hne : (rowK k == 11) = false := rowNot k (by omega)
      have hk8 : k < 8 := by omega
      have HB1 : Hid (∀ w' : World, Below wr.heap.size wr w' → Below w.heap.size w w') := Lib.hid (fun w' hb => below_later hb HB.out)
      have HX1 : Hid (∀ w' : World, Below wr.heap.size wr w' → Box w.heap.size (Nd.mk 11 kd n s t u l cl) w') := Lib.hid (fun w' hb => HX.out.later hb)
      generalize rowK k = rk at *
      have hb : ∀ cs, Below wr.heap.size wr (wr.alloc (.cells cs 204)) := fun cs => (Below.refl _ _).alloc (Nat.le_refl _) _
      have HB2 := Lib.hid (fun cs => HB1.out _ (hb cs))
      have HX2 := Lib.hid (fun cs => HX1.out _ (hb cs))
      clear HB HX HB1 HX1 hb
      go_wp2_with fail
      go_roundw
      case rel => exact ⟨k + 1, by omega, by go_num, HB2.out _, HX2.out _⟩
      case measure => simp [intOf]; omega
    · have hix : ∀ w, (Instr.index 205 (.agg rowsL.toArray) (.int .i64 (k : Int))).run Tryz.prog w = .ok (.agg #[.int .i8 11, .string { data := #[105] }, .string { data := #[105] }]) w := by
        obtain rfl : k = 1 := by omega
        exact idx1
      have hd8 : decide ((k : Int) < 8) = true := decide_eq_true (by omega)
      clear hk hge
      have hb : ∀ cs, Below wr.heap.size wr (wr.alloc (.cells cs 204)) := fun cs => (Below.refl _ _).alloc (Nat.le_refl _) _
      have HB2 := Lib.hid (fun cs => below_later (hb cs) HB.out)
      have hbl := HB.out.size
      generalize wr = w0 at *
      have hcw := HC.out.lt
      clear HB HX HBX HB0 HTB hb
      go_wp2_with fail
      go_loopw [27] (fun i wq => ∃ (j : Nat) (R : Except Tr.Bad Ty), i = .int .i64 j ∧ j ≤ K.length ∧ Hid (Tr.Good R) ∧ Hid (∀ t, R = .ok t → t = Ty.int) ∧ Hid (Tr.eachF R (K.drop j) = Tr.eachF (.ok Ty.int) K) ∧ Hid (CkAt c B tv yv ys (Tr.stE R) (Tr.stA a R) wq) ∧ Hid (Keep c w wq) ∧ wq.cell? ⟨w0.heap.size, 1, none⟩ = some (.string { data := #[105] }) ∧ wq.cell? ⟨w0.heap.size, 2, none⟩ = some (.string { data := #[105] })) (fun i _ => K.length - (intOf i).toNat)
      case atStart => exact ⟨0, .ok Ty.int, rfl, Nat.zero_le _, Lib.hid (Tr.good_ok _), Lib.hid (fun t ht => by injection ht with ht; exact ht.symm), Lib.hid rfl, Lib.hid (HC.out.later (HB2.out _)), Lib.hid (Keep.of (HB2.out _)), by go_simp, by go_simp⟩
      case round =>
        obtain ⟨j, R, rfl, hj, HG, HS, HE, HC2, HK2, b1, b2⟩ := hrel
        by_cases hlt : j < K.length
        · obtain ⟨⟨q, v⟩, hKj⟩ : ∃ y, K[j]? = some y := ⟨_, List.getElem?_eq_getElem hlt⟩
          have x0 := HKV.out _ HK2.out j q (by rw [List.getElem?_map, hKj]; rfl)
          have hts := hT (q, v) (List.mem_of_getElem? hKj)
          have HE2 : Hid (Tr.eachF (Tr.thenFit R v ((23 : Nat) : Int) q) (K.drop (j + 1)) = Tr.eachF (.ok Ty.int) K) := Lib.hid (by
            rw [← HE.out]
            rw [List.drop_eq_getElem_cons hlt]
            rw [List.getElem?_eq_getElem hlt] at hKj
            injection hKj with hKj
            rw [hKj]; rfl)
          have HF := Lib.hid (fun w' h' => fitsR c B tv yv ys a w' R HG.out (fun t ht => by rw [HS.out t ht]; unfold Ty.fits; decide) q 23 q { data := #[105] } (fun t ht => by rw [HS.out t ht]; rfl) v hts.2 (by decide) hts.1 h')
          have HG2 := Lib.hid (Tr.thenFit_good (s := v) (n := ((23 : Nat) : Int)) (p := q) HG.out (by decide))
          have HS2 := Lib.hid (Tr.thenFit_same (s := v) (n := ((23 : Nat) : Int)) (p := q) HS.out)
          generalize Tr.thenFit R v ((23 : Nat) : Int) q = R2 at *
          clear HG HS HE hKj hts
          go_wp2_with fail
          refine (HF.out _ HC2.out).mono ?_
          rintro E w3 ⟨rfl, h3, k3⟩
          have HC3 := Lib.hid h3
          have HK3 := Lib.hid (HK2.out.trans k3)
          have d1 := k3.cell b1 (by show w0.heap.size ≠ c; omega)
          have d2 := k3.cell b2 (by show w0.heap.size ≠ c; omega)
          clear h3 k3 b1 b2 HC2 HK2 HF x0
          go_wp2_with fail
          go_roundw
          case rel => exact ⟨j + 1, R2, by go_num, by omega, HG2, HS2, HE2, HC3, HK3, d1, d2⟩
          case measure => simp [intOf]; omega
        · obtain rfl : j = K.length := by omega
          have HR : Hid (RuleRes c B tv yv ys a ((Tr.eachT false Ty.int K).map fun _ => Ty.int) w (.returned (.string { data := #[105] })) wr) := Lib.hid (by
            have he := HE.out
            rw [List.drop_eq_nil_of_le (Nat.le_refl _), Tr.eachF_eq] at he
            have he : R = (Tr.eachT false Ty.int K).map fun _ => Ty.int := he
            have hc2 := HC2.out
            have hg2 := HG.out
            cases ht : Tr.eachT false Ty.int K with
            | ok u => rw [ht] at he; subst he; exact CkRes.rule c B tv yv ys a (R := .ok Ty.int) (Tr.good_ok _) (fun t ht => by injection ht with ht; subst ht; rfl) HK2.out hc2 (Keep.refl _ _)
            | error b => rw [ht] at he; subst he; exact CkRes.rule c B tv yv ys a (R := .error b) (fun b' hb => hg2 b' hb) (fun t ht => by cases ht) HK2.out hc2 (Keep.refl _ _))
          clear HG HS HE HC2 HK2
          go_wp2_with fail
          go_ret
          exact HR.out
theorem rowNot12 : ∀ k < 2, (rowK k == 12) = false := by decide
set_option maxRecDepth 100000 in
set_option maxHeartbeats 1600000 in
theorem asked_12 (hk : x.kind = 12) (hTab : Tab w) (hK : KidsV c w kv (K.map Prod.fst)) (hT : Told ys K) (hKl : K.length ≤ 1000000) (h : CkAt c B tv yv ys 0 a w) :
    Calls Tryz.prog 113 #[.pointer (some ⟨c, 0, none⟩), .int .i64 (p : Int), x.val, kv] w (RuleRes c B tv yv ys a ((Tr.eachT false Ty.int K).map fun _ => Ty.int) w) := by
  have rowNot := rowNot12
  have HTB := Lib.hid (fun cs => hTab.later ((Below.refl w.heap.size w).alloc (Nat.le_refl _) (.cells cs 38)))
  obtain ⟨k, kd, n, s, t, u, l, cl⟩ := x
  obtain rfl : k = 12 := hk
  have HC := Lib.hid h
  obtain ⟨g, o, C, rfl, hlC, hg, hkc⟩ := hK.shape
  have HKV := Lib.hid hkc
  have HBX : Hid (Box w.heap.size (Nd.mk 12 kd n s t u l cl) (w.alloc (.cells #[.int .i8 12, .int .i64 kd, .int .i64 n, .string s, .string t, .string u, .int .i64 l, .int .i64 cl] 38))) := Lib.hid (MapKept.heap_alloc w _).1
  have HB0 := Lib.hid ((Below.refl w.heap.size w).alloc (Nat.le_refl _) (.cells #[.int .i8 12, .int .i64 kd, .int .i64 n, .string s, .string t, .string u, .int .i64 l, .int .i64 cl] 38))
  show Calls Tryz.prog _ #[_, _, .agg #[.int .i8 12, .int .i64 kd, .int .i64 n, .string s, .string t, .string u, .int .i64 l, .int .i64 cl], _] w _
  have hlm : ((K : List (Nat × Ty)).map Prod.fst).length = (K : List (Nat × Ty)).length := List.length_map _
  rw [hlm] at hlC ⊢
  clear hTab h hkc hlm hK
  go_enter Tryz.func113, Tryz.ntmps113
  go_wp2_with (refine wpList_load_mid rfl 205 _ rfl 1 0 rfl rowsL _ (Tab.range (HTB.out _)) Tryz.underlying205 rfl (by kernel_rfl) ?_)
  go_loopw [17] (fun i wr => ∃ k : Nat, k ≤ 2 ∧ i = .int .i64 k ∧ Hid (Below w.heap.size w wr) ∧ Hid (Box w.heap.size (Nd.mk 12 kd n s t u l cl) wr)) (fun i _ => 8 - (intOf i).toNat)
  case atStart => exact ⟨0, Nat.zero_le _, rfl, HB0, HBX⟩
  case round =>
    obtain ⟨k, hk, rfl, HB, HX⟩ := hrel
    have x0 : ∀ cs, (wr.alloc (.cells cs 204)).cell? ⟨w.heap.size, 0, none⟩ = some (.int .i8 12) := fun cs => alloc_cell cs 204 (HX.out.cell 0)
    rcases Nat.lt_or_ge k 2 with hlt | hge
    ·
      obtain ⟨s1, s2, hix⟩ := idx_any k (by omega)
      have hne : (rowK k == 12) = false := rowNot k (by omega)
      have hk8 : k < 8 := by omega
      have HB1 : Hid (∀ w' : World, Below wr.heap.size wr w' → Below w.heap.size w w') := Lib.hid (fun w' hb => below_later hb HB.out)
      have HX1 : Hid (∀ w' : World, Below wr.heap.size wr w' → Box w.heap.size (Nd.mk 12 kd n s t u l cl) w') := Lib.hid (fun w' hb => HX.out.later hb)
      generalize rowK k = rk at *
      have hb : ∀ cs, Below wr.heap.size wr (wr.alloc (.cells cs 204)) := fun cs => (Below.refl _ _).alloc (Nat.le_refl _) _
      have HB2 := Lib.hid (fun cs => HB1.out _ (hb cs))
      have HX2 := Lib.hid (fun cs => HX1.out _ (hb cs))
      clear HB HX HB1 HX1 hb
      go_wp2_with fail
      go_roundw
      case rel => exact ⟨k + 1, by omega, by go_num, HB2.out _, HX2.out _⟩
      case measure => simp [intOf]; omega
    · have hix : ∀ w, (Instr.index 205 (.agg rowsL.toArray) (.int .i64 (k : Int))).run Tryz.prog w = .ok (.agg #[.int .i8 12, .string { data := #[105] }, .string { data := #[105] }]) w := by
        obtain rfl : k = 2 := by omega
        exact idx2
      have hd8 : decide ((k : Int) < 8) = true := decide_eq_true (by omega)
      clear hk hge
      have hb : ∀ cs, Below wr.heap.size wr (wr.alloc (.cells cs 204)) := fun cs => (Below.refl _ _).alloc (Nat.le_refl _) _
      have HB2 := Lib.hid (fun cs => below_later (hb cs) HB.out)
      have hbl := HB.out.size
      generalize wr = w0 at *
      have hcw := HC.out.lt
      clear HB HX HBX HB0 HTB hb
      go_wp2_with fail
      go_loopw [27] (fun i wq => ∃ (j : Nat) (R : Except Tr.Bad Ty), i = .int .i64 j ∧ j ≤ K.length ∧ Hid (Tr.Good R) ∧ Hid (∀ t, R = .ok t → t = Ty.int) ∧ Hid (Tr.eachF R (K.drop j) = Tr.eachF (.ok Ty.int) K) ∧ Hid (CkAt c B tv yv ys (Tr.stE R) (Tr.stA a R) wq) ∧ Hid (Keep c w wq) ∧ wq.cell? ⟨w0.heap.size, 1, none⟩ = some (.string { data := #[105] }) ∧ wq.cell? ⟨w0.heap.size, 2, none⟩ = some (.string { data := #[105] })) (fun i _ => K.length - (intOf i).toNat)
      case atStart => exact ⟨0, .ok Ty.int, rfl, Nat.zero_le _, Lib.hid (Tr.good_ok _), Lib.hid (fun t ht => by injection ht with ht; exact ht.symm), Lib.hid rfl, Lib.hid (HC.out.later (HB2.out _)), Lib.hid (Keep.of (HB2.out _)), by go_simp, by go_simp⟩
      case round =>
        obtain ⟨j, R, rfl, hj, HG, HS, HE, HC2, HK2, b1, b2⟩ := hrel
        by_cases hlt : j < K.length
        · obtain ⟨⟨q, v⟩, hKj⟩ : ∃ y, K[j]? = some y := ⟨_, List.getElem?_eq_getElem hlt⟩
          have x0 := HKV.out _ HK2.out j q (by rw [List.getElem?_map, hKj]; rfl)
          have hts := hT (q, v) (List.mem_of_getElem? hKj)
          have HE2 : Hid (Tr.eachF (Tr.thenFit R v ((23 : Nat) : Int) q) (K.drop (j + 1)) = Tr.eachF (.ok Ty.int) K) := Lib.hid (by
            rw [← HE.out]
            rw [List.drop_eq_getElem_cons hlt]
            rw [List.getElem?_eq_getElem hlt] at hKj
            injection hKj with hKj
            rw [hKj]; rfl)
          have HF := Lib.hid (fun w' h' => fitsR c B tv yv ys a w' R HG.out (fun t ht => by rw [HS.out t ht]; unfold Ty.fits; decide) q 23 q { data := #[105] } (fun t ht => by rw [HS.out t ht]; rfl) v hts.2 (by decide) hts.1 h')
          have HG2 := Lib.hid (Tr.thenFit_good (s := v) (n := ((23 : Nat) : Int)) (p := q) HG.out (by decide))
          have HS2 := Lib.hid (Tr.thenFit_same (s := v) (n := ((23 : Nat) : Int)) (p := q) HS.out)
          generalize Tr.thenFit R v ((23 : Nat) : Int) q = R2 at *
          clear HG HS HE hKj hts
          go_wp2_with fail
          refine (HF.out _ HC2.out).mono ?_
          rintro E w3 ⟨rfl, h3, k3⟩
          have HC3 := Lib.hid h3
          have HK3 := Lib.hid (HK2.out.trans k3)
          have d1 := k3.cell b1 (by show w0.heap.size ≠ c; omega)
          have d2 := k3.cell b2 (by show w0.heap.size ≠ c; omega)
          clear h3 k3 b1 b2 HC2 HK2 HF x0
          go_wp2_with fail
          go_roundw
          case rel => exact ⟨j + 1, R2, by go_num, by omega, HG2, HS2, HE2, HC3, HK3, d1, d2⟩
          case measure => simp [intOf]; omega
        · obtain rfl : j = K.length := by omega
          have HR : Hid (RuleRes c B tv yv ys a ((Tr.eachT false Ty.int K).map fun _ => Ty.int) w (.returned (.string { data := #[105] })) wr) := Lib.hid (by
            have he := HE.out
            rw [List.drop_eq_nil_of_le (Nat.le_refl _), Tr.eachF_eq] at he
            have he : R = (Tr.eachT false Ty.int K).map fun _ => Ty.int := he
            have hc2 := HC2.out
            have hg2 := HG.out
            cases ht : Tr.eachT false Ty.int K with
            | ok u => rw [ht] at he; subst he; exact CkRes.rule c B tv yv ys a (R := .ok Ty.int) (Tr.good_ok _) (fun t ht => by injection ht with ht; subst ht; rfl) HK2.out hc2 (Keep.refl _ _)
            | error b => rw [ht] at he; subst he; exact CkRes.rule c B tv yv ys a (R := .error b) (fun b' hb => hg2 b' hb) (fun t ht => by cases ht) HK2.out hc2 (Keep.refl _ _))
          clear HG HS HE HC2 HK2
          go_wp2_with fail
          go_ret
          exact HR.out
theorem rowNot16 : ∀ k < 3, (rowK k == 16) = false := by decide
set_option maxRecDepth 100000 in
set_option maxHeartbeats 1600000 in
theorem asked_16 (hk : x.kind = 16) (hTab : Tab w) (hK : KidsV c w kv (K.map Prod.fst)) (hT : Told ys K) (hKl : K.length ≤ 1000000) (h : CkAt c B tv yv ys 0 a w) :
    Calls Tryz.prog 113 #[.pointer (some ⟨c, 0, none⟩), .int .i64 (p : Int), x.val, kv] w (RuleRes c B tv yv ys a ((Tr.eachT false Ty.int K).map fun _ => Ty.int) w) := by
  have rowNot := rowNot16
  have HTB := Lib.hid (fun cs => hTab.later ((Below.refl w.heap.size w).alloc (Nat.le_refl _) (.cells cs 38)))
  obtain ⟨k, kd, n, s, t, u, l, cl⟩ := x
  obtain rfl : k = 16 := hk
  have HC := Lib.hid h
  obtain ⟨g, o, C, rfl, hlC, hg, hkc⟩ := hK.shape
  have HKV := Lib.hid hkc
  have HBX : Hid (Box w.heap.size (Nd.mk 16 kd n s t u l cl) (w.alloc (.cells #[.int .i8 16, .int .i64 kd, .int .i64 n, .string s, .string t, .string u, .int .i64 l, .int .i64 cl] 38))) := Lib.hid (MapKept.heap_alloc w _).1
  have HB0 := Lib.hid ((Below.refl w.heap.size w).alloc (Nat.le_refl _) (.cells #[.int .i8 16, .int .i64 kd, .int .i64 n, .string s, .string t, .string u, .int .i64 l, .int .i64 cl] 38))
  show Calls Tryz.prog _ #[_, _, .agg #[.int .i8 16, .int .i64 kd, .int .i64 n, .string s, .string t, .string u, .int .i64 l, .int .i64 cl], _] w _
  have hlm : ((K : List (Nat × Ty)).map Prod.fst).length = (K : List (Nat × Ty)).length := List.length_map _
  rw [hlm] at hlC ⊢
  clear hTab h hkc hlm hK
  go_enter Tryz.func113, Tryz.ntmps113
  go_wp2_with (refine wpList_load_mid rfl 205 _ rfl 1 0 rfl rowsL _ (Tab.range (HTB.out _)) Tryz.underlying205 rfl (by kernel_rfl) ?_)
  go_loopw [17] (fun i wr => ∃ k : Nat, k ≤ 3 ∧ i = .int .i64 k ∧ Hid (Below w.heap.size w wr) ∧ Hid (Box w.heap.size (Nd.mk 16 kd n s t u l cl) wr)) (fun i _ => 8 - (intOf i).toNat)
  case atStart => exact ⟨0, Nat.zero_le _, rfl, HB0, HBX⟩
  case round =>
    obtain ⟨k, hk, rfl, HB, HX⟩ := hrel
    have x0 : ∀ cs, (wr.alloc (.cells cs 204)).cell? ⟨w.heap.size, 0, none⟩ = some (.int .i8 16) := fun cs => alloc_cell cs 204 (HX.out.cell 0)
    rcases Nat.lt_or_ge k 3 with hlt | hge
    ·
      obtain ⟨s1, s2, hix⟩ := idx_any k (by omega)
      have hne : (rowK k == 16) = false := rowNot k (by omega)
      have hk8 : k < 8 := by omega
      have HB1 : Hid (∀ w' : World, Below wr.heap.size wr w' → Below w.heap.size w w') := Lib.hid (fun w' hb => below_later hb HB.out)
      have HX1 : Hid (∀ w' : World, Below wr.heap.size wr w' → Box w.heap.size (Nd.mk 16 kd n s t u l cl) w') := Lib.hid (fun w' hb => HX.out.later hb)
      generalize rowK k = rk at *
      have hb : ∀ cs, Below wr.heap.size wr (wr.alloc (.cells cs 204)) := fun cs => (Below.refl _ _).alloc (Nat.le_refl _) _
      have HB2 := Lib.hid (fun cs => HB1.out _ (hb cs))
      have HX2 := Lib.hid (fun cs => HX1.out _ (hb cs))
      clear HB HX HB1 HX1 hb
      go_wp2_with fail
      go_roundw
      case rel => exact ⟨k + 1, by omega, by go_num, HB2.out _, HX2.out _⟩
      case measure => simp [intOf]; omega
    · have hix : ∀ w, (Instr.index 205 (.agg rowsL.toArray) (.int .i64 (k : Int))).run Tryz.prog w = .ok (.agg #[.int .i8 16, .string { data := #[105] }, .string { data := #[105] }]) w := by
        obtain rfl : k = 3 := by omega
        exact idx3
      have hd8 : decide ((k : Int) < 8) = true := decide_eq_true (by omega)
      clear hk hge
      have hb : ∀ cs, Below wr.heap.size wr (wr.alloc (.cells cs 204)) := fun cs => (Below.refl _ _).alloc (Nat.le_refl _) _
      have HB2 := Lib.hid (fun cs => below_later (hb cs) HB.out)
      have hbl := HB.out.size
      generalize wr = w0 at *
      have hcw := HC.out.lt
      clear HB HX HBX HB0 HTB hb
      go_wp2_with fail
      go_loopw [27] (fun i wq => ∃ (j : Nat) (R : Except Tr.Bad Ty), i = .int .i64 j ∧ j ≤ K.length ∧ Hid (Tr.Good R) ∧ Hid (∀ t, R = .ok t → t = Ty.int) ∧ Hid (Tr.eachF R (K.drop j) = Tr.eachF (.ok Ty.int) K) ∧ Hid (CkAt c B tv yv ys (Tr.stE R) (Tr.stA a R) wq) ∧ Hid (Keep c w wq) ∧ wq.cell? ⟨w0.heap.size, 1, none⟩ = some (.string { data := #[105] }) ∧ wq.cell? ⟨w0.heap.size, 2, none⟩ = some (.string { data := #[105] })) (fun i _ => K.length - (intOf i).toNat)
      case atStart => exact ⟨0, .ok Ty.int, rfl, Nat.zero_le _, Lib.hid (Tr.good_ok _), Lib.hid (fun t ht => by injection ht with ht; exact ht.symm), Lib.hid rfl, Lib.hid (HC.out.later (HB2.out _)), Lib.hid (Keep.of (HB2.out _)), by go_simp, by go_simp⟩
      case round =>
        obtain ⟨j, R, rfl, hj, HG, HS, HE, HC2, HK2, b1, b2⟩ := hrel
        by_cases hlt : j < K.length
        · obtain ⟨⟨q, v⟩, hKj⟩ : ∃ y, K[j]? = some y := ⟨_, List.getElem?_eq_getElem hlt⟩
          have x0 := HKV.out _ HK2.out j q (by rw [List.getElem?_map, hKj]; rfl)
          have hts := hT (q, v) (List.mem_of_getElem? hKj)
          have HE2 : Hid (Tr.eachF (Tr.thenFit R v ((23 : Nat) : Int) q) (K.drop (j + 1)) = Tr.eachF (.ok Ty.int) K) := Lib.hid (by
            rw [← HE.out]
            rw [List.drop_eq_getElem_cons hlt]
            rw [List.getElem?_eq_getElem hlt] at hKj
            injection hKj with hKj
            rw [hKj]; rfl)
          have HF := Lib.hid (fun w' h' => fitsR c B tv yv ys a w' R HG.out (fun t ht => by rw [HS.out t ht]; unfold Ty.fits; decide) q 23 q { data := #[105] } (fun t ht => by rw [HS.out t ht]; rfl) v hts.2 (by decide) hts.1 h')
          have HG2 := Lib.hid (Tr.thenFit_good (s := v) (n := ((23 : Nat) : Int)) (p := q) HG.out (by decide))
          have HS2 := Lib.hid (Tr.thenFit_same (s := v) (n := ((23 : Nat) : Int)) (p := q) HS.out)
          generalize Tr.thenFit R v ((23 : Nat) : Int) q = R2 at *
          clear HG HS HE hKj hts
          go_wp2_with fail
          refine (HF.out _ HC2.out).mono ?_
          rintro E w3 ⟨rfl, h3, k3⟩
          have HC3 := Lib.hid h3
          have HK3 := Lib.hid (HK2.out.trans k3)
          have d1 := k3.cell b1 (by show w0.heap.size ≠ c; omega)
          have d2 := k3.cell b2 (by show w0.heap.size ≠ c; omega)
          clear h3 k3 b1 b2 HC2 HK2 HF x0
          go_wp2_with fail
          go_roundw
          case rel => exact ⟨j + 1, R2, by go_num, by omega, HG2, HS2, HE2, HC3, HK3, d1, d2⟩
          case measure => simp [intOf]; omega
        · obtain rfl : j = K.length := by omega
          have HR : Hid (RuleRes c B tv yv ys a ((Tr.eachT false Ty.int K).map fun _ => Ty.int) w (.returned (.string { data := #[105] })) wr) := Lib.hid (by
            have he := HE.out
            rw [List.drop_eq_nil_of_le (Nat.le_refl _), Tr.eachF_eq] at he
            have he : R = (Tr.eachT false Ty.int K).map fun _ => Ty.int := he
            have hc2 := HC2.out
            have hg2 := HG.out
            cases ht : Tr.eachT false Ty.int K with
            | ok u => rw [ht] at he; subst he; exact CkRes.rule c B tv yv ys a (R := .ok Ty.int) (Tr.good_ok _) (fun t ht => by injection ht with ht; subst ht; rfl) HK2.out hc2 (Keep.refl _ _)
            | error b => rw [ht] at he; subst he; exact CkRes.rule c B tv yv ys a (R := .error b) (fun b' hb => hg2 b' hb) (fun t ht => by cases ht) HK2.out hc2 (Keep.refl _ _))
          clear HG HS HE HC2 HK2
          go_wp2_with fail
          go_ret
          exact HR.out
theorem rowNot14 : ∀ k < 4, (rowK k == 14) = false := by decide
set_option maxRecDepth 100000 in
set_option maxHeartbeats 1600000 in
theorem asked_14 (hk : x.kind = 14) (hTab : Tab w) (hK : KidsV c w kv (K.map Prod.fst)) (hT : Told ys K) (hKl : K.length ≤ 1000000) (h : CkAt c B tv yv ys 0 a w) :
    Calls Tryz.prog 113 #[.pointer (some ⟨c, 0, none⟩), .int .i64 (p : Int), x.val, kv] w (RuleRes c B tv yv ys a ((Tr.eachT false Ty.int K).map fun _ => Ty.bool) w) := by
  have rowNot := rowNot14
  have HTB := Lib.hid (fun cs => hTab.later ((Below.refl w.heap.size w).alloc (Nat.le_refl _) (.cells cs 38)))
  obtain ⟨k, kd, n, s, t, u, l, cl⟩ := x
  obtain rfl : k = 14 := hk
  have HC := Lib.hid h
  obtain ⟨g, o, C, rfl, hlC, hg, hkc⟩ := hK.shape
  have HKV := Lib.hid hkc
  have HBX : Hid (Box w.heap.size (Nd.mk 14 kd n s t u l cl) (w.alloc (.cells #[.int .i8 14, .int .i64 kd, .int .i64 n, .string s, .string t, .string u, .int .i64 l, .int .i64 cl] 38))) := Lib.hid (MapKept.heap_alloc w _).1
  have HB0 := Lib.hid ((Below.refl w.heap.size w).alloc (Nat.le_refl _) (.cells #[.int .i8 14, .int .i64 kd, .int .i64 n, .string s, .string t, .string u, .int .i64 l, .int .i64 cl] 38))
  show Calls Tryz.prog _ #[_, _, .agg #[.int .i8 14, .int .i64 kd, .int .i64 n, .string s, .string t, .string u, .int .i64 l, .int .i64 cl], _] w _
  have hlm : ((K : List (Nat × Ty)).map Prod.fst).length = (K : List (Nat × Ty)).length := List.length_map _
  rw [hlm] at hlC ⊢
  clear hTab h hkc hlm hK
  go_enter Tryz.func113, Tryz.ntmps113
  go_wp2_with (refine wpList_load_mid rfl 205 _ rfl 1 0 rfl rowsL _ (Tab.range (HTB.out _)) Tryz.underlying205 rfl (by kernel_rfl) ?_)
  go_loopw [17] (fun i wr => ∃ k : Nat, k ≤ 4 ∧ i = .int .i64 k ∧ Hid (Below w.heap.size w wr) ∧ Hid (Box w.heap.size (Nd.mk 14 kd n s t u l cl) wr)) (fun i _ => 8 - (intOf i).toNat)
  case atStart => exact ⟨0, Nat.zero_le _, rfl, HB0, HBX⟩
  case round =>
    obtain ⟨k, hk, rfl, HB, HX⟩ := hrel
    have x0 : ∀ cs, (wr.alloc (.cells cs 204)).cell? ⟨w.heap.size, 0, none⟩ = some (.int .i8 14) := fun cs => alloc_cell cs 204 (HX.out.cell 0)
    rcases Nat.lt_or_ge k 4 with hlt | hge
    ·
      obtain ⟨s1, s2, hix⟩ := idx_any k (by omega)
      have hne : (rowK k == 14) = false := rowNot k (by omega)
      have hk8 : k < 8 := by omega
      have HB1 : Hid (∀ w' : World, Below wr.heap.size wr w' → Below w.heap.size w w') := Lib.hid (fun w' hb => below_later hb HB.out)
      have HX1 : Hid (∀ w' : World, Below wr.heap.size wr w' → Box w.heap.size (Nd.mk 14 kd n s t u l cl) w') := Lib.hid (fun w' hb => HX.out.later hb)
      generalize rowK k = rk at *
      have hb : ∀ cs, Below wr.heap.size wr (wr.alloc (.cells cs 204)) := fun cs => (Below.refl _ _).alloc (Nat.le_refl _) _
      have HB2 := Lib.hid (fun cs => HB1.out _ (hb cs))
      have HX2 := Lib.hid (fun cs => HX1.out _ (hb cs))
      clear HB HX HB1 HX1 hb
      go_wp2_with fail
      go_roundw
      case rel => exact ⟨k + 1, by omega, by go_num, HB2.out _, HX2.out _⟩
      case measure => simp [intOf]; omega
    · have hix : ∀ w, (Instr.index 205 (.agg rowsL.toArray) (.int .i64 (k : Int))).run Tryz.prog w = .ok (.agg #[.int .i8 14, .string { data := #[105] }, .string { data := #[98] }]) w := by
        obtain rfl : k = 4 := by omega
        exact idx4
      have hd8 : decide ((k : Int) < 8) = true := decide_eq_true (by omega)
      clear hk hge
      have hb : ∀ cs, Below wr.heap.size wr (wr.alloc (.cells cs 204)) := fun cs => (Below.refl _ _).alloc (Nat.le_refl _) _
      have HB2 := Lib.hid (fun cs => below_later (hb cs) HB.out)
      have hbl := HB.out.size
      generalize wr = w0 at *
      have hcw := HC.out.lt
      clear HB HX HBX HB0 HTB hb
      go_wp2_with fail
      go_loopw [27] (fun i wq => ∃ (j : Nat) (R : Except Tr.Bad Ty), i = .int .i64 j ∧ j ≤ K.length ∧ Hid (Tr.Good R) ∧ Hid (∀ t, R = .ok t → t = Ty.int) ∧ Hid (Tr.eachF R (K.drop j) = Tr.eachF (.ok Ty.int) K) ∧ Hid (CkAt c B tv yv ys (Tr.stE R) (Tr.stA a R) wq) ∧ Hid (Keep c w wq) ∧ wq.cell? ⟨w0.heap.size, 1, none⟩ = some (.string { data := #[105] }) ∧ wq.cell? ⟨w0.heap.size, 2, none⟩ = some (.string { data := #[98] })) (fun i _ => K.length - (intOf i).toNat)
      case atStart => exact ⟨0, .ok Ty.int, rfl, Nat.zero_le _, Lib.hid (Tr.good_ok _), Lib.hid (fun t ht => by injection ht with ht; exact ht.symm), Lib.hid rfl, Lib.hid (HC.out.later (HB2.out _)), Lib.hid (Keep.of (HB2.out _)), by go_simp, by go_simp⟩
      case round =>
        obtain ⟨j, R, rfl, hj, HG, HS, HE, HC2, HK2, b1, b2⟩ := hrel
        by_cases hlt : j < K.length
        · obtain ⟨⟨q, v⟩, hKj⟩ : ∃ y, K[j]? = some y := ⟨_, List.getElem?_eq_getElem hlt⟩
          have x0 := HKV.out _ HK2.out j q (by rw [List.getElem?_map, hKj]; rfl)
          have hts := hT (q, v) (List.mem_of_getElem? hKj)
          have HE2 : Hid (Tr.eachF (Tr.thenFit R v ((23 : Nat) : Int) q) (K.drop (j + 1)) = Tr.eachF (.ok Ty.int) K) := Lib.hid (by
            rw [← HE.out]
            rw [List.drop_eq_getElem_cons hlt]
            rw [List.getElem?_eq_getElem hlt] at hKj
            injection hKj with hKj
            rw [hKj]; rfl)
          have HF := Lib.hid (fun w' h' => fitsR c B tv yv ys a w' R HG.out (fun t ht => by rw [HS.out t ht]; unfold Ty.fits; decide) q 23 q { data := #[105] } (fun t ht => by rw [HS.out t ht]; rfl) v hts.2 (by decide) hts.1 h')
          have HG2 := Lib.hid (Tr.thenFit_good (s := v) (n := ((23 : Nat) : Int)) (p := q) HG.out (by decide))
          have HS2 := Lib.hid (Tr.thenFit_same (s := v) (n := ((23 : Nat) : Int)) (p := q) HS.out)
          generalize Tr.thenFit R v ((23 : Nat) : Int) q = R2 at *
          clear HG HS HE hKj hts
          go_wp2_with fail
          refine (HF.out _ HC2.out).mono ?_
          rintro E w3 ⟨rfl, h3, k3⟩
          have HC3 := Lib.hid h3
          have HK3 := Lib.hid (HK2.out.trans k3)
          have d1 := k3.cell b1 (by show w0.heap.size ≠ c; omega)
          have d2 := k3.cell b2 (by show w0.heap.size ≠ c; omega)
          clear h3 k3 b1 b2 HC2 HK2 HF x0
          go_wp2_with fail
          go_roundw
          case rel => exact ⟨j + 1, R2, by go_num, by omega, HG2, HS2, HE2, HC3, HK3, d1, d2⟩
          case measure => simp [intOf]; omega
        · obtain rfl : j = K.length := by omega
          have HR : Hid (RuleRes c B tv yv ys a ((Tr.eachT false Ty.int K).map fun _ => Ty.bool) w (.returned (.string { data := #[98] })) wr) := Lib.hid (by
            have he := HE.out
            rw [List.drop_eq_nil_of_le (Nat.le_refl _), Tr.eachF_eq] at he
            have he : R = (Tr.eachT false Ty.int K).map fun _ => Ty.int := he
            have hc2 := HC2.out
            have hg2 := HG.out
            cases ht : Tr.eachT false Ty.int K with
            | ok u => rw [ht] at he; subst he; exact CkRes.rule c B tv yv ys a (R := .ok Ty.bool) (Tr.good_ok _) (fun t ht => by injection ht with ht; subst ht; rfl) HK2.out hc2 (Keep.refl _ _)
            | error b => rw [ht] at he; subst he; exact CkRes.rule c B tv yv ys a (R := .error b) (fun b' hb => hg2 b' hb) (fun t ht => by cases ht) HK2.out hc2 (Keep.refl _ _))
          clear HG HS HE HC2 HK2
          go_wp2_with fail
          go_ret
          exact HR.out
theorem rowNot15 : ∀ k < 5, (rowK k == 15) = false := by decide
set_option maxRecDepth 100000 in
set_option maxHeartbeats 1600000 in
theorem asked_15 (hk : x.kind = 15) (hTab : Tab w) (hK : KidsV c w kv (K.map Prod.fst)) (hT : Told ys K) (hKl : K.length ≤ 1000000) (h : CkAt c B tv yv ys 0 a w) :
    Calls Tryz.prog 113 #[.pointer (some ⟨c, 0, none⟩), .int .i64 (p : Int), x.val, kv] w (RuleRes c B tv yv ys a ((Tr.eachT false Ty.int K).map fun _ => Ty.bool) w) := by
  have rowNot := rowNot15
  have HTB := Lib.hid (fun cs => hTab.later ((Below.refl w.heap.size w).alloc (Nat.le_refl _) (.cells cs 38)))
  obtain ⟨k, kd, n, s, t, u, l, cl⟩ := x
  obtain rfl : k = 15 := hk
  have HC := Lib.hid h
  obtain ⟨g, o, C, rfl, hlC, hg, hkc⟩ := hK.shape
  have HKV := Lib.hid hkc
  have HBX : Hid (Box w.heap.size (Nd.mk 15 kd n s t u l cl) (w.alloc (.cells #[.int .i8 15, .int .i64 kd, .int .i64 n, .string s, .string t, .string u, .int .i64 l, .int .i64 cl] 38))) := Lib.hid (MapKept.heap_alloc w _).1
  have HB0 := Lib.hid ((Below.refl w.heap.size w).alloc (Nat.le_refl _) (.cells #[.int .i8 15, .int .i64 kd, .int .i64 n, .string s, .string t, .string u, .int .i64 l, .int .i64 cl] 38))
  show Calls Tryz.prog _ #[_, _, .agg #[.int .i8 15, .int .i64 kd, .int .i64 n, .string s, .string t, .string u, .int .i64 l, .int .i64 cl], _] w _
  have hlm : ((K : List (Nat × Ty)).map Prod.fst).length = (K : List (Nat × Ty)).length := List.length_map _
  rw [hlm] at hlC ⊢
  clear hTab h hkc hlm hK
  go_enter Tryz.func113, Tryz.ntmps113
  go_wp2_with (refine wpList_load_mid rfl 205 _ rfl 1 0 rfl rowsL _ (Tab.range (HTB.out _)) Tryz.underlying205 rfl (by kernel_rfl) ?_)
  go_loopw [17] (fun i wr => ∃ k : Nat, k ≤ 5 ∧ i = .int .i64 k ∧ Hid (Below w.heap.size w wr) ∧ Hid (Box w.heap.size (Nd.mk 15 kd n s t u l cl) wr)) (fun i _ => 8 - (intOf i).toNat)
  case atStart => exact ⟨0, Nat.zero_le _, rfl, HB0, HBX⟩
  case round =>
    obtain ⟨k, hk, rfl, HB, HX⟩ := hrel
    have x0 : ∀ cs, (wr.alloc (.cells cs 204)).cell? ⟨w.heap.size, 0, none⟩ = some (.int .i8 15) := fun cs => alloc_cell cs 204 (HX.out.cell 0)
    rcases Nat.lt_or_ge k 5 with hlt | hge
    ·
      obtain ⟨s1, s2, hix⟩ := idx_any k (by omega)
      have hne : (rowK k == 15) = false := rowNot k (by omega)
      have hk8 : k < 8 := by omega
      have HB1 : Hid (∀ w' : World, Below wr.heap.size wr w' → Below w.heap.size w w') := Lib.hid (fun w' hb => below_later hb HB.out)
      have HX1 : Hid (∀ w' : World, Below wr.heap.size wr w' → Box w.heap.size (Nd.mk 15 kd n s t u l cl) w') := Lib.hid (fun w' hb => HX.out.later hb)
      generalize rowK k = rk at *
      have hb : ∀ cs, Below wr.heap.size wr (wr.alloc (.cells cs 204)) := fun cs => (Below.refl _ _).alloc (Nat.le_refl _) _
      have HB2 := Lib.hid (fun cs => HB1.out _ (hb cs))
      have HX2 := Lib.hid (fun cs => HX1.out _ (hb cs))
      clear HB HX HB1 HX1 hb
      go_wp2_with fail
      go_roundw
      case rel => exact ⟨k + 1, by omega, by go_num, HB2.out _, HX2.out _⟩
      case measure => simp [intOf]; omega
    · have hix : ∀ w, (Instr.index 205 (.agg rowsL.toArray) (.int .i64 (k : Int))).run Tryz.prog w = .ok (.agg #[.int .i8 15, .string { data := #[105] }, .string { data := #[98] }]) w := by
        obtain rfl : k = 5 := by omega
        exact idx5
      have hd8 : decide ((k : Int) < 8) = true := decide_eq_true (by omega)
      clear hk hge
      have hb : ∀ cs, Below wr.heap.size wr (wr.alloc (.cells cs 204)) := fun cs => (Below.refl _ _).alloc (Nat.le_refl _) _
      have HB2 := Lib.hid (fun cs => below_later (hb cs) HB.out)
      have hbl := HB.out.size
      generalize wr = w0 at *
      have hcw := HC.out.lt
      clear HB HX HBX HB0 HTB hb
      go_wp2_with fail
      go_loopw [27] (fun i wq => ∃ (j : Nat) (R : Except Tr.Bad Ty), i = .int .i64 j ∧ j ≤ K.length ∧ Hid (Tr.Good R) ∧ Hid (∀ t, R = .ok t → t = Ty.int) ∧ Hid (Tr.eachF R (K.drop j) = Tr.eachF (.ok Ty.int) K) ∧ Hid (CkAt c B tv yv ys (Tr.stE R) (Tr.stA a R) wq) ∧ Hid (Keep c w wq) ∧ wq.cell? ⟨w0.heap.size, 1, none⟩ = some (.string { data := #[105] }) ∧ wq.cell? ⟨w0.heap.size, 2, none⟩ = some (.string { data := #[98] })) (fun i _ => K.length - (intOf i).toNat)
      case atStart => exact ⟨0, .ok Ty.int, rfl, Nat.zero_le _, Lib.hid (Tr.good_ok _), Lib.hid (fun t ht => by injection ht with ht; exact ht.symm), Lib.hid rfl, Lib.hid (HC.out.later (HB2.out _)), Lib.hid (Keep.of (HB2.out _)), by go_simp, by go_simp⟩
      case round =>
        obtain ⟨j, R, rfl, hj, HG, HS, HE, HC2, HK2, b1, b2⟩ := hrel
        by_cases hlt : j < K.length
        · obtain ⟨⟨q, v⟩, hKj⟩ : ∃ y, K[j]? = some y := ⟨_, List.getElem?_eq_getElem hlt⟩
          have x0 := HKV.out _ HK2.out j q (by rw [List.getElem?_map, hKj]; rfl)
          have hts := hT (q, v) (List.mem_of_getElem? hKj)
          have HE2 : Hid (Tr.eachF (Tr.thenFit R v ((23 : Nat) : Int) q) (K.drop (j + 1)) = Tr.eachF (.ok Ty.int) K) := Lib.hid (by
            rw [← HE.out]
            rw [List.drop_eq_getElem_cons hlt]
            rw [List.getElem?_eq_getElem hlt] at hKj
            injection hKj with hKj
            rw [hKj]; rfl)
          have HF := Lib.hid (fun w' h' => fitsR c B tv yv ys a w' R HG.out (fun t ht => by rw [HS.out t ht]; unfold Ty.fits; decide) q 23 q { data := #[105] } (fun t ht => by rw [HS.out t ht]; rfl) v hts.2 (by decide) hts.1 h')
          have HG2 := Lib.hid (Tr.thenFit_good (s := v) (n := ((23 : Nat) : Int)) (p := q) HG.out (by decide))
          have HS2 := Lib.hid (Tr.thenFit_same (s := v) (n := ((23 : Nat) : Int)) (p := q) HS.out)
          generalize Tr.thenFit R v ((23 : Nat) : Int) q = R2 at *
          clear HG HS HE hKj hts
          go_wp2_with fail
          refine (HF.out _ HC2.out).mono ?_
          rintro E w3 ⟨rfl, h3, k3⟩
          have HC3 := Lib.hid h3
          have HK3 := Lib.hid (HK2.out.trans k3)
          have d1 := k3.cell b1 (by show w0.heap.size ≠ c; omega)
          have d2 := k3.cell b2 (by show w0.heap.size ≠ c; omega)
          clear h3 k3 b1 b2 HC2 HK2 HF x0
          go_wp2_with fail
          go_roundw
          case rel => exact ⟨j + 1, R2, by go_num, by omega, HG2, HS2, HE2, HC3, HK3, d1, d2⟩
          case measure => simp [intOf]; omega
        · obtain rfl : j = K.length := by omega
          have HR : Hid (RuleRes c B tv yv ys a ((Tr.eachT false Ty.int K).map fun _ => Ty.bool) w (.returned (.string { data := #[98] })) wr) := Lib.hid (by
            have he := HE.out
            rw [List.drop_eq_nil_of_le (Nat.le_refl _), Tr.eachF_eq] at he
            have he : R = (Tr.eachT false Ty.int K).map fun _ => Ty.int := he
            have hc2 := HC2.out
            have hg2 := HG.out
            cases ht : Tr.eachT false Ty.int K with
            | ok u => rw [ht] at he; subst he; exact CkRes.rule c B tv yv ys a (R := .ok Ty.bool) (Tr.good_ok _) (fun t ht => by injection ht with ht; subst ht; rfl) HK2.out hc2 (Keep.refl _ _)
            | error b => rw [ht] at he; subst he; exact CkRes.rule c B tv yv ys a (R := .error b) (fun b' hb => hg2 b' hb) (fun t ht => by cases ht) HK2.out hc2 (Keep.refl _ _))
          clear HG HS HE HC2 HK2
          go_wp2_with fail
          go_ret
          exact HR.out
theorem rowNot13 : ∀ k < 6, (rowK k == 13) = false := by decide
set_option maxRecDepth 100000 in
set_option maxHeartbeats 1600000 in
theorem asked_13 (hk : x.kind = 13) (hTab : Tab w) (hK : KidsV c w kv (K.map Prod.fst)) (hT : Told ys K) (hKl : K.length ≤ 1000000) (h : CkAt c B tv yv ys 0 a w) :
    Calls Tryz.prog 113 #[.pointer (some ⟨c, 0, none⟩), .int .i64 (p : Int), x.val, kv] w (RuleRes c B tv yv ys a ((Tr.eachT false Ty.text K).map fun _ => Ty.text) w) := by
  have rowNot := rowNot13
  have HTB := Lib.hid (fun cs => hTab.later ((Below.refl w.heap.size w).alloc (Nat.le_refl _) (.cells cs 38)))
  obtain ⟨k, kd, n, s, t, u, l, cl⟩ := x
  obtain rfl : k = 13 := hk
  have HC := Lib.hid h
  obtain ⟨g, o, C, rfl, hlC, hg, hkc⟩ := hK.shape
  have HKV := Lib.hid hkc
  have HBX : Hid (Box w.heap.size (Nd.mk 13 kd n s t u l cl) (w.alloc (.cells #[.int .i8 13, .int .i64 kd, .int .i64 n, .string s, .string t, .string u, .int .i64 l, .int .i64 cl] 38))) := Lib.hid (MapKept.heap_alloc w _).1
  have HB0 := Lib.hid ((Below.refl w.heap.size w).alloc (Nat.le_refl _) (.cells #[.int .i8 13, .int .i64 kd, .int .i64 n, .string s, .string t, .string u, .int .i64 l, .int .i64 cl] 38))
  show Calls Tryz.prog _ #[_, _, .agg #[.int .i8 13, .int .i64 kd, .int .i64 n, .string s, .string t, .string u, .int .i64 l, .int .i64 cl], _] w _
  have hlm : ((K : List (Nat × Ty)).map Prod.fst).length = (K : List (Nat × Ty)).length := List.length_map _
  rw [hlm] at hlC ⊢
  clear hTab h hkc hlm hK
  go_enter Tryz.func113, Tryz.ntmps113
  go_wp2_with (refine wpList_load_mid rfl 205 _ rfl 1 0 rfl rowsL _ (Tab.range (HTB.out _)) Tryz.underlying205 rfl (by kernel_rfl) ?_)
  go_loopw [17] (fun i wr => ∃ k : Nat, k ≤ 6 ∧ i = .int .i64 k ∧ Hid (Below w.heap.size w wr) ∧ Hid (Box w.heap.size (Nd.mk 13 kd n s t u l cl) wr)) (fun i _ => 8 - (intOf i).toNat)
  case atStart => exact ⟨0, Nat.zero_le _, rfl, HB0, HBX⟩
  case round =>
    obtain ⟨k, hk, rfl, HB, HX⟩ := hrel
    have x0 : ∀ cs, (wr.alloc (.cells cs 204)).cell? ⟨w.heap.size, 0, none⟩ = some (.int .i8 13) := fun cs => alloc_cell cs 204 (HX.out.cell 0)
    rcases Nat.lt_or_ge k 6 with hlt | hge
    ·
      obtain ⟨s1, s2, hix⟩ := idx_any k (by omega)
      have hne : (rowK k == 13) = false := rowNot k (by omega)
      have hk8 : k < 8 := by omega
      have HB1 : Hid (∀ w' : World, Below wr.heap.size wr w' → Below w.heap.size w w') := Lib.hid (fun w' hb => below_later hb HB.out)
      have HX1 : Hid (∀ w' : World, Below wr.heap.size wr w' → Box w.heap.size (Nd.mk 13 kd n s t u l cl) w') := Lib.hid (fun w' hb => HX.out.later hb)
      generalize rowK k = rk at *
      have hb : ∀ cs, Below wr.heap.size wr (wr.alloc (.cells cs 204)) := fun cs => (Below.refl _ _).alloc (Nat.le_refl _) _
      have HB2 := Lib.hid (fun cs => HB1.out _ (hb cs))
      have HX2 := Lib.hid (fun cs => HX1.out _ (hb cs))
      clear HB HX HB1 HX1 hb
      go_wp2_with fail
      go_roundw
      case rel => exact ⟨k + 1, by omega, by go_num, HB2.out _, HX2.out _⟩
      case measure => simp [intOf]; omega
    · have hix : ∀ w, (Instr.index 205 (.agg rowsL.toArray) (.int .i64 (k : Int))).run Tryz.prog w = .ok (.agg #[.int .i8 13, .string { data := #[116] }, .string { data := #[116] }]) w := by
        obtain rfl : k = 6 := by omega
        exact idx6
      have hd8 : decide ((k : Int) < 8) = true := decide_eq_true (by omega)
      clear hk hge
      have hb : ∀ cs, Below wr.heap.size wr (wr.alloc (.cells cs 204)) := fun cs => (Below.refl _ _).alloc (Nat.le_refl _) _
      have HB2 := Lib.hid (fun cs => below_later (hb cs) HB.out)
      have hbl := HB.out.size
      generalize wr = w0 at *
      have hcw := HC.out.lt
      clear HB HX HBX HB0 HTB hb
      go_wp2_with fail
      go_loopw [27] (fun i wq => ∃ (j : Nat) (R : Except Tr.Bad Ty), i = .int .i64 j ∧ j ≤ K.length ∧ Hid (Tr.Good R) ∧ Hid (∀ t, R = .ok t → t = Ty.text) ∧ Hid (Tr.eachF R (K.drop j) = Tr.eachF (.ok Ty.text) K) ∧ Hid (CkAt c B tv yv ys (Tr.stE R) (Tr.stA a R) wq) ∧ Hid (Keep c w wq) ∧ wq.cell? ⟨w0.heap.size, 1, none⟩ = some (.string { data := #[116] }) ∧ wq.cell? ⟨w0.heap.size, 2, none⟩ = some (.string { data := #[116] })) (fun i _ => K.length - (intOf i).toNat)
      case atStart => exact ⟨0, .ok Ty.text, rfl, Nat.zero_le _, Lib.hid (Tr.good_ok _), Lib.hid (fun t ht => by injection ht with ht; exact ht.symm), Lib.hid rfl, Lib.hid (HC.out.later (HB2.out _)), Lib.hid (Keep.of (HB2.out _)), by go_simp, by go_simp⟩
      case round =>
        obtain ⟨j, R, rfl, hj, HG, HS, HE, HC2, HK2, b1, b2⟩ := hrel
        by_cases hlt : j < K.length
        · obtain ⟨⟨q, v⟩, hKj⟩ : ∃ y, K[j]? = some y := ⟨_, List.getElem?_eq_getElem hlt⟩
          have x0 := HKV.out _ HK2.out j q (by rw [List.getElem?_map, hKj]; rfl)
          have hts := hT (q, v) (List.mem_of_getElem? hKj)
          have HE2 : Hid (Tr.eachF (Tr.thenFit R v ((23 : Nat) : Int) q) (K.drop (j + 1)) = Tr.eachF (.ok Ty.text) K) := Lib.hid (by
            rw [← HE.out]
            rw [List.drop_eq_getElem_cons hlt]
            rw [List.getElem?_eq_getElem hlt] at hKj
            injection hKj with hKj
            rw [hKj]; rfl)
          have HF := Lib.hid (fun w' h' => fitsR c B tv yv ys a w' R HG.out (fun t ht => by rw [HS.out t ht]; unfold Ty.fits; decide) q 23 q { data := #[116] } (fun t ht => by rw [HS.out t ht]; rfl) v hts.2 (by decide) hts.1 h')
          have HG2 := Lib.hid (Tr.thenFit_good (s := v) (n := ((23 : Nat) : Int)) (p := q) HG.out (by decide))
          have HS2 := Lib.hid (Tr.thenFit_same (s := v) (n := ((23 : Nat) : Int)) (p := q) HS.out)
          generalize Tr.thenFit R v ((23 : Nat) : Int) q = R2 at *
          clear HG HS HE hKj hts
          go_wp2_with fail
          refine (HF.out _ HC2.out).mono ?_
          rintro E w3 ⟨rfl, h3, k3⟩
          have HC3 := Lib.hid h3
          have HK3 := Lib.hid (HK2.out.trans k3)
          have d1 := k3.cell b1 (by show w0.heap.size ≠ c; omega)
          have d2 := k3.cell b2 (by show w0.heap.size ≠ c; omega)
          clear h3 k3 b1 b2 HC2 HK2 HF x0
          go_wp2_with fail
          go_roundw
          case rel => exact ⟨j + 1, R2, by go_num, by omega, HG2, HS2, HE2, HC3, HK3, d1, d2⟩
          case measure => simp [intOf]; omega
        · obtain rfl : j = K.length := by omega
          have HR : Hid (RuleRes c B tv yv ys a ((Tr.eachT false Ty.text K).map fun _ => Ty.text) w (.returned (.string { data := #[116] })) wr) := Lib.hid (by
            have he := HE.out
            rw [List.drop_eq_nil_of_le (Nat.le_refl _), Tr.eachF_eq] at he
            have he : R = (Tr.eachT false Ty.text K).map fun _ => Ty.text := he
            have hc2 := HC2.out
            have hg2 := HG.out
            cases ht : Tr.eachT false Ty.text K with
            | ok u => rw [ht] at he; subst he; exact CkRes.rule c B tv yv ys a (R := .ok Ty.text) (Tr.good_ok _) (fun t ht => by injection ht with ht; subst ht; rfl) HK2.out hc2 (Keep.refl _ _)
            | error b => rw [ht] at he; subst he; exact CkRes.rule c B tv yv ys a (R := .error b) (fun b' hb => hg2 b' hb) (fun t ht => by cases ht) HK2.out hc2 (Keep.refl _ _))
          clear HG HS HE HC2 HK2
          go_wp2_with fail
          go_ret
          exact HR.out
theorem rowNot17 : ∀ k < 7, (rowK k == 17) = false := by decide
set_option maxRecDepth 100000 in
set_option maxHeartbeats 1600000 in
theorem asked_17 (hk : x.kind = 17) (hTab : Tab w) (hK : KidsV c w kv (K.map Prod.fst)) (hT : Told ys K) (hKl : K.length ≤ 1000000) (h : CkAt c B tv yv ys 0 a w) :
    Calls Tryz.prog 113 #[.pointer (some ⟨c, 0, none⟩), .int .i64 (p : Int), x.val, kv] w (RuleRes c B tv yv ys a ((Tr.eachT false Ty.text K).map fun _ => Ty.int) w) := by
  have rowNot := rowNot17
  have HTB := Lib.hid (fun cs => hTab.later ((Below.refl w.heap.size w).alloc (Nat.le_refl _) (.cells cs 38)))
  obtain ⟨k, kd, n, s, t, u, l, cl⟩ := x
  obtain rfl : k = 17 := hk
  have HC := Lib.hid h
  obtain ⟨g, o, C, rfl, hlC, hg, hkc⟩ := hK.shape
  have HKV := Lib.hid hkc
  have HBX : Hid (Box w.heap.size (Nd.mk 17 kd n s t u l cl) (w.alloc (.cells #[.int .i8 17, .int .i64 kd, .int .i64 n, .string s, .string t, .string u, .int .i64 l, .int .i64 cl] 38))) := Lib.hid (MapKept.heap_alloc w _).1
  have HB0 := Lib.hid ((Below.refl w.heap.size w).alloc (Nat.le_refl _) (.cells #[.int .i8 17, .int .i64 kd, .int .i64 n, .string s, .string t, .string u, .int .i64 l, .int .i64 cl] 38))
  show Calls Tryz.prog _ #[_, _, .agg #[.int .i8 17, .int .i64 kd, .int .i64 n, .string s, .string t, .string u, .int .i64 l, .int .i64 cl], _] w _
  have hlm : ((K : List (Nat × Ty)).map Prod.fst).length = (K : List (Nat × Ty)).length := List.length_map _
  rw [hlm] at hlC ⊢
  clear hTab h hkc hlm hK
  go_enter Tryz.func113, Tryz.ntmps113
  go_wp2_with (refine wpList_load_mid rfl 205 _ rfl 1 0 rfl rowsL _ (Tab.range (HTB.out _)) Tryz.underlying205 rfl (by kernel_rfl) ?_)
  go_loopw [17] (fun i wr => ∃ k : Nat, k ≤ 7 ∧ i = .int .i64 k ∧ Hid (Below w.heap.size w wr) ∧ Hid (Box w.heap.size (Nd.mk 17 kd n s t u l cl) wr)) (fun i _ => 8 - (intOf i).toNat)
  case atStart => exact ⟨0, Nat.zero_le _, rfl, HB0, HBX⟩
  case round =>
    obtain ⟨k, hk, rfl, HB, HX⟩ := hrel
    have x0 : ∀ cs, (wr.alloc (.cells cs 204)).cell? ⟨w.heap.size, 0, none⟩ = some (.int .i8 17) := fun cs => alloc_cell cs 204 (HX.out.cell 0)
    rcases Nat.lt_or_ge k 7 with hlt | hge
    ·
      obtain ⟨s1, s2, hix⟩ := idx_any k (by omega)
      have hne : (rowK k == 17) = false := rowNot k (by omega)
      have hk8 : k < 8 := by omega
      have HB1 : Hid (∀ w' : World, Below wr.heap.size wr w' → Below w.heap.size w w') := Lib.hid (fun w' hb => below_later hb HB.out)
      have HX1 : Hid (∀ w' : World, Below wr.heap.size wr w' → Box w.heap.size (Nd.mk 17 kd n s t u l cl) w') := Lib.hid (fun w' hb => HX.out.later hb)
      generalize rowK k = rk at *
      have hb : ∀ cs, Below wr.heap.size wr (wr.alloc (.cells cs 204)) := fun cs => (Below.refl _ _).alloc (Nat.le_refl _) _
      have HB2 := Lib.hid (fun cs => HB1.out _ (hb cs))
      have HX2 := Lib.hid (fun cs => HX1.out _ (hb cs))
      clear HB HX HB1 HX1 hb
      go_wp2_with fail
      go_roundw
      case rel => exact ⟨k + 1, by omega, by go_num, HB2.out _, HX2.out _⟩
      case measure => simp [intOf]; omega
    · have hix : ∀ w, (Instr.index 205 (.agg rowsL.toArray) (.int .i64 (k : Int))).run Tryz.prog w = .ok (.agg #[.int .i8 17, .string { data := #[116] }, .string { data := #[105] }]) w := by
        obtain rfl : k = 7 := by omega
        exact idx7
      have hd8 : decide ((k : Int) < 8) = true := decide_eq_true (by omega)
      clear hk hge
      have hb : ∀ cs, Below wr.heap.size wr (wr.alloc (.cells cs 204)) := fun cs => (Below.refl _ _).alloc (Nat.le_refl _) _
      have HB2 := Lib.hid (fun cs => below_later (hb cs) HB.out)
      have hbl := HB.out.size
      generalize wr = w0 at *
      have hcw := HC.out.lt
      clear HB HX HBX HB0 HTB hb
      go_wp2_with fail
      go_loopw [27] (fun i wq => ∃ (j : Nat) (R : Except Tr.Bad Ty), i = .int .i64 j ∧ j ≤ K.length ∧ Hid (Tr.Good R) ∧ Hid (∀ t, R = .ok t → t = Ty.text) ∧ Hid (Tr.eachF R (K.drop j) = Tr.eachF (.ok Ty.text) K) ∧ Hid (CkAt c B tv yv ys (Tr.stE R) (Tr.stA a R) wq) ∧ Hid (Keep c w wq) ∧ wq.cell? ⟨w0.heap.size, 1, none⟩ = some (.string { data := #[116] }) ∧ wq.cell? ⟨w0.heap.size, 2, none⟩ = some (.string { data := #[105] })) (fun i _ => K.length - (intOf i).toNat)
      case atStart => exact ⟨0, .ok Ty.text, rfl, Nat.zero_le _, Lib.hid (Tr.good_ok _), Lib.hid (fun t ht => by injection ht with ht; exact ht.symm), Lib.hid rfl, Lib.hid (HC.out.later (HB2.out _)), Lib.hid (Keep.of (HB2.out _)), by go_simp, by go_simp⟩
      case round =>
        obtain ⟨j, R, rfl, hj, HG, HS, HE, HC2, HK2, b1, b2⟩ := hrel
        by_cases hlt : j < K.length
        · obtain ⟨⟨q, v⟩, hKj⟩ : ∃ y, K[j]? = some y := ⟨_, List.getElem?_eq_getElem hlt⟩
          have x0 := HKV.out _ HK2.out j q (by rw [List.getElem?_map, hKj]; rfl)
          have hts := hT (q, v) (List.mem_of_getElem? hKj)
          have HE2 : Hid (Tr.eachF (Tr.thenFit R v ((23 : Nat) : Int) q) (K.drop (j + 1)) = Tr.eachF (.ok Ty.text) K) := Lib.hid (by
            rw [← HE.out]
            rw [List.drop_eq_getElem_cons hlt]
            rw [List.getElem?_eq_getElem hlt] at hKj
            injection hKj with hKj
            rw [hKj]; rfl)
          have HF := Lib.hid (fun w' h' => fitsR c B tv yv ys a w' R HG.out (fun t ht => by rw [HS.out t ht]; unfold Ty.fits; decide) q 23 q { data := #[116] } (fun t ht => by rw [HS.out t ht]; rfl) v hts.2 (by decide) hts.1 h')
          have HG2 := Lib.hid (Tr.thenFit_good (s := v) (n := ((23 : Nat) : Int)) (p := q) HG.out (by decide))
          have HS2 := Lib.hid (Tr.thenFit_same (s := v) (n := ((23 : Nat) : Int)) (p := q) HS.out)
          generalize Tr.thenFit R v ((23 : Nat) : Int) q = R2 at *
          clear HG HS HE hKj hts
          go_wp2_with fail
          refine (HF.out _ HC2.out).mono ?_
          rintro E w3 ⟨rfl, h3, k3⟩
          have HC3 := Lib.hid h3
          have HK3 := Lib.hid (HK2.out.trans k3)
          have d1 := k3.cell b1 (by show w0.heap.size ≠ c; omega)
          have d2 := k3.cell b2 (by show w0.heap.size ≠ c; omega)
          clear h3 k3 b1 b2 HC2 HK2 HF x0
          go_wp2_with fail
          go_roundw
          case rel => exact ⟨j + 1, R2, by go_num, by omega, HG2, HS2, HE2, HC3, HK3, d1, d2⟩
          case measure => simp [intOf]; omega
        · obtain rfl : j = K.length := by omega
          have HR : Hid (RuleRes c B tv yv ys a ((Tr.eachT false Ty.text K).map fun _ => Ty.int) w (.returned (.string { data := #[105] })) wr) := Lib.hid (by
            have he := HE.out
            rw [List.drop_eq_nil_of_le (Nat.le_refl _), Tr.eachF_eq] at he
            have he : R = (Tr.eachT false Ty.text K).map fun _ => Ty.text := he
            have hc2 := HC2.out
            have hg2 := HG.out
            cases ht : Tr.eachT false Ty.text K with
            | ok u => rw [ht] at he; subst he; exact CkRes.rule c B tv yv ys a (R := .ok Ty.int) (Tr.good_ok _) (fun t ht => by injection ht with ht; subst ht; rfl) HK2.out hc2 (Keep.refl _ _)
            | error b => rw [ht] at he; subst he; exact CkRes.rule c B tv yv ys a (R := .error b) (fun b' hb => hg2 b' hb) (fun t ht => by cases ht) HK2.out hc2 (Keep.refl _ _))
          clear HG HS HE HC2 HK2
          go_wp2_with fail
          go_ret
          exact HR.out
end
end Go.Proofs.YtdfadmhomjcmeaaGreatDoor
