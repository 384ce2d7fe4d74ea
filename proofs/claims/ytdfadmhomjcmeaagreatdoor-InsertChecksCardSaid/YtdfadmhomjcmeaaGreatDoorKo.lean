
/- Walks of the checker: what a node's rule asks: heads of kids. -/
import Derived.Test.YtdfadmhomjcmeaaGreatDoorKk
namespace Go.Proofs.YtdfadmhomjcmeaaGreatDoor
set_option linter.unusedSimpArgs false
set_option linter.unusedVariables false
open Go.RowKit Culp
section
variable (c B : Nat) (tv yv : Value) (ys : List ByteArray) (a : Nat) (w : World)
variable (p : Nat) (x : Nd) (p0 p1 p2 : Nat) (t0 t1 t2 : Ty) (K : List (Nat × Ty)) (kv : Value)
set_option maxRecDepth 100000 in
set_option maxHeartbeats 1600000 in
theorem asked_19 (hk : x.kind = 19) (hTab : Tab w) (hK : KidsV c w kv (((p0, t0) :: K).map Prod.fst)) (hT : Told ys ((p0, t0) :: K)) (h : CkAt c B tv yv ys 0 a w) :
    Calls Tryz.prog 113 #[.pointer (some ⟨c, 0, none⟩), .int .i64 (p : Int), x.val, kv] w (RuleRes c B tv yv ys a (Tr.partT p0 t0 44 0) w) := by
  have rowNot : ∀ k < 8, (rowK k == 19) = false := by decide
  have HM := Lib.hid (fun w' h' => matchedR c B tv yv ys a w' (.ok ()) (Tr.good_ok _) p0 0 t0 (hT _ List.mem_cons_self).2 44 (.inl ⟨.inr rfl, by decide⟩) (hT _ List.mem_cons_self).1 h')
  rw [show Tr.thenPart (.ok () : Except Tr.Bad Unit) p0 t0 44 0 = Tr.partT p0 t0 44 0 from rfl] at HM
  have HG := Lib.hid (Tr.partT_good p0 t0 44 0)
  generalize Tr.partT p0 t0 44 0 = R at *
  have HTB := Lib.hid (fun cs => hTab.later ((Below.refl w.heap.size w).alloc (Nat.le_refl _) (.cells cs 38)))
  obtain ⟨k, kd, n, s, t, u, l, cl⟩ := x
  obtain rfl : k = 19 := hk
  have HC := Lib.hid h
  obtain ⟨g, o, C, rfl, hlC, hg, hkc⟩ := hK.shape
  have HKV := Lib.hid hkc
  have HBX : Hid (Box w.heap.size (Nd.mk 19 kd n s t u l cl) (w.alloc (.cells #[.int .i8 19, .int .i64 kd, .int .i64 n, .string s, .string t, .string u, .int .i64 l, .int .i64 cl] 38))) := Lib.hid (MapKept.heap_alloc w _).1
  have HB0 := Lib.hid ((Below.refl w.heap.size w).alloc (Nat.le_refl _) (.cells #[.int .i8 19, .int .i64 kd, .int .i64 n, .string s, .string t, .string u, .int .i64 l, .int .i64 cl] 38))
  show Calls Tryz.prog _ #[_, _, .agg #[.int .i8 19, .int .i64 kd, .int .i64 n, .string s, .string t, .string u, .int .i64 l, .int .i64 cl], _] w _
  have hlm : (((p0, t0) :: K : List (Nat × Ty)).map Prod.fst).length = ((p0, t0) :: K : List (Nat × Ty)).length := List.length_map _
  rw [hlm] at hlC ⊢
  clear hTab h hkc hlm hK
  go_enter Tryz.func113, Tryz.ntmps113
  go_wp2_with (refine wpList_load_mid rfl 205 _ rfl 1 0 rfl rowsL _ (Tab.range (HTB.out _)) Tryz.underlying205 rfl (by kernel_rfl) ?_)
  go_loopw [17] (fun i wr => ∃ k : Nat, k ≤ 8 ∧ i = .int .i64 k ∧ Hid (Below w.heap.size w wr) ∧ Hid (Box w.heap.size (Nd.mk 19 kd n s t u l cl) wr)) (fun i _ => 8 - (intOf i).toNat)
  case atStart => exact ⟨0, Nat.zero_le _, rfl, HB0, HBX⟩
  case round =>
    obtain ⟨k, hk, rfl, HB, HX⟩ := hrel
    rcases Nat.lt_or_ge k 8 with hlt | hge
    ·
      have x0 : ∀ cs, (wr.alloc (.cells cs 204)).cell? ⟨w.heap.size, 0, none⟩ = some (.int .i8 19) := fun cs => alloc_cell cs 204 (HX.out.cell 0)
      obtain ⟨s1, s2, hix⟩ := idx_any k (by omega)
      have hne : (rowK k == 19) = false := rowNot k (by omega)
      have hk8 : k < 8 := by omega
      have HB1 : Hid (∀ w' : World, Below wr.heap.size wr w' → Below w.heap.size w w') := Lib.hid (fun w' hb => below_later hb HB.out)
      have HX1 : Hid (∀ w' : World, Below wr.heap.size wr w' → Box w.heap.size (Nd.mk 19 kd n s t u l cl) w') := Lib.hid (fun w' hb => HX.out.later hb)
      generalize rowK k = rk at *
      have hb : ∀ cs, Below wr.heap.size wr (wr.alloc (.cells cs 204)) := fun cs => (Below.refl _ _).alloc (Nat.le_refl _) _
      have HB2 := Lib.hid (fun cs => HB1.out _ (hb cs))
      have HX2 := Lib.hid (fun cs => HX1.out _ (hb cs))
      clear HB HX HB1 HX1 hb
      go_wp2_with fail
      go_roundw
      case rel => exact ⟨k + 1, by omega, by go_num, HB2.out _, HX2.out _⟩
      case measure => simp [intOf]; omega
    ·
      have hd8 : decide ((k : Int) < 8) = false := decide_eq_false (by omega)
      have HC1 := Lib.hid (HC.out.later HB.out)
      have HK1 : Hid (Keep c w wr) := Lib.hid (Keep.of HB.out)
      have x0 : wr.cell? ⟨w.heap.size, 0, none⟩ = some (.int .i8 19) := HX.out.cell 0
      generalize wr = w1 at *
      clear HB HBX HB0 HTB hk hge
      have q0 := HKV.out _ HK1.out 0 p0 rfl
      rw [Nat.add_zero] at q0
      go_wp2_with fail
      refine (HM.out _ HC1.out).mono ?_
      rintro E w2 ⟨rfl, h2, k2⟩
      have HC2 := Lib.hid h2
      have HK2 := Lib.hid (HK1.out.trans k2)
      clear h2 k2 q0 x0
      go_wp2_with fail
      go_ret
      exact CkRes.rule c B tv yv ys a HG.out (fun t ht => by rw [ht]; rfl) HK2.out HC2.out (Keep.refl _ _)
set_option maxRecDepth 100000 in
set_option maxHeartbeats 1600000 in
theorem asked_20 (hk : x.kind = 20) (hTab : Tab w) (hK : KidsV c w kv (((p0, t0) :: K).map Prod.fst)) (hT : Told ys ((p0, t0) :: K)) (h : CkAt c B tv yv ys 0 a w) :
    Calls Tryz.prog 113 #[.pointer (some ⟨c, 0, none⟩), .int .i64 (p : Int), x.val, kv] w (RuleRes c B tv yv ys a (Tr.partT p0 t0 44 1) w) := by
  have rowNot : ∀ k < 8, (rowK k == 20) = false := by decide
  have HM := Lib.hid (fun w' h' => matchedR c B tv yv ys a w' (.ok ()) (Tr.good_ok _) p0 1 t0 (hT _ List.mem_cons_self).2 44 (.inl ⟨.inr rfl, by decide⟩) (hT _ List.mem_cons_self).1 h')
  rw [show Tr.thenPart (.ok () : Except Tr.Bad Unit) p0 t0 44 1 = Tr.partT p0 t0 44 1 from rfl] at HM
  have HG := Lib.hid (Tr.partT_good p0 t0 44 1)
  generalize Tr.partT p0 t0 44 1 = R at *
  have HTB := Lib.hid (fun cs => hTab.later ((Below.refl w.heap.size w).alloc (Nat.le_refl _) (.cells cs 38)))
  obtain ⟨k, kd, n, s, t, u, l, cl⟩ := x
  obtain rfl : k = 20 := hk
  have HC := Lib.hid h
  obtain ⟨g, o, C, rfl, hlC, hg, hkc⟩ := hK.shape
  have HKV := Lib.hid hkc
  have HBX : Hid (Box w.heap.size (Nd.mk 20 kd n s t u l cl) (w.alloc (.cells #[.int .i8 20, .int .i64 kd, .int .i64 n, .string s, .string t, .string u, .int .i64 l, .int .i64 cl] 38))) := Lib.hid (MapKept.heap_alloc w _).1
  have HB0 := Lib.hid ((Below.refl w.heap.size w).alloc (Nat.le_refl _) (.cells #[.int .i8 20, .int .i64 kd, .int .i64 n, .string s, .string t, .string u, .int .i64 l, .int .i64 cl] 38))
  show Calls Tryz.prog _ #[_, _, .agg #[.int .i8 20, .int .i64 kd, .int .i64 n, .string s, .string t, .string u, .int .i64 l, .int .i64 cl], _] w _
  have hlm : (((p0, t0) :: K : List (Nat × Ty)).map Prod.fst).length = ((p0, t0) :: K : List (Nat × Ty)).length := List.length_map _
  rw [hlm] at hlC ⊢
  clear hTab h hkc hlm hK
  go_enter Tryz.func113, Tryz.ntmps113
  go_wp2_with (refine wpList_load_mid rfl 205 _ rfl 1 0 rfl rowsL _ (Tab.range (HTB.out _)) Tryz.underlying205 rfl (by kernel_rfl) ?_)
  go_loopw [17] (fun i wr => ∃ k : Nat, k ≤ 8 ∧ i = .int .i64 k ∧ Hid (Below w.heap.size w wr) ∧ Hid (Box w.heap.size (Nd.mk 20 kd n s t u l cl) wr)) (fun i _ => 8 - (intOf i).toNat)
  case atStart => exact ⟨0, Nat.zero_le _, rfl, HB0, HBX⟩
  case round =>
    obtain ⟨k, hk, rfl, HB, HX⟩ := hrel
    rcases Nat.lt_or_ge k 8 with hlt | hge
    ·
      have x0 : ∀ cs, (wr.alloc (.cells cs 204)).cell? ⟨w.heap.size, 0, none⟩ = some (.int .i8 20) := fun cs => alloc_cell cs 204 (HX.out.cell 0)
      obtain ⟨s1, s2, hix⟩ := idx_any k (by omega)
      have hne : (rowK k == 20) = false := rowNot k (by omega)
      have hk8 : k < 8 := by omega
      have HB1 : Hid (∀ w' : World, Below wr.heap.size wr w' → Below w.heap.size w w') := Lib.hid (fun w' hb => below_later hb HB.out)
      have HX1 : Hid (∀ w' : World, Below wr.heap.size wr w' → Box w.heap.size (Nd.mk 20 kd n s t u l cl) w') := Lib.hid (fun w' hb => HX.out.later hb)
      generalize rowK k = rk at *
      have hb : ∀ cs, Below wr.heap.size wr (wr.alloc (.cells cs 204)) := fun cs => (Below.refl _ _).alloc (Nat.le_refl _) _
      have HB2 := Lib.hid (fun cs => HB1.out _ (hb cs))
      have HX2 := Lib.hid (fun cs => HX1.out _ (hb cs))
      clear HB HX HB1 HX1 hb
      go_wp2_with fail
      go_roundw
      case rel => exact ⟨k + 1, by omega, by go_num, HB2.out _, HX2.out _⟩
      case measure => simp [intOf]; omega
    ·
      have hd8 : decide ((k : Int) < 8) = false := decide_eq_false (by omega)
      have HC1 := Lib.hid (HC.out.later HB.out)
      have HK1 : Hid (Keep c w wr) := Lib.hid (Keep.of HB.out)
      have x0 : wr.cell? ⟨w.heap.size, 0, none⟩ = some (.int .i8 20) := HX.out.cell 0
      generalize wr = w1 at *
      clear HB HBX HB0 HTB hk hge
      have q0 := HKV.out _ HK1.out 0 p0 rfl
      rw [Nat.add_zero] at q0
      go_wp2_with fail
      refine (HM.out _ HC1.out).mono ?_
      rintro E w2 ⟨rfl, h2, k2⟩
      have HC2 := Lib.hid h2
      have HK2 := Lib.hid (HK1.out.trans k2)
      clear h2 k2 q0 x0
      go_wp2_with fail
      go_ret
      exact CkRes.rule c B tv yv ys a HG.out (fun t ht => by rw [ht]; rfl) HK2.out HC2.out (Keep.refl _ _)
set_option maxRecDepth 100000 in
set_option maxHeartbeats 1600000 in
theorem asked_27 (hk : x.kind = 27) (hTab : Tab w) (hK : KidsV c w kv (((p0, t0) :: K).map Prod.fst)) (hT : Told ys ((p0, t0) :: K)) (h : CkAt c B tv yv ys 0 a w) :
    Calls Tryz.prog 113 #[.pointer (some ⟨c, 0, none⟩), .int .i64 (p : Int), x.val, kv] w (RuleRes c B tv yv ys a (Tr.partT p0 t0 120 0) w) := by
  have rowNot : ∀ k < 8, (rowK k == 27) = false := by decide
  have HM := Lib.hid (fun w' h' => matchedR c B tv yv ys a w' (.ok ()) (Tr.good_ok _) p0 0 t0 (hT _ List.mem_cons_self).2 120 (.inr ⟨.inr rfl, by decide⟩) (hT _ List.mem_cons_self).1 h')
  rw [show Tr.thenPart (.ok () : Except Tr.Bad Unit) p0 t0 120 0 = Tr.partT p0 t0 120 0 from rfl] at HM
  have HG := Lib.hid (Tr.partT_good p0 t0 120 0)
  generalize Tr.partT p0 t0 120 0 = R at *
  have HTB := Lib.hid (fun cs => hTab.later ((Below.refl w.heap.size w).alloc (Nat.le_refl _) (.cells cs 38)))
  obtain ⟨k, kd, n, s, t, u, l, cl⟩ := x
  obtain rfl : k = 27 := hk
  have HC := Lib.hid h
  obtain ⟨g, o, C, rfl, hlC, hg, hkc⟩ := hK.shape
  have HKV := Lib.hid hkc
  have HBX : Hid (Box w.heap.size (Nd.mk 27 kd n s t u l cl) (w.alloc (.cells #[.int .i8 27, .int .i64 kd, .int .i64 n, .string s, .string t, .string u, .int .i64 l, .int .i64 cl] 38))) := Lib.hid (MapKept.heap_alloc w _).1
  have HB0 := Lib.hid ((Below.refl w.heap.size w).alloc (Nat.le_refl _) (.cells #[.int .i8 27, .int .i64 kd, .int .i64 n, .string s, .string t, .string u, .int .i64 l, .int .i64 cl] 38))
  show Calls Tryz.prog _ #[_, _, .agg #[.int .i8 27, .int .i64 kd, .int .i64 n, .string s, .string t, .string u, .int .i64 l, .int .i64 cl], _] w _
  have hlm : (((p0, t0) :: K : List (Nat × Ty)).map Prod.fst).length = ((p0, t0) :: K : List (Nat × Ty)).length := List.length_map _
  rw [hlm] at hlC ⊢
  clear hTab h hkc hlm hK
  go_enter Tryz.func113, Tryz.ntmps113
  go_wp2_with (refine wpList_load_mid rfl 205 _ rfl 1 0 rfl rowsL _ (Tab.range (HTB.out _)) Tryz.underlying205 rfl (by kernel_rfl) ?_)
  go_loopw [17] (fun i wr => ∃ k : Nat, k ≤ 8 ∧ i = .int .i64 k ∧ Hid (Below w.heap.size w wr) ∧ Hid (Box w.heap.size (Nd.mk 27 kd n s t u l cl) wr)) (fun i _ => 8 - (intOf i).toNat)
  case atStart => exact ⟨0, Nat.zero_le _, rfl, HB0, HBX⟩
  case round =>
    obtain ⟨k, hk, rfl, HB, HX⟩ := hrel
    rcases Nat.lt_or_ge k 8 with hlt | hge
    ·
      have x0 : ∀ cs, (wr.alloc (.cells cs 204)).cell? ⟨w.heap.size, 0, none⟩ = some (.int .i8 27) := fun cs => alloc_cell cs 204 (HX.out.cell 0)
      obtain ⟨s1, s2, hix⟩ := idx_any k (by omega)
      have hne : (rowK k == 27) = false := rowNot k (by omega)
      have hk8 : k < 8 := by omega
      have HB1 : Hid (∀ w' : World, Below wr.heap.size wr w' → Below w.heap.size w w') := Lib.hid (fun w' hb => below_later hb HB.out)
      have HX1 : Hid (∀ w' : World, Below wr.heap.size wr w' → Box w.heap.size (Nd.mk 27 kd n s t u l cl) w') := Lib.hid (fun w' hb => HX.out.later hb)
      generalize rowK k = rk at *
      have hb : ∀ cs, Below wr.heap.size wr (wr.alloc (.cells cs 204)) := fun cs => (Below.refl _ _).alloc (Nat.le_refl _) _
      have HB2 := Lib.hid (fun cs => HB1.out _ (hb cs))
      have HX2 := Lib.hid (fun cs => HX1.out _ (hb cs))
      clear HB HX HB1 HX1 hb
      go_wp2_with fail
      go_roundw
      case rel => exact ⟨k + 1, by omega, by go_num, HB2.out _, HX2.out _⟩
      case measure => simp [intOf]; omega
    ·
      have hd8 : decide ((k : Int) < 8) = false := decide_eq_false (by omega)
      have HC1 := Lib.hid (HC.out.later HB.out)
      have HK1 : Hid (Keep c w wr) := Lib.hid (Keep.of HB.out)
      have x0 : wr.cell? ⟨w.heap.size, 0, none⟩ = some (.int .i8 27) := HX.out.cell 0
      generalize wr = w1 at *
      clear HB HBX HB0 HTB hk hge
      have q0 := HKV.out _ HK1.out 0 p0 rfl
      rw [Nat.add_zero] at q0
      go_wp2_with fail
      refine (HM.out _ HC1.out).mono ?_
      rintro E w2 ⟨rfl, h2, k2⟩
      have HC2 := Lib.hid h2
      have HK2 := Lib.hid (HK1.out.trans k2)
      clear h2 k2 q0 x0
      go_wp2_with fail
      go_ret
      exact CkRes.rule c B tv yv ys a HG.out (fun t ht => by rw [ht]; rfl) HK2.out HC2.out (Keep.refl _ _)
end
end Go.Proofs.YtdfadmhomjcmeaaGreatDoor

/- Walks of the checker: what a node's rule asks: pairs, boxes, As, Set, lists. -/
namespace Go.Proofs.YtdfadmhomjcmeaaGreatDoor
set_option linter.unusedSimpArgs false
set_option linter.unusedVariables false
open Go.RowKit Culp
section
variable (c B : Nat) (tv yv : Value) (ys : List ByteArray) (a : Nat) (w : World)
variable (p : Nat) (x : Nd) (p0 p1 p2 : Nat) (t0 t1 t2 : Ty) (K : List (Nat × Ty)) (kv : Value)
set_option maxRecDepth 100000 in
set_option maxHeartbeats 1600000 in
theorem asked_26 (hk : x.kind = 26) (hTab : Tab w) (hK : KidsV c w kv (((p0, t0) :: K).map Prod.fst)) (hT : Told ys ((p0, t0) :: K)) (h : CkAt c B tv yv ys 0 a w) :
    Calls Tryz.prog 113 #[.pointer (some ⟨c, 0, none⟩), .int .i64 (p : Int), x.val, kv] w (RuleRes c B tv yv ys a (.ok (.box t0)) w) := by
  have rowNot : ∀ k < 8, (rowK k == 26) = false := by decide
  have HT0 := Lib.hid (hT _ List.mem_cons_self)
  have HTB := Lib.hid (fun cs => hTab.later ((Below.refl w.heap.size w).alloc (Nat.le_refl _) (.cells cs 38)))
  obtain ⟨k, kd, n, s, t, u, l, cl⟩ := x
  obtain rfl : k = 26 := hk
  have HC := Lib.hid h
  obtain ⟨g, o, C, rfl, hlC, hg, hkc⟩ := hK.shape
  have HKV := Lib.hid hkc
  have HBX : Hid (Box w.heap.size (Nd.mk 26 kd n s t u l cl) (w.alloc (.cells #[.int .i8 26, .int .i64 kd, .int .i64 n, .string s, .string t, .string u, .int .i64 l, .int .i64 cl] 38))) := Lib.hid (MapKept.heap_alloc w _).1
  have HB0 := Lib.hid ((Below.refl w.heap.size w).alloc (Nat.le_refl _) (.cells #[.int .i8 26, .int .i64 kd, .int .i64 n, .string s, .string t, .string u, .int .i64 l, .int .i64 cl] 38))
  show Calls Tryz.prog _ #[_, _, .agg #[.int .i8 26, .int .i64 kd, .int .i64 n, .string s, .string t, .string u, .int .i64 l, .int .i64 cl], _] w _
  have hlm : (((p0, t0) :: K : List (Nat × Ty)).map Prod.fst).length = ((p0, t0) :: K : List (Nat × Ty)).length := List.length_map _
  rw [hlm] at hlC ⊢
  clear hTab h hkc hlm hK
  go_enter Tryz.func113, Tryz.ntmps113
  go_wp2_with (refine wpList_load_mid rfl 205 _ rfl 1 0 rfl rowsL _ (Tab.range (HTB.out _)) Tryz.underlying205 rfl (by kernel_rfl) ?_)
  go_loopw [17] (fun i wr => ∃ k : Nat, k ≤ 8 ∧ i = .int .i64 k ∧ Hid (Below w.heap.size w wr) ∧ Hid (Box w.heap.size (Nd.mk 26 kd n s t u l cl) wr)) (fun i _ => 8 - (intOf i).toNat)
  case atStart => exact ⟨0, Nat.zero_le _, rfl, HB0, HBX⟩
  case round =>
    obtain ⟨k, hk, rfl, HB, HX⟩ := hrel
    rcases Nat.lt_or_ge k 8 with hlt | hge
    ·
      have x0 : ∀ cs, (wr.alloc (.cells cs 204)).cell? ⟨w.heap.size, 0, none⟩ = some (.int .i8 26) := fun cs => alloc_cell cs 204 (HX.out.cell 0)
      obtain ⟨s1, s2, hix⟩ := idx_any k (by omega)
      have hne : (rowK k == 26) = false := rowNot k (by omega)
      have hk8 : k < 8 := by omega
      have HB1 : Hid (∀ w' : World, Below wr.heap.size wr w' → Below w.heap.size w w') := Lib.hid (fun w' hb => below_later hb HB.out)
      have HX1 : Hid (∀ w' : World, Below wr.heap.size wr w' → Box w.heap.size (Nd.mk 26 kd n s t u l cl) w') := Lib.hid (fun w' hb => HX.out.later hb)
      generalize rowK k = rk at *
      have hb : ∀ cs, Below wr.heap.size wr (wr.alloc (.cells cs 204)) := fun cs => (Below.refl _ _).alloc (Nat.le_refl _) _
      have HB2 := Lib.hid (fun cs => HB1.out _ (hb cs))
      have HX2 := Lib.hid (fun cs => HX1.out _ (hb cs))
      clear HB HX HB1 HX1 hb
      go_wp2_with fail
      go_roundw
      case rel => exact ⟨k + 1, by omega, by go_num, HB2.out _, HX2.out _⟩
      case measure => simp [intOf]; omega
    ·
      have hd8 : decide ((k : Int) < 8) = false := decide_eq_false (by omega)
      have HC1 := Lib.hid (HC.out.later HB.out)
      have HK1 : Hid (Keep c w wr) := Lib.hid (Keep.of HB.out)
      have x0 : wr.cell? ⟨w.heap.size, 0, none⟩ = some (.int .i8 26) := HX.out.cell 0
      generalize wr = w1 at *
      clear HB HBX HB0 HTB hk hge
      have q0 := HKV.out _ HK1.out 0 p0 rfl
      rw [Nat.add_zero] at q0
      obtain ⟨gy, Cy, rfl, r0, hl0, -⟩ := HC1.out.read HT0.out.1
      have c1 := HC1.out.c1
      have z0 : t0.str.size ≤ 64 := by rw [str_size]; exact HT0.out.2
      have HC2 := Lib.hid (fun nq => HC1.out.later (below_dn w1 nq))
      have HK2 : Hid (∀ nq, Keep c w (w1.drewN nq)) := Lib.hid (fun nq => HK1.out.trans (Keep.of (below_dn w1 nq)))
      go_wp2_with fail
      go_quiet (fail)
      go_wp2_with fail
      go_ret
      exact CkRes.rule c B tv _ ys a (R := .ok _) (Tr.good_ok _) (fun t ht => by injection ht with ht; subst ht; exact box_str _) (HK2.out _) (HC2.out _) (Keep.refl _ _)
set_option maxRecDepth 100000 in
set_option maxHeartbeats 1600000 in
theorem asked_18 (hk : x.kind = 18) (hTab : Tab w) (hK : KidsV c w kv (([(p0, t0), (p1, t1)]).map Prod.fst)) (hT : Told ys ([(p0, t0), (p1, t1)])) (h : CkAt c B tv yv ys 0 a w) :
    Calls Tryz.prog 113 #[.pointer (some ⟨c, 0, none⟩), .int .i64 (p : Int), x.val, kv] w (RuleRes c B tv yv ys a (.ok (.pair t0 t1)) w) := by
  have rowNot : ∀ k < 8, (rowK k == 18) = false := by decide
  have HT0 := Lib.hid (hT _ List.mem_cons_self)
  have HT1 := Lib.hid (hT (p1, t1) (by simp))
  have HTB := Lib.hid (fun cs => hTab.later ((Below.refl w.heap.size w).alloc (Nat.le_refl _) (.cells cs 38)))
  obtain ⟨k, kd, n, s, t, u, l, cl⟩ := x
  obtain rfl : k = 18 := hk
  have HC := Lib.hid h
  obtain ⟨g, o, C, rfl, hlC, hg, hkc⟩ := hK.shape
  have HKV := Lib.hid hkc
  have HBX : Hid (Box w.heap.size (Nd.mk 18 kd n s t u l cl) (w.alloc (.cells #[.int .i8 18, .int .i64 kd, .int .i64 n, .string s, .string t, .string u, .int .i64 l, .int .i64 cl] 38))) := Lib.hid (MapKept.heap_alloc w _).1
  have HB0 := Lib.hid ((Below.refl w.heap.size w).alloc (Nat.le_refl _) (.cells #[.int .i8 18, .int .i64 kd, .int .i64 n, .string s, .string t, .string u, .int .i64 l, .int .i64 cl] 38))
  show Calls Tryz.prog _ #[_, _, .agg #[.int .i8 18, .int .i64 kd, .int .i64 n, .string s, .string t, .string u, .int .i64 l, .int .i64 cl], _] w _
  have hlm : (([(p0, t0), (p1, t1)] : List (Nat × Ty)).map Prod.fst).length = ([(p0, t0), (p1, t1)] : List (Nat × Ty)).length := List.length_map _
  rw [hlm] at hlC ⊢
  clear hTab h hkc hlm hK
  go_enter Tryz.func113, Tryz.ntmps113
  go_wp2_with (refine wpList_load_mid rfl 205 _ rfl 1 0 rfl rowsL _ (Tab.range (HTB.out _)) Tryz.underlying205 rfl (by kernel_rfl) ?_)
  go_loopw [17] (fun i wr => ∃ k : Nat, k ≤ 8 ∧ i = .int .i64 k ∧ Hid (Below w.heap.size w wr) ∧ Hid (Box w.heap.size (Nd.mk 18 kd n s t u l cl) wr)) (fun i _ => 8 - (intOf i).toNat)
  case atStart => exact ⟨0, Nat.zero_le _, rfl, HB0, HBX⟩
  case round =>
    obtain ⟨k, hk, rfl, HB, HX⟩ := hrel
    rcases Nat.lt_or_ge k 8 with hlt | hge
    ·
      have x0 : ∀ cs, (wr.alloc (.cells cs 204)).cell? ⟨w.heap.size, 0, none⟩ = some (.int .i8 18) := fun cs => alloc_cell cs 204 (HX.out.cell 0)
      obtain ⟨s1, s2, hix⟩ := idx_any k (by omega)
      have hne : (rowK k == 18) = false := rowNot k (by omega)
      have hk8 : k < 8 := by omega
      have HB1 : Hid (∀ w' : World, Below wr.heap.size wr w' → Below w.heap.size w w') := Lib.hid (fun w' hb => below_later hb HB.out)
      have HX1 : Hid (∀ w' : World, Below wr.heap.size wr w' → Box w.heap.size (Nd.mk 18 kd n s t u l cl) w') := Lib.hid (fun w' hb => HX.out.later hb)
      generalize rowK k = rk at *
      have hb : ∀ cs, Below wr.heap.size wr (wr.alloc (.cells cs 204)) := fun cs => (Below.refl _ _).alloc (Nat.le_refl _) _
      have HB2 := Lib.hid (fun cs => HB1.out _ (hb cs))
      have HX2 := Lib.hid (fun cs => HX1.out _ (hb cs))
      clear HB HX HB1 HX1 hb
      go_wp2_with fail
      go_roundw
      case rel => exact ⟨k + 1, by omega, by go_num, HB2.out _, HX2.out _⟩
      case measure => simp [intOf]; omega
    ·
      have hd8 : decide ((k : Int) < 8) = false := decide_eq_false (by omega)
      have HC1 := Lib.hid (HC.out.later HB.out)
      have HK1 : Hid (Keep c w wr) := Lib.hid (Keep.of HB.out)
      have x0 : wr.cell? ⟨w.heap.size, 0, none⟩ = some (.int .i8 18) := HX.out.cell 0
      generalize wr = w1 at *
      clear HB HBX HB0 HTB hk hge
      have q0 := HKV.out _ HK1.out 0 p0 rfl
      rw [Nat.add_zero] at q0
      have q1 := HKV.out _ HK1.out 1 p1 rfl
      obtain ⟨gy, Cy, rfl, r0, hl0, -⟩ := HC1.out.read HT0.out.1
      obtain ⟨gy', Cy', e1, r1, hl1, -⟩ := HC1.out.read HT1.out.1
      simp only [Value.slice.injEq, Option.some.injEq, Addr.mk.injEq] at e1
      obtain ⟨⟨rfl, _, _⟩, _, rfl⟩ := e1
      have c1 := HC1.out.c1
      have z0 : t0.str.size ≤ 64 := by rw [str_size]; exact HT0.out.2
      have z1 : t1.str.size ≤ 64 := by rw [str_size]; exact HT1.out.2
      have HC2 := Lib.hid (fun nq => HC1.out.later (below_dn w1 nq))
      have HK2 : Hid (∀ nq, Keep c w (w1.drewN nq)) := Lib.hid (fun nq => HK1.out.trans (Keep.of (below_dn w1 nq)))
      go_wp2_with fail
      go_quiet (fail)
      go_wp2_with fail
      go_ret
      exact CkRes.rule c B tv _ ys a (R := .ok _) (Tr.good_ok _) (fun t ht => by injection ht with ht; subst ht; exact pair_str _ _) (HK2.out _) (HC2.out _) (Keep.refl _ _)
end
end Go.Proofs.YtdfadmhomjcmeaaGreatDoor

/- Walks of the checker: what a node's rule asks: what must fit. -/
namespace Go.Proofs.YtdfadmhomjcmeaaGreatDoor
set_option linter.unusedSimpArgs false
set_option linter.unusedVariables false
open Go.RowKit Culp
theorem NoteOk.fits {s : ByteArray} (h : NoteOk s) : (Tr.noteT s).fits := by
  by_cases h0 : s.size = 0
  · have : Tr.noteT s = .dyn := by unfold Tr.noteT; rw [if_pos h0]
    rw [this]; unfold Ty.fits; decide
  · obtain ⟨t, _, h2, h3⟩ := h h0
    rw [h3]; exact h2
section
variable (c B : Nat) (tv yv : Value) (ys : List ByteArray) (a : Nat) (w : World)
variable (p : Nat) (x : Nd) (p0 p1 p2 : Nat) (t0 t1 t2 : Ty) (K : List (Nat × Ty)) (kv : Value)
set_option maxRecDepth 100000 in
set_option maxHeartbeats 1600000 in
theorem asked_29 (hk : x.kind = 29) (hTab : Tab w) (hK : KidsV c w kv (((p0, t0) :: K).map Prod.fst)) (hT : Told ys ((p0, t0) :: K)) (h : CkAt c B tv yv ys 0 a w) (T : Ty) (hx : x.t = T.str) (hTf : T.fits):
    Calls Tryz.prog 113 #[.pointer (some ⟨c, 0, none⟩), .int .i64 (p : Int), x.val, kv] w (RuleRes c B tv yv ys a (Tr.thenFit (.ok T) t0 23 p) w) := by
  have rowNot : ∀ k < 8, (rowK k == 29) = false := by decide
  have h0 := hT _ List.mem_cons_self
  have HF := Lib.hid (fun w' h' => fitsR c B tv yv ys a w' (.ok T) (Tr.good_ok _) (Tr.fitsR_ok hTf) p0 23 p x.t (fun t' ht' => by injection ht' with ht'; subst ht'; exact hx) t0 h0.2 (by decide) h0.1 h')
  have HG := Lib.hid (Tr.thenFit_good (R := .ok T) (s := t0) (n := 23) (p := p) (Tr.good_ok _) (by decide))
  have HSM := Lib.hid (Tr.thenFit_same (R := .ok T) (s := t0) (n := 23) (p := p) (t := T) (fun u hu => by injection hu with hu; exact hu.symm))
  have HX0 := Lib.hid hx
  have HCW := Lib.hid h.lt
  clear hx h0
  rw [show ((23 : Nat) : Int) = 23 from rfl] at HF
  generalize Tr.thenFit (.ok T) t0 23 p = R at *
  have HTB := Lib.hid (fun cs => hTab.later ((Below.refl w.heap.size w).alloc (Nat.le_refl _) (.cells cs 38)))
  obtain ⟨k, kd, n, s, t, u, l, cl⟩ := x
  obtain rfl : k = 29 := hk
  have HC := Lib.hid h
  obtain ⟨g, o, C, rfl, hlC, hg, hkc⟩ := hK.shape
  have HKV := Lib.hid hkc
  have HBX : Hid (Box w.heap.size (Nd.mk 29 kd n s t u l cl) (w.alloc (.cells #[.int .i8 29, .int .i64 kd, .int .i64 n, .string s, .string t, .string u, .int .i64 l, .int .i64 cl] 38))) := Lib.hid (MapKept.heap_alloc w _).1
  have HB0 := Lib.hid ((Below.refl w.heap.size w).alloc (Nat.le_refl _) (.cells #[.int .i8 29, .int .i64 kd, .int .i64 n, .string s, .string t, .string u, .int .i64 l, .int .i64 cl] 38))
  show Calls Tryz.prog _ #[_, _, .agg #[.int .i8 29, .int .i64 kd, .int .i64 n, .string s, .string t, .string u, .int .i64 l, .int .i64 cl], _] w _
  have hlm : (((p0, t0) :: K : List (Nat × Ty)).map Prod.fst).length = ((p0, t0) :: K : List (Nat × Ty)).length := List.length_map _
  rw [hlm] at hlC ⊢
  clear hTab h hkc hlm hK
  go_enter Tryz.func113, Tryz.ntmps113
  go_wp2_with (refine wpList_load_mid rfl 205 _ rfl 1 0 rfl rowsL _ (Tab.range (HTB.out _)) Tryz.underlying205 rfl (by kernel_rfl) ?_)
  go_loopw [17] (fun i wr => ∃ k : Nat, k ≤ 8 ∧ i = .int .i64 k ∧ Hid (Below w.heap.size w wr) ∧ Hid (Box w.heap.size (Nd.mk 29 kd n s t u l cl) wr)) (fun i _ => 8 - (intOf i).toNat)
  case atStart => exact ⟨0, Nat.zero_le _, rfl, HB0, HBX⟩
  case round =>
    obtain ⟨k, hk, rfl, HB, HX⟩ := hrel
    rcases Nat.lt_or_ge k 8 with hlt | hge
    ·
      have x0 : ∀ cs, (wr.alloc (.cells cs 204)).cell? ⟨w.heap.size, 0, none⟩ = some (.int .i8 29) := fun cs => alloc_cell cs 204 (HX.out.cell 0)
      obtain ⟨s1, s2, hix⟩ := idx_any k (by omega)
      have hne : (rowK k == 29) = false := rowNot k (by omega)
      have hk8 : k < 8 := by omega
      have HB1 : Hid (∀ w' : World, Below wr.heap.size wr w' → Below w.heap.size w w') := Lib.hid (fun w' hb => below_later hb HB.out)
      have HX1 : Hid (∀ w' : World, Below wr.heap.size wr w' → Box w.heap.size (Nd.mk 29 kd n s t u l cl) w') := Lib.hid (fun w' hb => HX.out.later hb)
      generalize rowK k = rk at *
      have hb : ∀ cs, Below wr.heap.size wr (wr.alloc (.cells cs 204)) := fun cs => (Below.refl _ _).alloc (Nat.le_refl _) _
      have HB2 := Lib.hid (fun cs => HB1.out _ (hb cs))
      have HX2 := Lib.hid (fun cs => HX1.out _ (hb cs))
      clear HB HX HB1 HX1 hb
      go_wp2_with fail
      go_roundw
      case rel => exact ⟨k + 1, by omega, by go_num, HB2.out _, HX2.out _⟩
      case measure => simp [intOf]; omega
    ·
      have hd8 : decide ((k : Int) < 8) = false := decide_eq_false (by omega)
      have HC1 := Lib.hid (HC.out.later HB.out)
      have HK1 : Hid (Keep c w wr) := Lib.hid (Keep.of HB.out)
      have x0 : wr.cell? ⟨w.heap.size, 0, none⟩ = some (.int .i8 29) := HX.out.cell 0
      generalize wr = w1 at *
      clear HB HBX HB0 HTB hk hge
      have q0 := HKV.out _ HK1.out 0 p0 rfl
      rw [Nat.add_zero] at q0
      have x4 : w1.cell? ⟨w.heap.size, 4, none⟩ = some (.string t) := HX.out.cell 4
      go_wp2_with fail
      refine wp_region_plan (S := fun w' => w'.cell? ⟨g, o, none⟩ = some (.int .i64 (p0 : Int)) ∧ w'.cell? ⟨w.heap.size, 4, none⟩ = some (.string t))
        [(0, true), (1, true), (2, true), (3, true), (4, true), (5, true), (6, true), (7, false)] (by kernel_rfl) (by kernel_rfl) (by kernel_rfl) (fun _ _ _ _ _ h => h) ⟨q0, x4⟩ ?_
      intro HS
      repeat (first | (apply wpPlan_look; rfl; rfl; (intro wq hq; (try dsimp only at hq); go_split_ands; go_simp; (try rw [if_neg (by omega)]); (try rw [if_pos (by omega)]); try with_reducible rfl); simp only [Act.put, List.setIfInBounds_toArray, List.set_cons_zero, List.set_cons_succ]) | (apply wpPlan_skip; rfl; rfl; simp only [Act.put, List.setIfInBounds_toArray, List.set_cons_zero, List.set_cons_succ]) | (apply wpPlan_pass; rfl; rfl; assumption; simp only [Act.put, List.setIfInBounds_toArray, List.set_cons_zero, List.set_cons_succ]))
      apply wpPlan_call; rfl; rfl; rfl; rfl; kernel_rfl; exact HF.out _ (HC1.out.later (below_dn _ _)); rfl; rintro E w2 ⟨rfl, h2, k2⟩
      have hne : w.heap.size ≠ c := by have := HCW.out; omega
      refine ⟨_, rfl, as_S ⟨k2.cell HS.1 hg, k2.cell HS.2 hne⟩ ?_⟩
      intro HS2
      have HC2 := Lib.hid h2
      have HK2 := Lib.hid (HK1.out.trans ((Keep.of (below_dn _ _)).trans k2))
      have x4' := HS2.2
      clear h2 k2 HS HS2 x0 x4 q0
      simp only [Act.put, List.setIfInBounds_toArray, List.set_cons_zero, List.set_cons_succ]
      apply wpPlan_done
      go_wp2_with fail
      go_ret
      exact CkRes.rule c B tv yv ys a HG.out (fun t' ht => by rw [HSM.out t' ht]; exact HX0.out) HK2.out HC2.out (Keep.refl _ _)
set_option maxRecDepth 100000 in
set_option maxHeartbeats 1600000 in
theorem asked_8 (hk : x.kind = 8) (hTab : Tab w) (hK : KidsV c w kv (([(p0, t0), (p1, t1)]).map Prod.fst)) (hT : Told ys ([(p0, t0), (p1, t1)])) (h : CkAt c B tv yv ys 0 a w) (hx : NoteOk x.t):
    Calls Tryz.prog 113 #[.pointer (some ⟨c, 0, none⟩), .int .i64 (p : Int), x.val, kv] w (RuleRes c B tv yv ys a ((Tr.thenFit (.ok (Tr.noteT x.t)) t0 23 p0).map fun _ => t1) w) := by
  have rowNot : ∀ k < 8, (rowK k == 8) = false := by decide
  have h0 := hT (p0, t0) List.mem_cons_self
  have HT1 := Lib.hid (hT (p1, t1) (by simp))
  have HU := Lib.hid (unknown_any x.t hx)
  have hTf := hx.fits
  have HF := Lib.hid (fun w' h' => fitsR c B tv yv ys a w' (.ok (Tr.noteT x.t)) (Tr.good_ok _) (Tr.fitsR_ok hTf) p0 23 p0 (Tr.noteT x.t).str (fun t' ht' => by injection ht' with ht'; rw [ht']) t0 h0.2 (by decide) h0.1 h')
  have HG := Lib.hid (Tr.thenFit_good (R := .ok (Tr.noteT x.t)) (s := t0) (n := 23) (p := p0) (Tr.good_ok _) (by decide))
  have HCW := Lib.hid h.lt
  clear hx h0 hTf
  rw [show ((23 : Nat) : Int) = 23 from rfl] at HF
  generalize Tr.thenFit (.ok (Tr.noteT x.t)) t0 23 p0 = R at *
  generalize Tr.noteT x.t = T at *
  have HTB := Lib.hid (fun cs => hTab.later ((Below.refl w.heap.size w).alloc (Nat.le_refl _) (.cells cs 38)))
  obtain ⟨k, kd, n, s, t, u, l, cl⟩ := x
  obtain rfl : k = 8 := hk
  have HC := Lib.hid h
  obtain ⟨g, o, C, rfl, hlC, hg, hkc⟩ := hK.shape
  have HKV := Lib.hid hkc
  have HBX : Hid (Box w.heap.size (Nd.mk 8 kd n s t u l cl) (w.alloc (.cells #[.int .i8 8, .int .i64 kd, .int .i64 n, .string s, .string t, .string u, .int .i64 l, .int .i64 cl] 38))) := Lib.hid (MapKept.heap_alloc w _).1
  have HB0 := Lib.hid ((Below.refl w.heap.size w).alloc (Nat.le_refl _) (.cells #[.int .i8 8, .int .i64 kd, .int .i64 n, .string s, .string t, .string u, .int .i64 l, .int .i64 cl] 38))
  show Calls Tryz.prog _ #[_, _, .agg #[.int .i8 8, .int .i64 kd, .int .i64 n, .string s, .string t, .string u, .int .i64 l, .int .i64 cl], _] w _
  have hlm : (([(p0, t0), (p1, t1)] : List (Nat × Ty)).map Prod.fst).length = ([(p0, t0), (p1, t1)] : List (Nat × Ty)).length := List.length_map _
  rw [hlm] at hlC ⊢
  clear hTab h hkc hlm hK
  go_enter Tryz.func113, Tryz.ntmps113
  go_wp2_with (refine wpList_load_mid rfl 205 _ rfl 1 0 rfl rowsL _ (Tab.range (HTB.out _)) Tryz.underlying205 rfl (by kernel_rfl) ?_)
  go_loopw [17] (fun i wr => ∃ k : Nat, k ≤ 8 ∧ i = .int .i64 k ∧ Hid (Below w.heap.size w wr) ∧ Hid (Box w.heap.size (Nd.mk 8 kd n s t u l cl) wr)) (fun i _ => 8 - (intOf i).toNat)
  case atStart => exact ⟨0, Nat.zero_le _, rfl, HB0, HBX⟩
  case round =>
    obtain ⟨k, hk, rfl, HB, HX⟩ := hrel
    rcases Nat.lt_or_ge k 8 with hlt | hge
    ·
      have x0 : ∀ cs, (wr.alloc (.cells cs 204)).cell? ⟨w.heap.size, 0, none⟩ = some (.int .i8 8) := fun cs => alloc_cell cs 204 (HX.out.cell 0)
      obtain ⟨s1, s2, hix⟩ := idx_any k (by omega)
      have hne : (rowK k == 8) = false := rowNot k (by omega)
      have hk8 : k < 8 := by omega
      have HB1 : Hid (∀ w' : World, Below wr.heap.size wr w' → Below w.heap.size w w') := Lib.hid (fun w' hb => below_later hb HB.out)
      have HX1 : Hid (∀ w' : World, Below wr.heap.size wr w' → Box w.heap.size (Nd.mk 8 kd n s t u l cl) w') := Lib.hid (fun w' hb => HX.out.later hb)
      generalize rowK k = rk at *
      have hb : ∀ cs, Below wr.heap.size wr (wr.alloc (.cells cs 204)) := fun cs => (Below.refl _ _).alloc (Nat.le_refl _) _
      have HB2 := Lib.hid (fun cs => HB1.out _ (hb cs))
      have HX2 := Lib.hid (fun cs => HX1.out _ (hb cs))
      clear HB HX HB1 HX1 hb
      go_wp2_with fail
      go_roundw
      case rel => exact ⟨k + 1, by omega, by go_num, HB2.out _, HX2.out _⟩
      case measure => simp [intOf]; omega
    ·
      have hd8 : decide ((k : Int) < 8) = false := decide_eq_false (by omega)
      have HC1 := Lib.hid (HC.out.later HB.out)
      have HK1 : Hid (Keep c w wr) := Lib.hid (Keep.of HB.out)
      have x0 : wr.cell? ⟨w.heap.size, 0, none⟩ = some (.int .i8 8) := HX.out.cell 0
      generalize wr = w1 at *
      clear HB HBX HB0 HTB hk hge
      have q0 := HKV.out _ HK1.out 0 p0 rfl
      have q1 := HKV.out _ HK1.out 1 p1 rfl
      rw [Nat.add_zero] at q0
      have x4 : w1.cell? ⟨w.heap.size, 4, none⟩ = some (.string t) := HX.out.cell 4
      go_wp2_with fail
      refine wp_region_plan (S := fun w' => w'.cell? ⟨g, o, none⟩ = some (.int .i64 (p0 : Int)) ∧ w'.cell? ⟨w.heap.size, 4, none⟩ = some (.string t))
        [(0, true), (1, true), (2, true), (3, true), (4, true), (5, true), (7, true), (8, true), (9, true), (6, false), (10, false)] (by kernel_rfl) (by kernel_rfl) (by kernel_rfl) (fun _ _ _ _ _ h => h) ⟨q0, x4⟩ ?_
      intro HS
      repeat (first | (apply wpPlan_look; rfl; rfl; (intro wq hq; (try dsimp only at hq); go_split_ands; go_simp; (try rw [if_neg (by omega)]); (try rw [if_pos (by omega)]); try with_reducible rfl); simp only [Act.put, List.setIfInBounds_toArray, List.set_cons_zero, List.set_cons_succ]) | (apply wpPlan_skip; rfl; rfl; simp only [Act.put, List.setIfInBounds_toArray, List.set_cons_zero, List.set_cons_succ]) | (apply wpPlan_pass; rfl; rfl; assumption; simp only [Act.put, List.setIfInBounds_toArray, List.set_cons_zero, List.set_cons_succ]))
      apply wpPlan_call; rfl; rfl; rfl; rfl; kernel_rfl; exact HU.out _; rfl; rintro E w2 ⟨rfl, rfl⟩
      refine ⟨_, rfl, as_S HS ?_⟩
      intro HS
      simp only [Act.put, List.setIfInBounds_toArray, List.set_cons_zero, List.set_cons_succ]
      repeat (first | (apply wpPlan_look; rfl; rfl; (intro wq hq; (try dsimp only at hq); go_split_ands; go_simp; (try rw [if_neg (by omega)]); (try rw [if_pos (by omega)]); try with_reducible rfl); simp only [Act.put, List.setIfInBounds_toArray, List.set_cons_zero, List.set_cons_succ]) | (apply wpPlan_skip; rfl; rfl; simp only [Act.put, List.setIfInBounds_toArray, List.set_cons_zero, List.set_cons_succ]) | (apply wpPlan_pass; rfl; rfl; assumption; simp only [Act.put, List.setIfInBounds_toArray, List.set_cons_zero, List.set_cons_succ]))
      apply wpPlan_call; rfl; rfl; rfl; rfl; kernel_rfl; exact HF.out _ (HC1.out.later (below_dn _ _)); rfl; rintro E w2 ⟨rfl, h2, k2⟩
      have hne : w.heap.size ≠ c := by have := HCW.out; omega
      refine ⟨_, rfl, as_S ⟨k2.cell HS.1 hg, k2.cell HS.2 hne⟩ ?_⟩
      intro HS2
      have HC2 := Lib.hid h2
      have HK2 := Lib.hid (HK1.out.trans ((Keep.of (below_dn _ _)).trans k2))
      have x4' := HS2.2
      clear h2 k2 HS HS2 x0 x4 q0
      simp only [Act.put, List.setIfInBounds_toArray, List.set_cons_zero, List.set_cons_succ]
      apply wpPlan_done
      have q1' := (HK2.out.cell (HKV.out _ (Keep.refl _ _) 1 p1 rfl) hg)
      obtain ⟨gy, Cy, rfl, r0, hl0, -⟩ := HC2.out.read HT1.out.1
      have c1 := HC2.out.c1
      have HC3 := Lib.hid (fun nq => HC2.out.later (below_dn w2 nq))
      have HK3 : Hid (∀ nq, Keep c w (w2.drewN nq)) := Lib.hid (fun nq => HK2.out.trans (Keep.of (below_dn w2 nq)))
      clear q1
      go_wp2_with fail
      go_quiet (fail)
      go_wp2_with fail
      go_ret
      refine CkRes.rule c B tv _ ys a (R := R.map fun _ => t1) (Tr.map_good _ HG.out) (fun t' ht => ?_) (HK3.out _) ?_ (Keep.refl _ _)
      · cases R with
        | ok v => injection ht with ht; rw [← ht]
        | error b => cases ht
      · have := HC3.out
        revert this
        cases R <;> exact fun this => this _
end
end Go.Proofs.YtdfadmhomjcmeaaGreatDoor

/- Walks of the checker: what a node's rule asks: Set, Call, If; lists. -/
namespace Culp.Tr
set_option linter.unusedSimpArgs false
set_option linter.unusedVariables false
theorem part_state {p : Nat} {t : Ty} {h : UInt8} {j k : Nat} {a : Nat} : stE (thenPart (partT p t h j) p t h k) = stE (partT p t h j) ∧ stA a (thenPart (partT p t h j) p t h k) = stA a (partT p t h j) := by
  unfold thenPart partT
  cases matchT t h <;> exact ⟨rfl, rfl⟩
/-- What a call's rule answers. -/
def callR (p0 : Nat) (t0 : Ty) (p1 : Nat) (t1 : Ty) : Except Bad Ty := match thenFit (partT p0 t0 62 0) t1 23 p1 with
  | .error b => .error b
  | .ok _ => partT p0 t0 62 1
end Culp.Tr
namespace Go.Proofs.YtdfadmhomjcmeaaGreatDoor
set_option linter.unusedSimpArgs false
set_option linter.unusedVariables false
open Go.RowKit Culp
section
variable (c B : Nat) (tv yv : Value) (ys : List ByteArray) (a : Nat) (w : World)
variable (p : Nat) (x : Nd) (p0 p1 p2 : Nat) (t0 t1 t2 : Ty) (K : List (Nat × Ty)) (kv : Value)
theorem thenFit_str {R : Except Tr.Bad Ty} {s : Ty} {n : Int} {q : Nat} : ∀ t, Tr.thenFit R s n q = .ok t → Tr.strOf R = t.str := fun t ht => by
  cases R with
  | error b => cases ht
  | ok v => rw [Tr.thenFit_same (t := v) (fun u hu => by injection hu with hu; exact hu.symm) t ht]; rfl
set_option maxRecDepth 100000 in
set_option maxHeartbeats 1600000 in
theorem asked_28 (hk : x.kind = 28) (hTab : Tab w) (hK : KidsV c w kv (([(p0, t0), (p1, t1)]).map Prod.fst)) (hT : Told ys ([(p0, t0), (p1, t1)])) (h : CkAt c B tv yv ys 0 a w) :
    Calls Tryz.prog 113 #[.pointer (some ⟨c, 0, none⟩), .int .i64 (p : Int), x.val, kv] w (RuleRes c B tv yv ys a (Tr.thenFit (Tr.partT p0 t0 120 0) t1 23 p1) w) := by
  have rowNot : ∀ k < 8, (rowK k == 28) = false := by decide
  have h0 := hT (p0, t0) List.mem_cons_self
  have h1 := hT (p1, t1) (by simp)
  have HM := Lib.hid (fun w' h' => matchedR c B tv yv ys a w' (.ok ()) (Tr.good_ok _) p0 0 t0 h0.2 120 (.inr ⟨.inr rfl, by decide⟩) h0.1 h')
  rw [show Tr.thenPart (.ok () : Except Tr.Bad Unit) p0 t0 120 0 = Tr.partT p0 t0 120 0 from rfl] at HM
  have hG := Tr.partT_good p0 t0 120 0
  have HF := Lib.hid (fun w' h' => fitsR c B tv yv ys a w' (Tr.partT p0 t0 120 0) hG (Tr.partT_fits h0.2) p1 23 p1 (Tr.strOf (Tr.partT p0 t0 120 0)) (fun t' ht' => by rw [ht']; rfl) t1 h1.2 (by decide) h1.1 h')
  rw [show ((23 : Nat) : Int) = 23 from rfl] at HF
  have HSM := Lib.hid (thenFit_str (R := Tr.partT p0 t0 120 0) (s := t1) (n := 23) (q := p1))
  have HG := Lib.hid (Tr.thenFit_good (s := t1) (n := 23) (p := p1) hG (by decide))
  clear hG
  generalize Tr.thenFit (Tr.partT p0 t0 120 0) t1 23 p1 = R2 at *
  generalize Tr.partT p0 t0 120 0 = R at *
  clear h0 h1
  have HTB := Lib.hid (fun cs => hTab.later ((Below.refl w.heap.size w).alloc (Nat.le_refl _) (.cells cs 38)))
  obtain ⟨k, kd, n, s, t, u, l, cl⟩ := x
  obtain rfl : k = 28 := hk
  have HC := Lib.hid h
  obtain ⟨g, o, C, rfl, hlC, hg, hkc⟩ := hK.shape
  have HKV := Lib.hid hkc
  have HBX : Hid (Box w.heap.size (Nd.mk 28 kd n s t u l cl) (w.alloc (.cells #[.int .i8 28, .int .i64 kd, .int .i64 n, .string s, .string t, .string u, .int .i64 l, .int .i64 cl] 38))) := Lib.hid (MapKept.heap_alloc w _).1
  have HB0 := Lib.hid ((Below.refl w.heap.size w).alloc (Nat.le_refl _) (.cells #[.int .i8 28, .int .i64 kd, .int .i64 n, .string s, .string t, .string u, .int .i64 l, .int .i64 cl] 38))
  show Calls Tryz.prog _ #[_, _, .agg #[.int .i8 28, .int .i64 kd, .int .i64 n, .string s, .string t, .string u, .int .i64 l, .int .i64 cl], _] w _
  have hlm : (([(p0, t0), (p1, t1)] : List (Nat × Ty)).map Prod.fst).length = ([(p0, t0), (p1, t1)] : List (Nat × Ty)).length := List.length_map _
  rw [hlm] at hlC ⊢
  clear hTab h hkc hlm hK
  go_enter Tryz.func113, Tryz.ntmps113
  go_wp2_with (refine wpList_load_mid rfl 205 _ rfl 1 0 rfl rowsL _ (Tab.range (HTB.out _)) Tryz.underlying205 rfl (by kernel_rfl) ?_)
  go_loopw [17] (fun i wr => ∃ k : Nat, k ≤ 8 ∧ i = .int .i64 k ∧ Hid (Below w.heap.size w wr) ∧ Hid (Box w.heap.size (Nd.mk 28 kd n s t u l cl) wr)) (fun i _ => 8 - (intOf i).toNat)
  case atStart => exact ⟨0, Nat.zero_le _, rfl, HB0, HBX⟩
  case round =>
    obtain ⟨k, hk, rfl, HB, HX⟩ := hrel
    rcases Nat.lt_or_ge k 8 with hlt | hge
    ·
      have x0 : ∀ cs, (wr.alloc (.cells cs 204)).cell? ⟨w.heap.size, 0, none⟩ = some (.int .i8 28) := fun cs => alloc_cell cs 204 (HX.out.cell 0)
      obtain ⟨s1, s2, hix⟩ := idx_any k (by omega)
      have hne : (rowK k == 28) = false := rowNot k (by omega)
      have hk8 : k < 8 := by omega
      have HB1 : Hid (∀ w' : World, Below wr.heap.size wr w' → Below w.heap.size w w') := Lib.hid (fun w' hb => below_later hb HB.out)
      have HX1 : Hid (∀ w' : World, Below wr.heap.size wr w' → Box w.heap.size (Nd.mk 28 kd n s t u l cl) w') := Lib.hid (fun w' hb => HX.out.later hb)
      generalize rowK k = rk at *
      have hb : ∀ cs, Below wr.heap.size wr (wr.alloc (.cells cs 204)) := fun cs => (Below.refl _ _).alloc (Nat.le_refl _) _
      have HB2 := Lib.hid (fun cs => HB1.out _ (hb cs))
      have HX2 := Lib.hid (fun cs => HX1.out _ (hb cs))
      clear HB HX HB1 HX1 hb
      go_wp2_with fail
      go_roundw
      case rel => exact ⟨k + 1, by omega, by go_num, HB2.out _, HX2.out _⟩
      case measure => simp [intOf]; omega
    ·
      have hd8 : decide ((k : Int) < 8) = false := decide_eq_false (by omega)
      have HC1 := Lib.hid (HC.out.later HB.out)
      have HK1 : Hid (Keep c w wr) := Lib.hid (Keep.of HB.out)
      have x0 : wr.cell? ⟨w.heap.size, 0, none⟩ = some (.int .i8 28) := HX.out.cell 0
      generalize wr = w1 at *
      clear HB HBX HB0 HTB hk hge
      have q0 := HKV.out _ HK1.out 0 p0 rfl
      have HQ1 := Lib.hid (HKV.out _ HK1.out 1 p1 rfl)
      rw [Nat.add_zero] at q0
      go_wp2_with fail
      refine (HM.out _ HC1.out).mono ?_
      rintro E w2 ⟨rfl, h2, k2⟩
      have HC2 := Lib.hid h2
      have HK2 := Lib.hid (HK1.out.trans k2)
      have q1 := k2.cell HQ1.out hg
      clear h2 k2 q0 x0 HM
      go_wp2_with fail
      refine wp_region_plan (S := fun w' => w'.cell? ⟨g, o + 1, none⟩ = some (.int .i64 (p1 : Int)))
        [(0, true), (1, true), (2, true), (3, true), (4, true), (5, true), (6, true), (7, true), (8, false)] (by kernel_rfl) (by kernel_rfl) (by kernel_rfl) (fun _ _ _ _ _ h => h) q1 ?_
      intro HS
      repeat (first | (apply wpPlan_look; rfl; rfl; (intro wq hq; (try dsimp only at hq); go_split_ands; go_simp; (try rw [if_neg (by omega)]); (try rw [if_pos (by omega)]); try with_reducible rfl); simp only [Act.put, List.setIfInBounds_toArray, List.set_cons_zero, List.set_cons_succ]) | (apply wpPlan_skip; rfl; rfl; simp only [Act.put, List.setIfInBounds_toArray, List.set_cons_zero, List.set_cons_succ]) | (apply wpPlan_pass; rfl; rfl; assumption; simp only [Act.put, List.setIfInBounds_toArray, List.set_cons_zero, List.set_cons_succ]))
      apply wpPlan_call; rfl; rfl; rfl; rfl; kernel_rfl; exact HF.out _ (HC2.out.later (below_dn _ _)); rfl; rintro E w3 ⟨rfl, h3, k3⟩
      refine ⟨_, rfl, as_S (k3.cell HS hg) ?_⟩
      intro HS2
      have HC3 := Lib.hid h3
      have HK3 := Lib.hid (HK2.out.trans ((Keep.of (below_dn _ _)).trans k3))
      clear h3 k3 HS HS2 q1
      simp only [Act.put, List.setIfInBounds_toArray, List.set_cons_zero, List.set_cons_succ]
      apply wpPlan_done
      go_wp2_with fail
      go_ret
      exact CkRes.rule c B tv yv ys a HG.out (fun t' ht => HSM.out t' ht) HK3.out HC3.out (Keep.refl _ _)
set_option maxRecDepth 100000 in
set_option maxHeartbeats 1600000 in
theorem asked_7 (hk : x.kind = 7) (hTab : Tab w) (hK : KidsV c w kv (([(p0, t0), (p1, t1)]).map Prod.fst)) (hT : Told ys ([(p0, t0), (p1, t1)])) (h : CkAt c B tv yv ys 0 a w) :
    Calls Tryz.prog 113 #[.pointer (some ⟨c, 0, none⟩), .int .i64 (p : Int), x.val, kv] w (RuleRes c B tv yv ys a (Tr.callR p0 t0 p1 t1) w) := by
  have rowNot : ∀ k < 8, (rowK k == 7) = false := by decide
  have h0 := hT (p0, t0) List.mem_cons_self
  have h1 := hT (p1, t1) (by simp)
  have HM := Lib.hid (fun w' h' => matchedR c B tv yv ys a w' (.ok ()) (Tr.good_ok _) p0 0 t0 h0.2 62 (.inl ⟨.inl rfl, by decide⟩) h0.1 h')
  have HM2 := Lib.hid (fun w' h' => matchedR c B tv yv ys a w' (Tr.partT p0 t0 62 0) (Tr.partT_good _ _ _ _) p0 1 t0 h0.2 62 (.inl ⟨.inl rfl, by decide⟩) h0.1 h')
  rw [show Tr.thenPart (.ok () : Except Tr.Bad Unit) p0 t0 62 0 = Tr.partT p0 t0 62 0 from rfl] at HM
  have HST : Hid (∀ w', CkAt c B tv yv ys (Tr.stE (Tr.thenPart (Tr.partT p0 t0 62 0) p0 t0 62 1)) (Tr.stA a (Tr.thenPart (Tr.partT p0 t0 62 0) p0 t0 62 1)) w' → CkAt c B tv yv ys (Tr.stE (Tr.partT p0 t0 62 0)) (Tr.stA a (Tr.partT p0 t0 62 0)) w') := Lib.hid (fun w' h => by
    have := @Tr.part_state p0 t0 62 0 1 a
    rw [this.1, this.2] at h; exact h)
  have hG := Tr.partT_good p0 t0 62 0
  have HF := Lib.hid (fun w' h' => fitsR c B tv yv ys a w' (Tr.partT p0 t0 62 0) hG (Tr.partT_fits h0.2) p1 23 p1 (Tr.strOf (Tr.partT p0 t0 62 0)) (fun t' ht' => by rw [ht']; rfl) t1 h1.2 (by decide) h1.1 h')
  rw [show ((23 : Nat) : Int) = 23 from rfl] at HF
  have HRES : Hid (∀ w', Keep c w w' → CkAt c B tv yv ys (Tr.stE (Tr.thenFit (Tr.partT p0 t0 62 0) t1 23 p1)) (Tr.stA a (Tr.thenFit (Tr.partT p0 t0 62 0) t1 23 p1)) w' → RuleRes c B tv yv ys a (Tr.callR p0 t0 p1 t1) w (.returned (.string (Tr.strOf (Tr.thenPart (Tr.partT p0 t0 62 0) p0 t0 62 1)))) w') := Lib.hid (fun w' k h => by
    have hg2 := Tr.thenFit_good (s := t1) (n := 23) (p := p1) hG (by decide)
    have hst := @thenFit_str (Tr.partT p0 t0 62 0) t1 23 p1
    unfold Tr.callR
    cases hf : Tr.thenFit (Tr.partT p0 t0 62 0) t1 23 p1 with
    | error b => rw [hf] at h hg2; exact CkRes.rule c B tv yv ys a (R := .error b) (fun b' hb => hg2 b' hb) (fun t ht => by cases ht) k h (Keep.refl _ _)
    | ok v =>
      rw [hf] at h
      cases hp : Tr.partT p0 t0 62 0 with
      | error b => rw [hp] at hf; cases hf
      | ok u =>
        dsimp only
        have e : Tr.thenPart (.ok u : Except Tr.Bad Ty) p0 t0 62 1 = Tr.partT p0 t0 62 1 := rfl
        rw [e]
        have h2 : ∃ v2, Tr.partT p0 t0 62 1 = .ok v2 := by
          unfold Tr.partT at hp ⊢
          cases hm : Tr.matchT t0 62 with
          | none => rw [hm] at hp; cases hp
          | some l => exact ⟨_, rfl⟩
        obtain ⟨v2, h2⟩ := h2
        rw [h2]
        exact CkRes.rule c B tv yv ys a (R := .ok v2) (Tr.good_ok _) (fun t ht => by injection ht with ht; subst ht; rfl) k h (Keep.refl _ _))
  clear hG
  generalize Tr.callR p0 t0 p1 t1 = RC at *
  generalize Tr.thenFit (Tr.partT p0 t0 62 0) t1 23 p1 = R2 at *
  generalize Tr.thenPart (Tr.partT p0 t0 62 0) p0 t0 62 1 = R1 at *
  generalize Tr.partT p0 t0 62 0 = R at *
  clear h0 h1
  have HTB := Lib.hid (fun cs => hTab.later ((Below.refl w.heap.size w).alloc (Nat.le_refl _) (.cells cs 38)))
  obtain ⟨k, kd, n, s, t, u, l, cl⟩ := x
  obtain rfl : k = 7 := hk
  have HC := Lib.hid h
  obtain ⟨g, o, C, rfl, hlC, hg, hkc⟩ := hK.shape
  have HKV := Lib.hid hkc
  have HBX : Hid (Box w.heap.size (Nd.mk 7 kd n s t u l cl) (w.alloc (.cells #[.int .i8 7, .int .i64 kd, .int .i64 n, .string s, .string t, .string u, .int .i64 l, .int .i64 cl] 38))) := Lib.hid (MapKept.heap_alloc w _).1
  have HB0 := Lib.hid ((Below.refl w.heap.size w).alloc (Nat.le_refl _) (.cells #[.int .i8 7, .int .i64 kd, .int .i64 n, .string s, .string t, .string u, .int .i64 l, .int .i64 cl] 38))
  show Calls Tryz.prog _ #[_, _, .agg #[.int .i8 7, .int .i64 kd, .int .i64 n, .string s, .string t, .string u, .int .i64 l, .int .i64 cl], _] w _
  have hlm : (([(p0, t0), (p1, t1)] : List (Nat × Ty)).map Prod.fst).length = ([(p0, t0), (p1, t1)] : List (Nat × Ty)).length := List.length_map _
  rw [hlm] at hlC ⊢
  clear hTab h hkc hlm hK
  go_enter Tryz.func113, Tryz.ntmps113
  go_wp2_with (refine wpList_load_mid rfl 205 _ rfl 1 0 rfl rowsL _ (Tab.range (HTB.out _)) Tryz.underlying205 rfl (by kernel_rfl) ?_)
  go_loopw [17] (fun i wr => ∃ k : Nat, k ≤ 8 ∧ i = .int .i64 k ∧ Hid (Below w.heap.size w wr) ∧ Hid (Box w.heap.size (Nd.mk 7 kd n s t u l cl) wr)) (fun i _ => 8 - (intOf i).toNat)
  case atStart => exact ⟨0, Nat.zero_le _, rfl, HB0, HBX⟩
  case round =>
    obtain ⟨k, hk, rfl, HB, HX⟩ := hrel
    rcases Nat.lt_or_ge k 8 with hlt | hge
    ·
      have x0 : ∀ cs, (wr.alloc (.cells cs 204)).cell? ⟨w.heap.size, 0, none⟩ = some (.int .i8 7) := fun cs => alloc_cell cs 204 (HX.out.cell 0)
      obtain ⟨s1, s2, hix⟩ := idx_any k (by omega)
      have hne : (rowK k == 7) = false := rowNot k (by omega)
      have hk8 : k < 8 := by omega
      have HB1 : Hid (∀ w' : World, Below wr.heap.size wr w' → Below w.heap.size w w') := Lib.hid (fun w' hb => below_later hb HB.out)
      have HX1 : Hid (∀ w' : World, Below wr.heap.size wr w' → Box w.heap.size (Nd.mk 7 kd n s t u l cl) w') := Lib.hid (fun w' hb => HX.out.later hb)
      generalize rowK k = rk at *
      have hb : ∀ cs, Below wr.heap.size wr (wr.alloc (.cells cs 204)) := fun cs => (Below.refl _ _).alloc (Nat.le_refl _) _
      have HB2 := Lib.hid (fun cs => HB1.out _ (hb cs))
      have HX2 := Lib.hid (fun cs => HX1.out _ (hb cs))
      clear HB HX HB1 HX1 hb
      go_wp2_with fail
      go_roundw
      case rel => exact ⟨k + 1, by omega, by go_num, HB2.out _, HX2.out _⟩
      case measure => simp [intOf]; omega
    ·
      have hd8 : decide ((k : Int) < 8) = false := decide_eq_false (by omega)
      have HC1 := Lib.hid (HC.out.later HB.out)
      have HK1 : Hid (Keep c w wr) := Lib.hid (Keep.of HB.out)
      have x0 : wr.cell? ⟨w.heap.size, 0, none⟩ = some (.int .i8 7) := HX.out.cell 0
      generalize wr = w1 at *
      clear HB HBX HB0 HTB hk hge
      have q0 := HKV.out _ HK1.out 0 p0 rfl
      have HQ1 := Lib.hid (HKV.out _ HK1.out 1 p1 rfl)
      rw [Nat.add_zero] at q0
      go_wp2_with fail
      refine wp_region_plan (S := fun w' => w'.cell? ⟨g, o, none⟩ = some (.int .i64 (p0 : Int)))
        [(0, true), (1, true), (2, true), (3, true), (5, true), (6, true), (7, true), (8, true), (4, false), (9, false), (10, true), (11, true)] (by kernel_rfl) (by kernel_rfl) (by kernel_rfl) (fun _ _ _ _ _ h => h) q0 ?_
      intro HS
      repeat (first | (apply wpPlan_look; rfl; rfl; (intro wq hq; (try dsimp only at hq); go_split_ands; go_simp; (try rw [if_neg (by omega)]); (try rw [if_pos (by omega)]); try with_reducible rfl); simp only [Act.put, List.setIfInBounds_toArray, List.set_cons_zero, List.set_cons_succ]) | (apply wpPlan_skip; rfl; rfl; simp only [Act.put, List.setIfInBounds_toArray, List.set_cons_zero, List.set_cons_succ]) | (apply wpPlan_pass; rfl; rfl; assumption; simp only [Act.put, List.setIfInBounds_toArray, List.set_cons_zero, List.set_cons_succ]))
      apply wpPlan_call; rfl; rfl; rfl; rfl; kernel_rfl; exact HM.out _ (HC1.out.later (below_dn _ _)); rfl; rintro E w2 ⟨rfl, h2, k2⟩
      refine ⟨_, rfl, as_S (k2.cell HS hg) ?_⟩
      intro HS2
      have HC2 := Lib.hid h2
      have HK2 := Lib.hid (HK1.out.trans ((Keep.of (below_dn _ _)).trans k2))
      have q2 := HS2
      clear h2 k2 HS HS2 q0 x0
      simp only [Act.put, List.setIfInBounds_toArray, List.set_cons_zero, List.set_cons_succ]
      repeat (first | (apply wpPlan_look; rfl; rfl; (intro wq hq; (try dsimp only at hq); go_split_ands; go_simp; (try rw [if_neg (by omega)]); (try rw [if_pos (by omega)]); try with_reducible rfl); simp only [Act.put, List.setIfInBounds_toArray, List.set_cons_zero, List.set_cons_succ]) | (apply wpPlan_skip; rfl; rfl; simp only [Act.put, List.setIfInBounds_toArray, List.set_cons_zero, List.set_cons_succ]) | (apply wpPlan_pass; rfl; rfl; assumption; simp only [Act.put, List.setIfInBounds_toArray, List.set_cons_zero, List.set_cons_succ]))
      apply wpPlan_call; rfl; rfl; rfl; rfl; kernel_rfl; exact HM2.out _ HC2.out; rfl; rintro E w3 ⟨rfl, h3, k3⟩
      refine ⟨_, rfl, as_S (k3.cell q2 hg) ?_⟩
      intro HS3
      have HC3 := Lib.hid (HST.out _ h3)
      have HK3 := Lib.hid (HK2.out.trans k3)
      clear h3 k3 HS3 q2
      simp only [Act.put, List.setIfInBounds_toArray, List.set_cons_zero, List.set_cons_succ]
      repeat (first | (apply wpPlan_look; rfl; rfl; (intro wq hq; (try dsimp only at hq); go_split_ands; go_simp; (try rw [if_neg (by omega)]); (try rw [if_pos (by omega)]); try with_reducible rfl); simp only [Act.put, List.setIfInBounds_toArray, List.set_cons_zero, List.set_cons_succ]) | (apply wpPlan_skip; rfl; rfl; simp only [Act.put, List.setIfInBounds_toArray, List.set_cons_zero, List.set_cons_succ]) | (apply wpPlan_pass; rfl; rfl; assumption; simp only [Act.put, List.setIfInBounds_toArray, List.set_cons_zero, List.set_cons_succ]))
      apply wpPlan_done
      have q1 := HKV.out _ HK3.out 1 p1 rfl
      go_wp2_with fail
      refine wp_region_plan (S := fun w' => w'.cell? ⟨g, o + 1, none⟩ = some (.int .i64 (p1 : Int)))
        [(0, true), (1, true), (2, true), (3, true), (4, true), (5, true), (6, true), (7, true), (8, false)] (by kernel_rfl) (by kernel_rfl) (by kernel_rfl) (fun _ _ _ _ _ h => h) q1 ?_
      intro HS
      repeat (first | (apply wpPlan_look; rfl; rfl; (intro wq hq; (try dsimp only at hq); go_split_ands; go_simp; (try rw [if_neg (by omega)]); (try rw [if_pos (by omega)]); try with_reducible rfl); simp only [Act.put, List.setIfInBounds_toArray, List.set_cons_zero, List.set_cons_succ]) | (apply wpPlan_skip; rfl; rfl; simp only [Act.put, List.setIfInBounds_toArray, List.set_cons_zero, List.set_cons_succ]) | (apply wpPlan_pass; rfl; rfl; assumption; simp only [Act.put, List.setIfInBounds_toArray, List.set_cons_zero, List.set_cons_succ]))
      apply wpPlan_call; rfl; rfl; rfl; rfl; kernel_rfl; exact HF.out _ (HC3.out.later (below_dn _ _)); rfl; rintro E w4 ⟨rfl, h4, k4⟩
      refine ⟨_, rfl, as_S (k4.cell HS hg) ?_⟩
      intro HS2
      have HC4 := Lib.hid h4
      have HK4 := Lib.hid (HK3.out.trans ((Keep.of (below_dn _ _)).trans k4))
      clear h4 k4 HS HS2 q1
      simp only [Act.put, List.setIfInBounds_toArray, List.set_cons_zero, List.set_cons_succ]
      apply wpPlan_done
      go_wp2_with fail
      go_ret
      exact HRES.out _ HK4.out HC4.out
end
end Go.Proofs.YtdfadmhomjcmeaaGreatDoor
