
/- The statements of check: no idle program. Plain first. -/
import Derived.Test.YtdobaililmkkcaaGreatDoorKz
import Derived.Test.YtdobaililmkkcaaGreatDoorTrR
namespace Culp.Tr
set_option linter.unusedSimpArgs false
set_option linter.unusedVariables false
open Go
def wX : Nd := ⟨10, 2, 0, ⟨#[]⟩, ⟨#[]⟩, ⟨#[]⟩, 0, 0⟩
def wV : Nd := ⟨4, 0, 0, ⟨#[120]⟩, ⟨#[]⟩, ⟨#[]⟩, 0, 0⟩
def wN : Nd := ⟨1, 0, 1, ⟨#[]⟩, ⟨#[]⟩, ⟨#[]⟩, 0, 0⟩
def wT : List Nd := [wX, wV, wN]
def wK : F := .cons wV .nil (.cons wN .nil .nil)
theorem w_eq : wT = wX :: wK.flat := rfl
theorem w_ok : (F.cons wX wK .nil).Ok := ⟨rfl, ⟨rfl, trivial, rfl, trivial, trivial⟩, trivial⟩
theorem w_may : ∀ y ∈ wT, may y = true := by
  intro y hy
  simp only [wT, List.mem_cons, List.not_mem_nil, or_false] at hy
  rcases hy with rfl | rfl | rfl <;> rfl
theorem w_check : check wT = (0, 0) := by rfl
theorem w_one : chk1 false wX wK [(⟨#[120]⟩, .dyn)] 0 = .ok [.int, .dyn, .int] := by rfl
theorem w_two : chk1 false wX wK [(⟨#[120]⟩, .text)] 0 = .error (23, 1) := by rfl
theorem w_three : chk1 false wX wK [] 0 = .error (22, 1) := by rfl
end Culp.Tr
namespace Go.Proofs.YtdobaililmkkcaaGreatDoor
set_option linter.unusedSimpArgs false
set_option linter.unusedVariables false
open Go.RowKit Go.Maps Culp
theorem w_args (t : Ty) (h : t.fits) : ArgsOk [⟨#[120]⟩] [t.str] ∧ envTo [⟨#[120]⟩] [t.str] 1 = [(⟨#[120]⟩, t)] := by
  refine ⟨⟨rfl, fun j hj => ?_⟩, ?_⟩
  · simp only [List.length_cons, List.length_nil] at hj
    obtain rfl : j = 0 := by omega
    exact ⟨by show isTy t.str.data.toList = true; rw [str_list]; exact isTy_enc t h, rfl⟩
  · show [(_, (tyOf t.str).getD .dyn)] = _
    rw [tyOf_str t h]; rfl
theorem lit_text (w : World) (a : ByteArray) : Txts (w.alloc (.cells #[.string a] 9)) (.slice (some ⟨w.heap.size, 0, none⟩) 1 1) [a] :=
  ⟨_, 1, rfl, Nat.le_refl _, fun _ => ⟨w.heap.size, 0, rfl, fun j s hj => by
    match j, hj with
    | 0, hj =>
      simp only [List.getElem?_cons_zero, Option.some.injEq] at hj
      subst hj
      rw [Nat.zero_add, World.cell?_alloc_at _ _ _ _ rfl]; rfl
    | j + 1, hj => simp at hj⟩⟩
/-- The known tree with a name of some type. -/
theorem w_call (w w0 : World) (g0 : Nat) (t : Ty) (h : t.fits) (hn : Nodes w0 (.slice (some ⟨g0, 0, none⟩) 3 3) Tr.wT) (hS : Sp w0) (hT : Tab w0) : Calls Tryz.prog 9 #[.slice (some ⟨g0, 0, none⟩) 3 3, .slice (some ⟨w0.heap.size, 0, none⟩) 1 1, .slice (some ⟨w0.heap.size + 1, 0, none⟩) 1 1] ((w0.alloc (.cells #[.string { data := #[120] }] 9)).alloc (.cells #[.string t.str] 9)) (fun E w' => ExprRes (Tr.chk1 false Tr.wX Tr.wK [(⟨#[120]⟩, t)] 0) ((w0.alloc (.cells #[.string { data := #[120] }] 9)).alloc (.cells #[.string t.str] 9)) E w') := by
  obtain ⟨h1, h2⟩ := w_args t h
  have hb1 : Below w0.heap.size w0 (w0.alloc (.cells #[.string { data := #[120] }] 9)) := (Below.refl _ _).alloc (Nat.le_refl _) _
  have hb2 : Below (w0.alloc (.cells #[.string { data := #[120] }] 9)).heap.size (w0.alloc (.cells #[.string { data := #[120] }] 9)) ((w0.alloc (.cells #[.string { data := #[120] }] 9)).alloc (.cells #[.string t.str] 9)) := (Below.refl _ _).alloc (Nat.le_refl _) _
  have hb := below_later hb2 hb1
  have ht := lit_text (w0.alloc (.cells #[.string { data := #[120] }] 9)) t.str
  rw [show (w0.alloc (.cells #[.string { data := #[120] }] 9)).heap.size = w0.heap.size + 1 by simp] at ht
  have := Expr_ok Tr.wT _ _ _ [⟨#[120]⟩] [t.str] _ (hn.later hb) ((lit_text w0 ⟨#[120]⟩).later hb2) ht (hS.later hb) (by decide) (by decide) h1 (hT.later hb) Tr.wX Tr.wK (by decide) (by decide) (by decide) Tr.w_check Tr.w_eq Tr.w_ok Tr.w_may
  rw [show ([⟨#[120]⟩] : List ByteArray).length = 1 from rfl, h2] at this
  exact this
set_option maxRecDepth 100000 in
set_option maxHeartbeats 3200000 in
theorem cworks_any (w : World) (hS : Sp w) (hT : Tab w) : Calls Tryz.prog 5 #[] w (Makes (.bool true) w) := by
  have hb1 : Below w.heap.size w (w.alloc (.cells #[.int .i8 10, .int .i64 2, .int .i64 0, .string ⟨#[]⟩, .string ⟨#[]⟩, .string ⟨#[]⟩, .int .i64 0, .int .i64 0, .int .i8 4, .int .i64 0, .int .i64 0, .string ⟨#[120]⟩, .string ⟨#[]⟩, .string ⟨#[]⟩, .int .i64 0, .int .i64 0, .int .i8 1, .int .i64 0, .int .i64 1, .string ⟨#[]⟩, .string ⟨#[]⟩, .string ⟨#[]⟩, .int .i64 0, .int .i64 0] 64)) := (Below.refl _ _).alloc (Nat.le_refl _) _
  have HB1 := Lib.hid hb1
  have HN1 := Lib.hid (lit_nodes w Tr.wT (#[.int .i8 10, .int .i64 2, .int .i64 0, .string ⟨#[]⟩, .string ⟨#[]⟩, .string ⟨#[]⟩, .int .i64 0, .int .i64 0, .int .i8 4, .int .i64 0, .int .i64 0, .string ⟨#[120]⟩, .string ⟨#[]⟩, .string ⟨#[]⟩, .int .i64 0, .int .i64 0, .int .i8 1, .int .i64 0, .int .i64 1, .string ⟨#[]⟩, .string ⟨#[]⟩, .string ⟨#[]⟩, .int .i64 0, .int .i64 0]) 64 rfl)
  have HS1 := Lib.hid (hS.later hb1)
  have HT1 := Lib.hid (hT.later hb1)
  have hsz : (w.alloc (.cells #[.int .i8 10, .int .i64 2, .int .i64 0, .string ⟨#[]⟩, .string ⟨#[]⟩, .string ⟨#[]⟩, .int .i64 0, .int .i64 0, .int .i8 4, .int .i64 0, .int .i64 0, .string ⟨#[120]⟩, .string ⟨#[]⟩, .string ⟨#[]⟩, .int .i64 0, .int .i64 0, .int .i8 1, .int .i64 0, .int .i64 1, .string ⟨#[]⟩, .string ⟨#[]⟩, .string ⟨#[]⟩, .int .i64 0, .int .i64 0] 64)).heap.size = w.heap.size + 1 := by simp
  have HSZ := Lib.hid hsz
  clear hb1 hS hT hsz
  go_enter Tryz.func5, Tryz.ntmps5
  go_wp2_with fail
  generalize w.alloc (.cells #[.int .i8 10, .int .i64 2, .int .i64 0, .string ⟨#[]⟩, .string ⟨#[]⟩, .string ⟨#[]⟩, .int .i64 0, .int .i64 0, .int .i8 4, .int .i64 0, .int .i64 0, .string ⟨#[120]⟩, .string ⟨#[]⟩, .string ⟨#[]⟩, .int .i64 0, .int .i64 0, .int .i8 1, .int .i64 0, .int .i64 1, .string ⟨#[]⟩, .string ⟨#[]⟩, .string ⟨#[]⟩, .int .i64 0, .int .i64 0] 64) = w1 at *
  have HC1 := Lib.hid (w_call w w1 w.heap.size .dyn (by unfold Ty.fits; decide) HN1.out HS1.out HT1.out)
  rw [HSZ.out, Tr.w_one] at HC1
  have hb2 : Below w1.heap.size w1 ((w1.alloc (.cells #[.string { data := #[120] }] 9)).alloc (.cells #[.string { data := #[63] }] 9)) := ((Below.refl _ _).alloc (Nat.le_refl _) _).alloc (by simp) _
  have HB2 := Lib.hid (below_later hb2 HB1.out)
  have HN2 := Lib.hid (HN1.out.later hb2)
  have HS2 := Lib.hid (HS1.out.later hb2)
  have HT2 := Lib.hid (HT1.out.later hb2)
  clear hb2 HB1 HN1 HS1 HT1 HSZ
  have HC2 : Hid (Calls Tryz.prog 9 #[.slice (some ⟨w.heap.size, 0, none⟩) 3 3, .slice (some ⟨w.heap.size + 1, 0, none⟩) 1 1, .slice (some ⟨w.heap.size + 1 + 1, 0, none⟩) 1 1] ((w1.alloc (.cells #[.string { data := #[120] }] 9)).alloc (.cells #[.string { data := #[63] }] 9)) (ExprRes (.ok [.int, .dyn, .int]) ((w1.alloc (.cells #[.string { data := #[120] }] 9)).alloc (.cells #[.string { data := #[63] }] 9)))) := HC1
  clear HC1
  refine HC2.out.mono ?_
  generalize (w1.alloc (.cells #[.string { data := #[120] }] 9)).alloc (.cells #[.string { data := #[63] }] 9) = w2 at *
  rintro E w3 ⟨v, rfl, ho, hb3⟩
  obtain ⟨g, cc, rfl, _, _, _, _, hc⟩ := own_read ho (by decide)
  have H0 := Lib.hid (hc 0 (.string Ty.int.str) rfl)
  have H1 := Lib.hid (hc 1 (.string Ty.dyn.str) rfl)
  have HB3 := Lib.hid (below_later hb3 HB2.out)
  have HN3 := Lib.hid (HN2.out.later hb3)
  have HS3 := Lib.hid (HS2.out.later hb3)
  have HT3 := Lib.hid (HT2.out.later hb3)
  clear ho hc hb3 HB2 HN2 HS2 HT2 HC2
  go_wp2_with fail
  have HC1 := Lib.hid (w_call w w3 w.heap.size .text (by unfold Ty.fits; decide) HN3.out HS3.out HT3.out)
  rw [Tr.w_two] at HC1
  have hb4 : Below w3.heap.size w3 ((w3.alloc (.cells #[.string { data := #[120] }] 9)).alloc (.cells #[.string { data := #[116] }] 9)) := ((Below.refl _ _).alloc (Nat.le_refl _) _).alloc (by simp) _
  have HB4 := Lib.hid (below_later hb4 HB3.out)
  have HN4 := Lib.hid (HN3.out.later hb4)
  have HS4 := Lib.hid (HS3.out.later hb4)
  have HT4 := Lib.hid (HT3.out.later hb4)
  have H04 := Lib.hid (cell_later hb4 H0.out)
  have H14 := Lib.hid (cell_later hb4 H1.out)
  clear hb4 HB3 HN3 HS3 HT3 H0 H1
  have HC2 : Hid (Calls Tryz.prog 9 #[.slice (some ⟨w.heap.size, 0, none⟩) 3 3, .slice (some ⟨w3.heap.size, 0, none⟩) 1 1, .slice (some ⟨w3.heap.size + 1, 0, none⟩) 1 1] ((w3.alloc (.cells #[.string { data := #[120] }] 9)).alloc (.cells #[.string { data := #[116] }] 9)) (ExprRes (.error (23, 1)) ((w3.alloc (.cells #[.string { data := #[120] }] 9)).alloc (.cells #[.string { data := #[116] }] 9)))) := HC1
  clear HC1
  refine HC2.out.mono ?_
  generalize (w3.alloc (.cells #[.string { data := #[120] }] 9)).alloc (.cells #[.string { data := #[116] }] 9) = w4 at *
  rintro E w5 ⟨-, rfl, hb5⟩
  have HB5 := Lib.hid (below_later hb5 HB4.out)
  have HN5 := Lib.hid (HN4.out.later hb5)
  have HS5 := Lib.hid (HS4.out.later hb5)
  have HT5 := Lib.hid (HT4.out.later hb5)
  have H05 := Lib.hid (cell_later hb5 H04.out)
  have H15 := Lib.hid (cell_later hb5 H14.out)
  clear hb5 HB4 HN4 HS4 HT4 H04 H14 HC2
  go_wp2_with fail
  refine (Expr_ok Tr.wT _ _ _ [] [] _ HN5.out (Txts.nil _) (Txts.nil _) HS5.out (by decide) (by decide) ⟨rfl, fun j hj => absurd hj (Nat.not_lt_zero _)⟩ HT5.out Tr.wX Tr.wK (by decide) (by decide) (by decide) Tr.w_check Tr.w_eq Tr.w_ok Tr.w_may).mono ?_
  rw [show envTo [] [] ([] : List ByteArray).length = [] from rfl, Tr.w_three]
  rintro E w6 ⟨-, rfl, hb6⟩
  have HB6 := Lib.hid (below_later hb6 HB5.out)
  have q0 : w6.cell? ⟨g, 0, none⟩ = some (.string { data := #[105] }) := cell_later hb6 H05.out
  have q1 : w6.cell? ⟨g, 1, none⟩ = some (.string { data := #[63] }) := cell_later hb6 H15.out
  clear hb6 HB5 HN5 HS5 HT5 H05 H15
  go_wp2_with fail
  go_ret
  exact Makes.mk (by first | rfl | (go_light; rfl) | (simp)) HB6.out
end Go.Proofs.YtdobaililmkkcaaGreatDoor

/- The statements of check: what Expr answers, whatever comes in; texts that are the same; what is too long. -/
namespace Go.Proofs.YtdobaililmkkcaaGreatDoor
set_option linter.unusedSimpArgs false
set_option linter.unusedVariables false
open Go.RowKit Go.Maps Culp
/-- What Expr answers. -/
def ExprAny (T : List Nd) (N S : List ByteArray) (w : World) (E : Ending) (w' : World) : Prop :=
  (∃ e p : Int, e ≠ 0 ∧ Makes (.tuple #[.slice none 0 0, .int .i64 e, .int .i64 p]) w E w') ∨
  ∃ (x : Nd) (ks : Tr.F) (ts : List Ty), T = x :: ks.flat ∧ (Tr.F.cons x ks .nil).Ok ∧ (∀ y ∈ T, Tr.may y = true) ∧ ks.hgt + 1 ≤ 64 ∧ T.length ≤ 4096 ∧ ArgsOk N S ∧ Tr.chk1 false x ks (envTo N S N.length) 0 = .ok ts ∧
    ∃ v, E = .returned (.tuple #[v, .int .i64 0, .int .i64 0]) ∧ w'.ownsRow w.heap.size 9 1 v ts.length (strs ts) ∧ Below w.heap.size w w'
theorem Expr_any (T : List Nd) (tv nv sv : Value) (N S : List ByteArray) (w : World) (hn : Nodes w tv T) (hN : Txts w nv N) (hS : Txts w sv S) (hSp : Sp w) (hTab : Tab w) (hz : ∀ s ∈ N, s.size ≤ 140737488351232) (hNl : N.length ≤ 1000000000) (hzT : ∀ x ∈ T, x.s.size ≤ 140737488351232) (hkT : ∀ x ∈ T, x.kids ≤ 9223372036854775807) :
    Calls Tryz.prog 9 #[tv, nv, sv] w (ExprAny T N S w) := by
  by_cases hlen : N.length = S.length
  · by_cases ha : ∀ j, j < N.length → argOk N S j
    · by_cases hc : (Tr.check T).1 = 0
      · obtain ⟨hl, x, ks, hT, hO, hm, hh⟩ := Tr.F.of_check hc
        have hcc : Tr.check T = (0, 0) := by rw [hT]; exact Tr.F.check_one (by rw [← hT]; exact hl) hO (by rw [← hT]; exact hm) hh
        refine (Expr_ok T tv nv sv N S w hn hN hS hSp hz hNl ⟨hlen, ha⟩ hTab x ks (by omega) hzT hkT hcc hT hO hm).mono fun E w' h => ?_
        unfold ExprRes at h
        split at h
        · rename_i b _
          exact .inl ⟨b.1, b.2, h.1, h.2⟩
        · rename_i ts hts
          exact .inr ⟨x, ks, ts, hT, hO, hm, hh, hl, ⟨hlen, ha⟩, hts, h⟩
      · exact (Expr_tree T tv nv sv N S w hn hN hS hSp hz hNl ⟨hlen, ha⟩ hzT hkT hc).mono fun E w' h => .inl ⟨_, _, by omega, h⟩
    · exact (Expr_args T tv nv sv N S w hn hN hS hSp hz hNl hlen ha).mono fun E w' h => .inl ⟨1, 0, by decide, h⟩
  · exact (Expr_short tv nv sv N S w hN hS hlen).mono fun E w' h => .inl ⟨1, 0, by decide, h⟩
theorem Txts.at_ {w : World} {v : Value} {L : List ByteArray} (h : Txts w v L) {k : Nat} (hk : k < L.length) : ∃ g o c, v = .slice (some ⟨g, o, none⟩) L.length c ∧ w.cell? ⟨g, o + k, none⟩ = some (.string L[k]) := by
  obtain ⟨A, c, rfl, _, h3⟩ := h
  obtain ⟨g, o, rfl, hc⟩ := h3 (by omega)
  exact ⟨g, o, c, rfl, hc k _ (List.getElem?_eq_getElem hk)⟩
theorem Txts.form {w : World} {v : Value} {L : List ByteArray} (h : Txts w v L) : ∃ A c, v = .slice A L.length c := by
  obtain ⟨A, c, rfl, _⟩ := h
  exact ⟨A, c, rfl⟩
theorem Txts.own {w : World} {v : Value} {L : List ByteArray} {base n : Nat} {e : TypeId} (h : w.ownsRow base e 1 v n (L.map Value.string)) : Txts w v L := by
  obtain ⟨A, c, rfl, h2, _, h4⟩ := Nms.own h
  refine ⟨A, c, rfl, h2, fun h0 => ?_⟩
  obtain ⟨A', c', e1, _, h3, _⟩ := Nms.own h
  simp only [Value.slice.injEq] at e1
  obtain ⟨rfl, _, rfl⟩ := e1
  cases A with
  | none =>
    have := (h3 rfl).1
    rw [this] at h0
    exact absurd h0 (Nat.lt_irrefl _)
  | some b =>
    obtain ⟨g, rfl, _, hc⟩ := h4 b rfl
    exact ⟨g, 0, rfl, fun j s hj => by rw [Nat.zero_add]; exact hc j s hj⟩
/-- Some of the texts. -/
theorem Txts.cut {w : World} {g o n c : Nat} {L : List ByteArray} (h : Txts w (.slice (some ⟨g, o, none⟩) n c) L) (p m k : Nat) (S : List ByteArray) (hS : (L.drop p).take m = S) (hm : S.length = m) (hk : m ≤ k) : Txts w (.slice (some ⟨g, o + p, none⟩) m k) S := by
  subst hm
  refine ⟨_, k, rfl, hk, fun h0 => ⟨g, o + p, rfl, fun j s hj => ?_⟩⟩
  have hl : 0 < L.length := by
    have := congrArg List.length hS
    rw [List.length_take, List.length_drop] at this
    omega
  obtain ⟨A, c', e1, _, h3⟩ := h
  obtain ⟨g', o', e2, hc⟩ := h3 hl
  simp only [Value.slice.injEq] at e1
  obtain ⟨rfl, _, _⟩ := e1
  simp only [Option.some.injEq, Addr.mk.injEq] at e2
  obtain ⟨rfl, rfl, _⟩ := e2
  have hj2 : L[p + j]? = some s := by
    rw [← hS, List.getElem?_take] at hj
    split at hj
    · rwa [List.getElem?_drop] at hj
    · cases hj
  rw [Nat.add_assoc]
  exact hc _ s hj2
set_option maxRecDepth 100000 in
set_option maxHeartbeats 1600000 in
theorem EqTexts_txts (D : List ByteArray) (u v : Value) (w : World) (hu : Txts w u D) (hv : Txts w v D) (hD : D.length ≤ 1000000000) :
    Calls Tryz.prog 12 #[u, v] w (Makes (.bool true) w) := by
  have HU := Lib.hid hu
  have HV := Lib.hid hv
  obtain ⟨A, c, rfl⟩ := hu.form
  obtain ⟨B, d, rfl⟩ := hv.form
  clear hu hv
  go_enter Tryz.func12, Tryz.ntmps12
  go_wp2_with fail
  go_loopw [5] (fun i wr => ∃ k : Nat, k ≤ D.length ∧ i = .int .i64 k ∧ Hid (Below w.heap.size w wr)) (fun i _ => D.length - (intOf i).toNat)
  case atStart => exact ⟨0, Nat.zero_le _, rfl, Lib.hid (Below.refl _ _)⟩
  case round =>
    obtain ⟨k, hk, rfl, HB⟩ := hrel
    by_cases hlt : k < D.length
    · obtain ⟨g, o, _, e1, a0⟩ := (HU.out.later HB.out).at_ hlt
      obtain ⟨g2, o2, _, e2, b0⟩ := (HV.out.later HB.out).at_ hlt
      simp only [Value.slice.injEq] at e1 e2
      obtain ⟨rfl, _, rfl⟩ := e1
      obtain ⟨rfl, _, rfl⟩ := e2
      generalize D[k] = x at *
      go_wp2_with fail
      refine wp_region_plan (S := fun w' => w'.cell? ⟨g, o + k, none⟩ = some (.string x) ∧ w'.cell? ⟨g2, o2 + k, none⟩ = some (.string x))
        [(0, true), (1, true), (2, true), (3, true), (4, true), (5, true), (6, true), (7, true), (8, true)] (by kernel_rfl) (by kernel_rfl) (by kernel_rfl) (fun _ _ _ _ _ h => h) ⟨a0, b0⟩ ?_
      clear a0 b0
      intro HP
      repeat (first | (apply wpPlan_look; rfl; rfl; (intro wq hq; (try dsimp only at hq); go_split_ands; go_simp; (try rw [if_neg (by omega)]); (try rw [if_pos (by omega)]); try with_reducible rfl); simp only [Act.put, List.setIfInBounds_toArray, List.set_cons_zero, List.set_cons_succ]) | (apply wpPlan_skip; rfl; rfl; simp only [Act.put, List.setIfInBounds_toArray, List.set_cons_zero, List.set_cons_succ]) | (apply wpPlan_pass; rfl; rfl; assumption; simp only [Act.put, List.setIfInBounds_toArray, List.set_cons_zero, List.set_cons_succ]))
      apply wpPlan_done
      clear HP
      have HB2 := Lib.hid HB.out.drew
      go_wp2_with fail
      go_roundw
      case rel => exact ⟨k + 1, by omega, by go_num, HB2⟩
      case measure => simp [intOf]; omega
    · go_wp2_with fail
      go_ret
      exact Makes.mk rfl HB.out
set_option maxRecDepth 100000 in
set_option maxHeartbeats 1600000 in
/-- Is a case too long? -/
theorem clong_any (T : List Nd) (N S : List ByteArray) (A1 A2 A3 : Option Addr) (c1 c2 c3 : Nat) (w : World) : Calls Tryz.prog 6 #[.agg #[.slice A1 T.length c1, .slice A2 N.length c2, .slice A3 S.length c3]] w (Makes (.bool (decide (400 < T.length) || decide (100 < N.length) || decide (100 < S.length))) w) := by
  go_enter Tryz.func6, Tryz.ntmps6
  have hb := fun o => (Below.refl w.heap.size w).alloc (Nat.le_refl _) o
  rcases Nat.lt_or_ge 400 T.length with h1 | h1
  · go_wp2_with fail
    go_ret
    exact Makes.mk (by simp [h1]) (hb _)
  · have h1' : ¬ 400 < T.length := by omega
    rcases Nat.lt_or_ge 100 N.length with h2 | h2
    · go_wp2_with fail
      go_ret
      exact Makes.mk (by simp [h1', h2]) (hb _)
    · have h2' : ¬ 100 < N.length := by omega
      rcases Nat.lt_or_ge 100 S.length with h3 | h3
      · go_wp2_with fail
        go_ret
        exact Makes.mk (by simp [h1', h2', h3]; omega) (hb _)
      · have h3' : ¬ 100 < S.length := by omega
        go_wp2_with fail
        go_ret
        exact Makes.mk (by simp [h1', h2', h3']; omega) (hb _)
end Go.Proofs.YtdobaililmkkcaaGreatDoor
