
/- Walks of insert: any part; what Expr answers. -/
import Derived.Test.YtdfadmhomjcmeaaGreatDoorPc
import Derived.Test.YtdfadmhomjcmeaaGreatDoorLb
namespace Go.Proofs.YtdfadmhomjcmeaaGreatDoor
set_option linter.unusedSimpArgs false
set_option linter.unusedVariables false
open Go.RowKit Go.Maps Culp
theorem part_any (T : List Nd) (tv : Value) (W : World) (ts : Nat → Ty) (c : Nat) (m : ByteArray) (yv : Value) (ys : List ByteArray)
    (hN : Nodes W tv T) (hTl : T.length ≤ 1000000) (hm : ∀ y ∈ T, Tr.may y = true) (hSp : Sp W) (hY : Nms W yv ys) (hys : ∀ q, q < T.length → ys[q]? = some (ts q).str ∧ (ts q).fits) : ∀ n, PartI T W ts c m tv yv n
  | 0 => fun _ _ _ _ _ _ _ _ _ _ _ hh => absurd hh (Nat.not_lt_zero _)
  | n + 1 => part_step T tv W ts c m yv ys n hN hTl hm hSp hY hys (part_any T tv W ts c m yv ys hN hTl hm hSp hY hys n)
theorem env_names (N S : List ByteArray) : ∀ k, k ≤ N.length → (envTo N S k).map Prod.fst = (N.take k).reverse
  | 0, _ => rfl
  | k + 1, h => by
    have hk : N.getD k ByteArray.empty = N[k] := by rw [List.getD_eq_getElem?_getD, List.getElem?_eq_getElem (by omega)]; rfl
    show N.getD k ByteArray.empty :: (envTo N S k).map Prod.fst = _
    rw [env_names N S k (by omega), List.take_succ_eq_append_getElem (by omega), List.reverse_append, hk]
    rfl
/-- What was taken: the term, its type, its sites: all of it new. -/
def IMade (x : Nd) (ks : Tr.F) (L : List Ty) (N : List ByteArray) (m : ByteArray) (w : World) (E : Ending) (w' : World) : Prop :=
  ∃ v sv, E = .returned (.tuple #[v, .string (L.headD .dyn).str, sv, .int .i64 0, .int .i64 0]) ∧
    w'.ownsRow w.heap.size 38 8 v (Ins.ins1 (fun q => L.getD q .dyn) x ks N.reverse 0 0).1.length (nfl (Ins.ins1 (fun q => L.getD q .dyn) x ks N.reverse 0 0).1) ∧
    w'.ownsRow w.heap.size 41 5 sv (Ins.ins1 (fun q => L.getD q .dyn) x ks N.reverse 0 0).2.length ((Ins.ins1 (fun q => L.getD q .dyn) x ks N.reverse 0 0).2.flatMap (scells m)) ∧ Below w.heap.size w w'
section
variable (m : ByteArray) (T : List Nd) (tv nv tyv : Value) (N S : List ByteArray) (w : World)
set_option maxRecDepth 100000 in
set_option maxHeartbeats 3200000 in
theorem IExpr_bad (hm : Tx.isName m.data.toList = true) (hms : m.size ≤ 140737488351232) (hSp : Sp w) (e p : Int) (HC : ∀ w', Below w.heap.size w w' → Calls Tryz.prog 6 #[tv, nv, tyv] w' (fun E w2 => e ≠ 0 ∧ Makes (.tuple #[.slice none 0 0, .int .i64 e, .int .i64 p]) w' E w2)) :
    Calls Tryz.prog 7 #[.string m, tv, nv, tyv] w (fun E w' => e ≠ 0 ∧ Makes (.tuple #[.slice none 0 0, .string ⟨#[]⟩, .slice none 0 0, .int .i64 e, .int .i64 p]) w E w') := by
  have HI := Lib.hid (tIsName_any m w hms hSp)
  rw [hm] at HI
  have HCH := Lib.hid HC
  clear hm HC
  go_enter Tryz.func7, Tryz.ntmps7
  go_wp2_with fail
  refine HI.out.mono ?_
  rintro E w1 ⟨rfl, hb1⟩
  have HB1 := Lib.hid hb1
  clear hb1
  go_wp2_with fail
  refine (HCH.out _ HB1.out).mono ?_
  rintro E w2 ⟨he, rfl, hb2⟩
  have HB2 := Lib.hid (below_later hb2 HB1.out)
  have q : (e != 0) = true := by simpa using he
  have HE := Lib.hid he
  clear hb2 he
  go_wp2_with fail
  refine bodyPost_ret (v := .tuple #[.slice none 0 0, .string ⟨#[]⟩, .slice none 0 0, .int .i64 e, .int .i64 p]) (by simp [results, Tryz.results7, go_sem]) rfl ?_
  exact ⟨HE.out, Makes.mk rfl HB2.out⟩
set_option maxRecDepth 100000 in
set_option maxHeartbeats 3200000 in
theorem IExpr_made (x : Nd) (ks : Tr.F) (L : List Ty) (hm : Tx.isName m.data.toList = true) (hms : m.size ≤ 140737488351232) (hn : Nodes w tv T) (hN : Txts w nv N) (hSp : Sp w) (hNl : N.length ≤ 500000)
    (hT : T = x :: ks.flat) (hO : (Tr.F.cons x ks .nil).Ok) (hmy : ∀ y ∈ T, Tr.may y = true) (hg : ks.hgt + 1 ≤ 64) (hTl : T.length ≤ 4096) (hL : Tr.chk1 false x ks (envTo N S N.length) 0 = .ok L)
    (HC : ∀ w', Below w.heap.size w w' → Calls Tryz.prog 6 #[tv, nv, tyv] w' (ExprRes (.ok L) w')) :
    Calls Tryz.prog 7 #[.string m, tv, nv, tyv] w (IMade x ks L N m w) := by
  have HI := Lib.hid (tIsName_any m w hms hSp)
  rw [hm] at HI
  have HCH := Lib.hid HC
  obtain ⟨K, hK, hKL⟩ : ∃ K, Tr.chk false (.cons x ks .nil) (fun _ => envTo N S N.length) 0 0 = .ok K ∧ (K.map Prod.snd).flatten = L := by
    unfold Tr.chk1 at hL
    cases hc : Tr.chk false (.cons x ks .nil) (fun _ => envTo N S N.length) 0 0 with
    | error b => rw [hc] at hL; cases hL
    | ok K => rw [hc] at hL; injection hL with hL; exact ⟨K, rfl, hL⟩
  have hLl : L.length = T.length := by
    rw [← hKL, Tr.F.chk_len false _ _ 0 0 K hK, hT]
    simp [Tr.F.flat]
  have hty : Ins.Typ1 (fun q => L.getD q .dyn) x ks (envTo N S N.length) 0 := ⟨K, hK, fun j t hj => by
    rw [hKL] at hj
    rw [Nat.zero_add]
    show L.getD j .dyn = t
    rw [List.getD_eq_getElem?_getD, hj]; rfl⟩
  have hfit : ∀ t ∈ L, t.fits := fun t ht => by
    rw [← hKL, List.mem_flatten] at ht
    obtain ⟨l, hl, htl⟩ := ht
    obtain ⟨a, ha, rfl⟩ := List.mem_map.1 hl
    exact Ins.ifits _ _ _ _ K hK a ha t htl
  have HPT : Hid (∀ (W : World) (c : Nat) (yv : Value), Nodes W tv T → Sp W → Nms W yv (L.map Ty.str) → ∀ n, PartI T W (fun q => L.getD q .dyn) c m tv yv n) := Lib.hid (fun W c yv h1 h2 h3 n => part_any T tv W (fun q => L.getD q .dyn) c m yv (L.map Ty.str) h1 (by omega) hmy h2 h3 (fun q hq => by
    have hq' : q < L.length := by omega
    have e : L.getD q .dyn = L[q] := by rw [List.getD_eq_getElem?_getD, List.getElem?_eq_getElem hq']; rfl
    refine ⟨?_, ?_⟩
    · rw [List.getElem?_map, List.getElem?_eq_getElem hq']
      simp only [e]; rfl
    · simp only [e]
      exact hfit _ (List.getElem_mem hq')) n)
  obtain ⟨t0, L', hLc⟩ : ∃ t0 L', L = t0 :: L' := by
    cases L with
    | nil => rw [hT] at hLl; simp at hLl
    | cons t0 L' => exact ⟨t0, L', rfl⟩
  have HLC := Lib.hid hLc
  have HLL := Lib.hid hLl
  have HTY := Lib.hid hty
  have HT := Lib.hid hT
  have HO := Lib.hid hO
  have HND := Lib.hid hn
  have HNX := Lib.hid hN
  have HSP := Lib.hid hSp
  obtain ⟨A, C, rfl, hlc, -⟩ := hn
  obtain ⟨An, Cn, rfl, hNc, -⟩ := hN
  clear hm HC hK hKL hfit hmy hL hLl hty hT hO hSp hLc
  go_enter Tryz.func7, Tryz.ntmps7
  go_wp2_with fail
  refine HI.out.mono ?_
  rintro E w1 ⟨rfl, hb1⟩
  have HB1 := Lib.hid hb1
  clear hb1
  go_wp2_with fail
  refine (HCH.out _ HB1.out).mono ?_
  rintro E w2 ⟨v2, rfl, hown2, hb2⟩
  have HB2 := Lib.hid (below_later hb2 HB1.out)
  have HY2 : Hid (Nms w2 v2 (L.map Ty.str)) := Lib.hid (Nms.own (n := L.length) (by rw [List.map_map]; exact hown2))
  obtain ⟨Ay, Cy, rfl⟩ := own_shape hown2
  obtain ⟨gy, Cy', e1, _, _, _, _, hcy⟩ := own_read hown2 (by rw [HLC.out]; simp)
  simp only [Value.slice.injEq] at e1
  obtain ⟨rfl, _, rfl⟩ := e1
  have hy0 : w2.cell? ⟨gy, 0, none⟩ = some (.string (L.headD .dyn).str) := hcy 0 _ (by rw [HLC.out]; rfl)
  have HY0 := Lib.hid hy0
  have hb3 : Below w2.heap.size w2 (w2.alloc (.cells #[.string m, .slice A T.length C, .slice (some ⟨gy, 0, none⟩) L.length Cy, .slice none 0 0] 88)) := (Below.refl _ _).alloc (Nat.le_refl _) _
  have HI3 : Hid (InAt w2 w2.heap.size m (.slice A T.length C) (.slice (some ⟨gy, 0, none⟩) L.length Cy) (.slice none 0 0) [] (w2.alloc (.cells #[.string m, .slice A T.length C, .slice (some ⟨gy, 0, none⟩) L.length Cy, .slice none 0 0] 88))) := Lib.hid ⟨(MapKept.heap_alloc w2 _).1, World.ownsRow_nil _ _ _ _, hb3, Nat.le_refl _⟩
  have HNV : Hid (NamesV w2 (w2.alloc (.cells #[.string m, .slice A T.length C, .slice (some ⟨gy, 0, none⟩) L.length Cy, .slice none 0 0] 88)) (.slice An N.length N.length) N) := Lib.hid (by
    have h2 := HNX.out.later HB2.out
    have h3 : NamesV w2 w2 (.slice An N.length Cn) N := ⟨h2, fun h0 g hg => by
      obtain ⟨A', C', e, _, h4⟩ := h2
      obtain ⟨g', o, e2, hc⟩ := h4 h0
      simp only [Value.slice.injEq] at e
      obtain ⟨rfl, _, _⟩ := e
      subst e2
      have hg' : g' = g := by
        have : some g' = some g := hg
        injection this
      subst hg'
      obtain ⟨s, hs⟩ : ∃ s, N[0]? = some s := ⟨_, List.getElem?_eq_getElem h0⟩
      exact .inl (World.block_lt_of_cell? _ _ (hc 0 s hs))⟩
    exact (h3.later hb3).full)
  have HPP := Lib.hid (HPT.out w2 w2.heap.size (.slice (some ⟨gy, 0, none⟩) L.length Cy) (HND.out.later HB2.out) (HSP.out.later HB2.out) HY2.out (ks.hgt + 1) x ks [] [] 0 (envTo N S N.length) N _ _ [] _ (Nat.lt_succ_self _) (by rw [HT.out]; simp) rfl HO.out HTY.out (by rw [env_names N S N.length (Nat.le_refl _), List.take_length]) HNV.out (by omega) HI3.out (by
    have h1 : T.length = 1 + ks.flat.length := by rw [HT.out]; simp; omega
    simp only [List.length_nil]
    omega))
  have HB3 := Lib.hid (below_later hb3 HB2.out)
  clear hown2 hb2 hcy hy0 hb3 HNV HPT HCH HI HTY
  go_wp2_with fail
  generalize w2.alloc (.cells #[.string m, .slice A T.length C, .slice (some ⟨gy, 0, none⟩) L.length Cy, .slice none 0 0] 88) = w3 at *
  refine HPP.out.mono ?_
  rintro E w7 ⟨v7, sv7, rfl, hv7, hI7, hK7, hN7⟩
  simp only [List.nil_append] at hI7
  have c3 := hI7.c3
  have y0 := cell_later hI7.low HY0.out
  have HS7 := Lib.hid (own_base hI7.own HB2.out.size)
  have HV7 := Lib.hid (own_base hv7 HB2.out.size)
  have HB7 := Lib.hid (below_later hI7.low HB2.out)
  have hlL : 0 < L.length := by rw [HLC.out]; simp
  clear hv7 hI7 hK7 hN7 HPP HI3 HB3
  go_wp2_with fail
  go_quiet (fail)
  go_wp2_with fail
  refine bodyPost_ret (v := .tuple #[v7, .string (L.headD .dyn).str, sv7, .int .i64 0, .int .i64 0]) (by simp [results, Tryz.results7, go_sem]) rfl ?_
  exact ⟨v7, sv7, rfl, own_later HV7.out (below_dn _ _), own_later HS7.out (below_dn _ _), below_later (below_dn _ _) HB7.out⟩
end
end Go.Proofs.YtdfadmhomjcmeaaGreatDoor

/- The statements of insert: what Expr answers, whatever comes in; no idle program; what is too long. Plain first. -/
namespace Culp.Ins
set_option linter.unusedSimpArgs false
set_option linter.unusedVariables false
open Go Culp Culp.Tr
def jX : Nd := ⟨10, 2, 0, ⟨#[]⟩, ⟨#[]⟩, ⟨#[]⟩, 0, 0⟩
def jV : Nd := ⟨4, 0, 0, ⟨#[120]⟩, ⟨#[]⟩, ⟨#[]⟩, 2, 3⟩
def jN : Nd := ⟨1, 0, 1, ⟨#[]⟩, ⟨#[]⟩, ⟨#[]⟩, 0, 0⟩
def jT : List Nd := [jX, jV, jN]
def jK : F := .cons jV .nil (.cons jN .nil .nil)
theorem j_eq : jT = jX :: jK.flat := rfl
theorem j_ok : (F.cons jX jK .nil).Ok := ⟨rfl, ⟨rfl, trivial, rfl, trivial, trivial⟩, trivial⟩
theorem j_may : ∀ y ∈ jT, may y = true := by
  intro y hy
  simp only [jT, List.mem_cons, List.not_mem_nil, or_false] at hy
  rcases hy with rfl | rfl | rfl <;> rfl
theorem j_check : check jT = (0, 0) := by rfl
theorem j_one : chk1 false jX jK [(⟨#[120]⟩, .dyn)] 0 = .ok [.int, .dyn, .int] := by rfl
theorem j_made : ins1 (fun q => ([Ty.int, .dyn, .int] : List Ty).getD q .dyn) jX jK ([⟨#[120]⟩] : List ByteArray).reverse 0 0 = ([jX, ⟨30, 1, 1, ⟨#[]⟩, Ty.dyn.str, Ty.int.str, 2, 3⟩, ⟨4, 0, 0, ⟨#[]⟩, ⟨#[]⟩, ⟨#[]⟩, 2, 3⟩, jN], [(2, 3, 8)]) := by rfl
end Culp.Ins
namespace Go.Proofs.YtdfadmhomjcmeaaGreatDoor
set_option linter.unusedSimpArgs false
set_option linter.unusedVariables false
open Go.RowKit Go.Maps Culp
/-- Cells of a row of nodes. -/
theorem node_row {w : World} {B n : Nat} {v : Value} {T : List Nd} (h : w.ownsRow B 38 8 v n (nfl T)) (h0 : 0 < T.length) : ∃ g C, v = .slice (some ⟨g, 0, none⟩) T.length C ∧ n = T.length ∧ NodesAt w g 0 T ∧ B ≤ g ∧ T.length ≤ C := by
  have hl := h.1
  rw [nfl_len] at hl
  have hn : n = T.length := by omega
  subst hn
  rcases h.2 with ⟨_, h1⟩ | ⟨g, cap, cur, rfl, hB, hh, hc, hm, hsz, htk⟩
  · omega
  · refine ⟨g, cap, rfl, rfl, fun i x hx j u hu => ?_, hB, hc⟩
    have hj : j < 8 := by have := (List.getElem?_eq_some_iff.1 hu).1; simpa [Nd.cells] using this
    have h1 := flat_get (f := Nd.cells) (n := 8) T i j x u (fun _ _ => rfl) hj hx hu
    rw [show T.flatMap Nd.cells = nfl T from rfl, ← htk, List.getElem?_take] at h1
    rw [Nat.zero_add]
    split at h1
    · simp only [World.cell?, hh]; simpa using h1
    · cases h1
set_option maxRecDepth 100000 in
set_option maxHeartbeats 3200000 in
theorem jworks_any (w : World) (hS : Sp w) (hT : Tab w) : Calls Tryz.prog 5 #[] w (Makes (.bool true) w) := by
  have hb1 : Below w.heap.size w (w.alloc (.cells #[.int .i8 10, .int .i64 2, .int .i64 0, .string ⟨#[]⟩, .string ⟨#[]⟩, .string ⟨#[]⟩, .int .i64 0, .int .i64 0, .int .i8 4, .int .i64 0, .int .i64 0, .string ⟨#[120]⟩, .string ⟨#[]⟩, .string ⟨#[]⟩, .int .i64 2, .int .i64 3, .int .i8 1, .int .i64 0, .int .i64 1, .string ⟨#[]⟩, .string ⟨#[]⟩, .string ⟨#[]⟩, .int .i64 0, .int .i64 0] 38)) := (Below.refl _ _).alloc (Nat.le_refl _) _
  have HB1 := Lib.hid hb1
  have HN1 := Lib.hid (lit_nodes w Ins.jT (#[.int .i8 10, .int .i64 2, .int .i64 0, .string ⟨#[]⟩, .string ⟨#[]⟩, .string ⟨#[]⟩, .int .i64 0, .int .i64 0, .int .i8 4, .int .i64 0, .int .i64 0, .string ⟨#[120]⟩, .string ⟨#[]⟩, .string ⟨#[]⟩, .int .i64 2, .int .i64 3, .int .i8 1, .int .i64 0, .int .i64 1, .string ⟨#[]⟩, .string ⟨#[]⟩, .string ⟨#[]⟩, .int .i64 0, .int .i64 0]) 38 rfl)
  have HSZ : Hid ((w.alloc (.cells #[.int .i8 10, .int .i64 2, .int .i64 0, .string ⟨#[]⟩, .string ⟨#[]⟩, .string ⟨#[]⟩, .int .i64 0, .int .i64 0, .int .i8 4, .int .i64 0, .int .i64 0, .string ⟨#[120]⟩, .string ⟨#[]⟩, .string ⟨#[]⟩, .int .i64 2, .int .i64 3, .int .i8 1, .int .i64 0, .int .i64 1, .string ⟨#[]⟩, .string ⟨#[]⟩, .string ⟨#[]⟩, .int .i64 0, .int .i64 0] 38)).heap.size = w.heap.size + 1) := Lib.hid (by simp)
  have HS1 := Lib.hid (hS.later hb1)
  have HT1 := Lib.hid (hT.later hb1)
  clear hb1 hS hT
  go_enter Tryz.func5, Tryz.ntmps5
  go_wp2_with fail
  generalize w.alloc (.cells #[.int .i8 10, .int .i64 2, .int .i64 0, .string ⟨#[]⟩, .string ⟨#[]⟩, .string ⟨#[]⟩, .int .i64 0, .int .i64 0, .int .i8 4, .int .i64 0, .int .i64 0, .string ⟨#[120]⟩, .string ⟨#[]⟩, .string ⟨#[]⟩, .int .i64 2, .int .i64 3, .int .i8 1, .int .i64 0, .int .i64 1, .string ⟨#[]⟩, .string ⟨#[]⟩, .string ⟨#[]⟩, .int .i64 0, .int .i64 0] 38) = w1 at *
  have hbt : Below w1.heap.size w1 (w1.alloc (.cells #[.string { data := #[120] }] 9)) := (Below.refl _ _).alloc (Nat.le_refl _) _
  have hbs : Below (w1.alloc (.cells #[.string { data := #[120] }] 9)).heap.size (w1.alloc (.cells #[.string { data := #[120] }] 9)) ((w1.alloc (.cells #[.string { data := #[120] }] 9)).alloc (.cells #[.string { data := #[63] }] 9)) := (Below.refl _ _).alloc (Nat.le_refl _) _
  have hb2 := below_later hbs hbt
  have HN2 := Lib.hid (HN1.out.later hb2)
  have HX2 := Lib.hid ((lit_text w1 ⟨#[120]⟩).later hbs)
  have HY2 := Lib.hid (lit_text (w1.alloc (.cells #[.string { data := #[120] }] 9)) ⟨#[63]⟩)
  have HS2 := Lib.hid (HS1.out.later hb2)
  have HT2 := Lib.hid (HT1.out.later hb2)
  have HB2 := Lib.hid (below_later hb2 HB1.out)
  have hsz : (w1.alloc (.cells #[.string { data := #[120] }] 9)).heap.size = w1.heap.size + 1 := by simp
  rw [hsz] at HY2
  rw [HSZ.out] at HX2 HY2
  clear hb2 hbs hbt HN1 HS1 HT1 HB1 hsz
  generalize (w1.alloc (.cells #[.string { data := #[120] }] 9)).alloc (.cells #[.string { data := #[63] }] 9) = w2 at *
  obtain ⟨a1, a2⟩ := w_args .dyn (by unfold Ty.fits; decide)
  have HX := Lib.hid (IExpr_made ⟨#[109]⟩ Ins.jT _ _ _ [⟨#[120]⟩] [Ty.dyn.str] w2 Ins.jX Ins.jK [.int, .dyn, .int] (by decide) (by decide) HN2.out HX2.out HS2.out (by decide) Ins.j_eq Ins.j_ok Ins.j_may (by decide) (by decide) (by
    rw [show ([⟨#[120]⟩] : List ByteArray).length = 1 from rfl, a2]
    exact Ins.j_one) (fun w' hb => by
    have := Expr_ok Ins.jT _ _ _ [⟨#[120]⟩] [Ty.dyn.str] w' (HN2.out.later hb) (HX2.out.later hb) (HY2.out.later hb) (HS2.out.later hb) (by decide) (by decide) a1 (HT2.out.later hb) Ins.jX Ins.jK (by decide) (by decide) (by decide) Ins.j_check Ins.j_eq Ins.j_ok Ins.j_may
    rw [show ([⟨#[120]⟩] : List ByteArray).length = 1 from rfl, a2, Ins.j_one] at this
    exact this))
  clear a1 a2 HN2 HX2 HY2 HS2 HT2
  refine HX.out.mono ?_
  rintro E w3 ⟨v, sv, he, hv, hs, hb3⟩
  obtain rfl : E = .returned (.tuple #[v, .string ⟨#[105]⟩, sv, .int .i64 0, .int .i64 0]) := he
  rw [Ins.j_made] at hv hs
  have HB3 := Lib.hid (below_later hb3 HB2.out)
  obtain ⟨g, C, rfl, -, hM, -⟩ := node_row hv (by decide)
  obtain ⟨n0, n1, n2, n3, n4, n5, n6, n7⟩ := hM.at_ (i := 1) rfl
  obtain ⟨gs, Cs, rfl, s0, s1, s2, s3, s4⟩ : ∃ gs Cs, sv = .slice (some ⟨gs, 0, none⟩) 1 Cs ∧ w3.cell? ⟨gs, 0, none⟩ = some (.string ⟨#[109]⟩) ∧ w3.cell? ⟨gs, 1, none⟩ = some (.string ⟨#[]⟩) ∧ w3.cell? ⟨gs, 2, none⟩ = some (.int .i64 2) ∧ w3.cell? ⟨gs, 3, none⟩ = some (.int .i64 3) ∧ w3.cell? ⟨gs, 4, none⟩ = some (.int .i64 8) := by
    rcases hs.2 with ⟨_, h1⟩ | ⟨gs, cap, cur, rfl, hB, hh, hc, hm, hsz, htk⟩
    · simp at h1
    · have hcl : ∀ (j : Nat) (u : Value), (scells ⟨#[109]⟩ (2, 3, 8))[j]? = some u → w3.cell? ⟨gs, j, none⟩ = some u := fun j u hu => by
        have h1 : (List.take (1 * 5) cur.toList)[j]? = some u := by
          have e : List.take (1 * 5) cur.toList = scells ⟨#[109]⟩ (2, 3, 8) := htk
          rw [e]; exact hu
        rw [List.getElem?_take] at h1
        split at h1
        · simp only [World.cell?, hh]; simpa using h1
        · cases h1
      exact ⟨gs, cap, rfl, hcl 0 _ rfl, hcl 1 _ rfl, hcl 2 _ rfl, hcl 3 _ rfl, hcl 4 _ rfl⟩
  simp only [Nat.zero_add, Nat.one_mul, Nat.add_zero] at n0 n1 n2 n3 n4 n5 n6 n7
  replace n4 : w3.cell? ⟨g, 8 + 4, none⟩ = some (.string ⟨#[63]⟩) := n4
  replace n5 : w3.cell? ⟨g, 8 + 5, none⟩ = some (.string ⟨#[105]⟩) := n5
  clear hv hs hb3 hM HX
  go_wp2_with fail
  go_ret
  exact Makes.mk rfl HB3.out
end Go.Proofs.YtdfadmhomjcmeaaGreatDoor
