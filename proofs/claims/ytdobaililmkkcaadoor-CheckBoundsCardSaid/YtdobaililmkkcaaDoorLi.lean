
/- Plain: the limit of types: pairs one in the other. -/
import Derived.Test.YtdobaililmkkcaaDoorLb
namespace Culp.Tr
set_option linter.unusedSimpArgs false
set_option linter.unusedVariables false
def nN : Nd := ⟨1, 0, 0, ⟨#[]⟩, ⟨#[]⟩, ⟨#[]⟩, 0, 0⟩
def pN : Nd := ⟨18, 2, 0, ⟨#[]⟩, ⟨#[]⟩, ⟨#[]⟩, 0, 0⟩
def pairF : Nat → Nd × F
  | 0 => (nN, .nil)
  | n + 1 => (pN, .cons nN .nil (.cons (pairF n).1 (pairF n).2 .nil))
def pairL : Nat → List Nd
  | 0 => [nN]
  | n + 1 => pN :: nN :: pairL n
theorem pair_flat : ∀ n, pairL n = (pairF n).1 :: (pairF n).2.flat
  | 0 => rfl
  | n + 1 => by
    have := pair_flat n
    show pN :: nN :: pairL n = pN :: (nN :: ([] ++ ((pairF n).1 :: ((pairF n).2.flat ++ []))))
    rw [this]; simp
theorem pair_len : ∀ n, (pairL n).length = 2 * n + 1
  | 0 => rfl
  | n + 1 => by simp only [pairL, List.length_cons, pair_len n]; omega
theorem pair_mem {n : Nat} : ∀ y ∈ pairL n, y = nN ∨ y = pN := by
  induction n with
  | zero => intro y hy; simp only [pairL, List.mem_singleton] at hy; exact .inl hy
  | succ n ih =>
    intro y hy
    simp only [pairL, List.mem_cons] at hy
    rcases hy with rfl | rfl | hy
    · exact .inr rfl
    · exact .inl rfl
    · exact ih y hy
theorem pair_may {n : Nat} : ∀ y ∈ pairL n, may y = true := fun y hy => by rcases pair_mem y hy with rfl | rfl <;> rfl
theorem pair_ok : ∀ n, (F.cons (pairF n).1 (pairF n).2 .nil).Ok
  | 0 => ⟨rfl, trivial, trivial⟩
  | n + 1 => by
    have := pair_ok n
    exact ⟨rfl, ⟨rfl, trivial, this.1, this.2.1, trivial⟩, trivial⟩
theorem p31 : chk1 false (pairF 31).1 (pairF 31).2 [] 0 = .ok (((List.range 31).flatMap fun k => [(Nat.rec Ty.int (fun _ t => Ty.pair .int t) (31 - k) : Ty), Ty.int]) ++ [Ty.int]) := by kernel_rfl
theorem p32 : chk1 false (pairF 32).1 (pairF 32).2 [] 0 = .error (21, 0) := by kernel_rfl
end Culp.Tr

/- Walks of the statement CheckBounds: nodes behind nodes; pairs one in the other. -/
namespace Go.Proofs.YtdobaililmkkcaaDoor
set_option linter.unusedSimpArgs false
set_option linter.unusedVariables false
open Go.RowKit Go.Maps Culp
theorem flat_behind (A B : List Nd) : flat (A ++ B) = flat A ++ flat B := by simp [flat]
theorem nodes_flat {w : World} {b off n c : Nat} {T : List Nd} (h : Nodes w (.slice (some ⟨b, off, none⟩) n c) T) : ∀ (j : Nat) u, (flat T)[j]? = some u → w.cell? ((⟨b, off, none⟩ : Addr).add j) = some u := by
  intro j u hu
  have hjl := (List.getElem?_eq_some_iff.1 hu).1
  rw [flat_len] at hjl
  obtain ⟨A, c', e1, _, h3⟩ := h
  simp only [Value.slice.injEq] at e1
  obtain ⟨rfl, _, _⟩ := e1
  obtain ⟨b', off', h1, hM⟩ := h3 (by omega)
  cases h1
  have hadd : (⟨b, off, none⟩ : Addr).add j = ⟨b, off + j, none⟩ := by
    unfold Addr.add; split
    · rename_i h0; subst h0; rfl
    · rfl
  rw [hadd]
  obtain ⟨y, hy, hyu⟩ := flat_of T j u hu
  have := hM _ _ hy _ _ hyu
  rw [show off + j / 8 * 8 + j % 8 = off + j by omega] at this
  exact this
/-- Nodes behind nodes that have no spare room. -/
theorem append_nodes (w : World) (A1 T2 : List Nd) (g1 n b off m c : Nat) (h1 : Nodes w (.slice (some ⟨g1, 0, none⟩) n n) A1) (hn : A1.length = n) (h2 : Nodes w (.slice (some ⟨b, off, none⟩) m c) T2) (hm : T2.length = m) (h0 : 0 < m) (hnm : n + m ≤ 1000000) :
    ∃ v' w', (Builtin.append_ #[26, 26] 26 #[.slice (some ⟨g1, 0, none⟩) n n, .slice (some ⟨b, off, none⟩) m c]).run Tryd.prog w = .ok v' w' ∧ Nodes w' v' (A1 ++ T2) ∧ Below w.heap.size w w' := by
  obtain ⟨i0, hi, hz0, hz1, hz2⟩ := info_parts node_info
  subst hn hm
  obtain ⟨v', w', hrun, hown, hg⟩ := run_append_arg_grows (P := Tryd.prog) w 26 26 32 i0 _ 8 88 Tryd.underlying26 hi hz0 hz1 hz2 rfl (by decide) ⟨g1, 0, none⟩ A1.length A1.length (flat A1) (flat_len A1) (nodes_flat h1) ⟨b, off, none⟩ T2.length c (flat T2) (flat_len T2) (nodes_flat h2) (by omega) (by unfold maxLen; omega) (by omega)
  refine ⟨v', w', hrun, own_nodes (L := A1 ++ T2) (by rw [flat_behind, List.length_append]; exact hown), (Below.refl _ _).grown hg (Nat.le_refl _) fun k hk => by cases hk⟩
theorem wpList_value {P : Program} {ops : Array Oper} {rest : List Oper} {o : Oper} {a : Act} {Q : Exit → Act → World → Prop} {w w' : World} {v' : Value} (hgd : o.guard = none) (hr : (execOp a.eval o).run P w = .ok (.value v') w') (h : wpList P ops Q rest (a.put o.dst v') w') : wpList P ops Q (o :: rest) a w :=
  wpList_plain hgd fun K hK => by
    unfold Oper.wp
    rw [hr, Oper.upon_value]
    exact hK _ _ h
set_option maxRecDepth 100000 in
set_option maxHeartbeats 1600000 in
theorem pairs_any (n : Nat) (hn : n ≤ 100) (w : World) : Calls Tryd.prog 7 #[.int .i64 (n : Int)] w (NodeRes (Tr.pairL n) w) := by
  have HN0 := Lib.hid (lit_nodes w (Tr.pairL 0) #[.int .i8 1, .int .i64 0, .int .i64 0, .string ⟨#[]⟩, .string ⟨#[]⟩, .string ⟨#[]⟩, .int .i64 0, .int .i64 0] 32 rfl)
  have HB0 := Lib.hid ((Below.refl w.heap.size w).alloc (Nat.le_refl _) (.cells #[.int .i8 1, .int .i64 0, .int .i64 0, .string ⟨#[]⟩, .string ⟨#[]⟩, .string ⟨#[]⟩, .int .i64 0, .int .i64 0] 32))
  go_enter Tryd.func7, Tryd.ntmps7
  go_wp2_with fail
  go_loopw [3, 4] (fun l i wr => ∃ k : Nat, k ≤ n ∧ i = .int .i64 k ∧ Hid (Nodes wr l (Tr.pairL k)) ∧ Hid (Below w.heap.size w wr)) (fun _ i _ => n - (intOf i).toNat)
  case atStart => exact ⟨0, Nat.zero_le _, by go_num, HN0, HB0⟩
  case round =>
    obtain ⟨k, hk, rfl, HN, HB⟩ := hrel
    by_cases hlt : k < n
    · have hl := Tr.pair_len k
      have HLK := Lib.hid hl
      obtain ⟨A, c, hA, hlc, hNN⟩ := HN.out
      obtain ⟨b, off, rfl, _⟩ := hNN (by omega)
      subst hA
      have hb : Below wr.heap.size wr (wr.alloc (.cells #[.int .i8 18, .int .i64 2, .int .i64 0, .string ⟨#[]⟩, .string ⟨#[]⟩, .string ⟨#[]⟩, .int .i64 0, .int .i64 0, .int .i8 1, .int .i64 0, .int .i64 0, .string ⟨#[]⟩, .string ⟨#[]⟩, .string ⟨#[]⟩, .int .i64 0, .int .i64 0] 32)) := (Below.refl _ _).alloc (Nat.le_refl _) _
      obtain ⟨v', w', hrun, hnd, hb2⟩ := append_nodes (wr.alloc (.cells #[.int .i8 18, .int .i64 2, .int .i64 0, .string ⟨#[]⟩, .string ⟨#[]⟩, .string ⟨#[]⟩, .int .i64 0, .int .i64 0, .int .i8 1, .int .i64 0, .int .i64 0, .string ⟨#[]⟩, .string ⟨#[]⟩, .string ⟨#[]⟩, .int .i64 0, .int .i64 0] 32)) [Tr.pN, Tr.nN] (Tr.pairL k) wr.heap.size 2 b off (Tr.pairL k).length c (lit_nodes wr [Tr.pN, Tr.nN] _ _ rfl) rfl (HN.out.later hb) rfl (by omega) (by omega)
      have HN2 : Hid (Nodes w' v' (Tr.pairL (k + 1))) := Lib.hid hnd
      have HB2 := Lib.hid (below_later hb2 (below_later hb HB.out))
      clear hl hlc hNN hb hb2 hnd HN HB
      go_wp2_with (at_builtin; refine wpList_value rfl (exec_append rfl rfl rfl rfl hrun) ?_)
      clear hrun
      go_wp2_with fail
      go_roundw
      case rel => exact ⟨k + 1, by omega, by go_num, HN2, HB2⟩
      case measure => simp [intOf]; omega
    · obtain rfl : k = n := by omega
      go_wp2_with fail
      go_ret
      exact ⟨_, rfl, HN.out, HB.out⟩
end Go.Proofs.YtdobaililmkkcaaDoor

/- The walk of the statement CheckBounds. -/
namespace Culp.Tr
set_option linter.unusedSimpArgs false
set_option linter.unusedVariables false
open Go
def nestT : Nat → Ty
  | 0 => .int
  | n + 1 => .pair .int (nestT n)
theorem nest_len : ∀ n, (nestT n).enc.length = 2 * n + 1
  | 0 => rfl
  | n + 1 => by simp only [nestT, Ty.enc, List.length_cons, List.length_append, nest_len n, List.length_nil]; omega
theorem nest_step (n : Nat) : { data := #[44, 105] } ++ (nestT n).str = (nestT (n + 1)).str := by apply ByteArray.ext; apply Array.ext'; simp [nestT, Ty.str, Ty.enc]
def fnN (u : ByteArray) : Nd := ⟨5, 1, 0, ⟨#[120]⟩, (nestT 30).str, u, 0, 0⟩
def vY : Nd := ⟨4, 0, 0, ⟨#[121]⟩, ⟨#[]⟩, ⟨#[]⟩, 0, 0⟩
def vX : Nd := ⟨4, 0, 0, ⟨#[120]⟩, ⟨#[]⟩, ⟨#[]⟩, 0, 0⟩
def ngN : Nd := ⟨16, 1, 0, ⟨#[]⟩, ⟨#[]⟩, ⟨#[]⟩, 0, 0⟩
def ifN : Nd := ⟨9, 3, 0, ⟨#[]⟩, ⟨#[]⟩, ⟨#[]⟩, 0, 0⟩
def trN : Nd := ⟨3, 0, 0, ⟨#[]⟩, ⟨#[]⟩, ⟨#[]⟩, 0, 0⟩
def l3i : ByteArray := ⟨#[108, 108, 105]⟩
def l2i : ByteArray := ⟨#[108, 105]⟩
def fK : F := .cons vY .nil .nil
def iK : F := .cons trN .nil (.cons vX .nil (.cons vY .nil .nil))
def nK : F := .cons (pairF 32).1 (pairF 32).2 .nil
def hA : Ty := .pair (nestT 16) .dyn
def hB : Ty := .pair .dyn (nestT 16)
theorem half_eq : (nestT 30).str.extract 28 61 = (nestT 16).str := by kernel_rfl
theorem f_may (u : ByteArray) (h : u = l3i ∨ u = l2i) : ∀ y ∈ [fnN u, vY], may y = true := by
  intro y hy
  simp only [List.mem_cons, List.not_mem_nil, or_false] at hy
  rcases hy with rfl | rfl
  · rcases h with rfl | rfl <;> kernel_rfl
  · rfl
theorem i_may : ∀ y ∈ [ifN, trN, vX, vY], may y = true := by
  intro y hy
  simp only [List.mem_cons, List.not_mem_nil, or_false] at hy
  rcases hy with rfl | rfl | rfl | rfl <;> rfl
theorem n_may : ∀ y ∈ ngN :: pairL 32, may y = true := by
  intro y hy
  rcases List.mem_cons.1 hy with rfl | hy
  · rfl
  · exact pair_may y hy
theorem f3_check : check [fnN l3i, vY] = (0, 0) := by kernel_rfl
theorem f2_check : check [fnN l2i, vY] = (0, 0) := by kernel_rfl
theorem i_check : check [ifN, trN, vX, vY] = (0, 0) := by kernel_rfl
theorem n_check : check (ngN :: pairL 32) = (0, 0) := by kernel_rfl
theorem q31_check : check (pairL 31) = (0, 0) := by kernel_rfl
theorem q32_check : check (pairL 32) = (0, 0) := by kernel_rfl
theorem f3_chk : chk1 false (fnN l3i) fK [] 0 = .error (21, 0) := by kernel_rfl
theorem f2_chk : chk1 false (fnN l2i) fK [] 0 = .error (22, 1) := by kernel_rfl
theorem i_chk : chk1 false ifN iK [(⟨#[121]⟩, hB), (⟨#[120]⟩, hA)] 0 = .error (21, 0) := by kernel_rfl
theorem n_chk : chk1 false ngN nK [] 0 = .error (21, 1) := by kernel_rfl
theorem p31_chk : ∃ ts, chk1 false (pairF 31).1 (pairF 31).2 [] 0 = .ok ts ∧ ts.length = 63 := ⟨_, p31, by kernel_rfl⟩
end Culp.Tr
namespace Go.Proofs.YtdobaililmkkcaaDoor
set_option linter.unusedSimpArgs false
set_option linter.unusedVariables false
open Go.RowKit Go.Maps Culp
/-- A known tree with no names. -/
theorem bare_call (T : List Nd) (tv : Value) (w : World) (x : Nd) (ks : Tr.F) (R : Except Tr.Bad (List Ty)) (hn : Nodes w tv T) (hS : Sp w) (hT : Tab w) (hl : T.length ≤ 1000) (hz : ∀ y ∈ T, y.s.size ≤ 100 ∧ y.kids ≤ 100) (hc : Tr.check T = (0, 0)) (he : T = x :: ks.flat) (hO : (Tr.F.cons x ks .nil).Ok) (hm : ∀ y ∈ T, Tr.may y = true) (hR : Tr.chk1 false x ks [] 0 = R) :
    Calls Tryd.prog 6 #[tv, .slice none 0 0, .slice none 0 0] w (ExprRes R w) := by
  have := Expr_ok T tv _ _ [] [] w hn (Txts.nil _) (Txts.nil _) hS (fun s hs => by cases hs) (by simp) ⟨rfl, fun j hj => absurd hj (Nat.not_lt_zero _)⟩ hT x ks (by omega) (fun y hy => by have := (hz y hy).1; omega) (fun y hy => by have := (hz y hy).2; omega) hc he hO hm
  rw [show envTo [] [] ([] : List ByteArray).length = [] from rfl, hR] at this
  exact this
theorem pair_sz {n : Nat} : ∀ y ∈ Tr.pairL n, y.s.size ≤ 100 ∧ y.kids ≤ 100 := fun y hy => by rcases Tr.pair_mem y hy with rfl | rfl <;> decide
theorem two_texts (w : World) (a b : ByteArray) : Txts (w.alloc (.cells #[.string a, .string b] 9)) (.slice (some ⟨w.heap.size, 0, none⟩) 2 2) [a, b] :=
  ⟨_, 2, rfl, Nat.le_refl _, fun _ => ⟨w.heap.size, 0, rfl, fun j s hj => by
    match j, hj with
    | 0, hj =>
      simp only [List.getElem?_cons_zero, Option.some.injEq] at hj
      subst hj
      rw [Nat.zero_add, World.cell?_alloc_at _ _ _ _ rfl]; rfl
    | 1, hj =>
      simp only [List.getElem?_cons_succ, List.getElem?_cons_zero, Option.some.injEq] at hj
      subst hj
      rw [Nat.zero_add, World.cell?_alloc_at _ _ _ _ rfl]; rfl
    | j + 2, hj => simp at hj⟩⟩
end Go.Proofs.YtdobaililmkkcaaDoor

/- The walk of the statement CheckBounds: the whole of it. -/
namespace Go.Proofs.YtdobaililmkkcaaDoor
set_option linter.unusedSimpArgs false
set_option linter.unusedVariables false
open Go.RowKit Go.Maps Culp
set_option maxRecDepth 100000 in
set_option maxHeartbeats 6400000 in
theorem bounds_law (w : World) (hS : Sp w) (hT : Tab w) : Calls Tryd.prog 3 #[] w (Makes (.bool true) w) := by
  have HS := Lib.hid hS
  have HT := Lib.hid hT
  have HX : Hid (∀ w', Below w.heap.size w w' → Sp w' ∧ Tab w') := Lib.hid (fun w' hb => ⟨hS.later hb, hT.later hb⟩)
  clear hS hT
  go_enter Tryd.func3, Tryd.ntmps3
  go_wp2_with fail
  refine (pairs_any 31 (by decide) w).mono ?_
  rintro E w1 ⟨v1, rfl, hn1, hb1⟩
  obtain ⟨ts, hts, hln⟩ := Tr.p31_chk
  have HB1 := Lib.hid hb1
  have HC1 := Lib.hid (bare_call (Tr.pairL 31) v1 w1 _ _ _ hn1 (HX.out _ hb1).1 (HX.out _ hb1).2 (by rw [Tr.pair_len]; decide) pair_sz Tr.q31_check (Tr.pair_flat 31) (Tr.pair_ok 31) Tr.pair_may hts)
  obtain ⟨A1, c1, rfl, _, _⟩ := hn1
  clear hb1 hts
  go_wp2_with fail
  refine HC1.out.mono ?_
  rintro E w2 ⟨v2, rfl, ho2, hb2⟩
  rw [hln] at ho2
  obtain ⟨A2, c2, rfl⟩ := own_shape ho2
  have HB2 := Lib.hid (below_later hb2 HB1.out)
  clear ho2 hb2 HC1 HB1 hln
  go_wp2_with fail
  refine (pairs_any 32 (by decide) w2).mono ?_
  rintro E w3 ⟨v3, rfl, hn3, hb3⟩
  have HB3 := Lib.hid (below_later hb3 HB2.out)
  have HC3 := Lib.hid (bare_call (Tr.pairL 32) v3 w3 _ _ _ hn3 (HX.out _ HB3.out).1 (HX.out _ HB3.out).2 (by rw [Tr.pair_len]; decide) pair_sz Tr.q32_check (Tr.pair_flat 32) (Tr.pair_ok 32) Tr.pair_may Tr.p32)
  obtain ⟨A3, c3, rfl, _, _⟩ := hn3
  clear hb3 HB2
  go_wp2_with fail
  refine HC3.out.mono ?_
  rintro E w4 ⟨-, rfl, hb4⟩
  have HB4 := Lib.hid (below_later hb4 HB3.out)
  clear hb4 HC3 HB3
  go_wp2_with fail
  have hb5 : Below w4.heap.size w4 (w4.alloc (.cells #[.int .i8 16, .int .i64 1, .int .i64 0, .string ⟨#[]⟩, .string ⟨#[]⟩, .string ⟨#[]⟩, .int .i64 0, .int .i64 0] 32)) := (Below.refl _ _).alloc (Nat.le_refl _) _
  have HN5 := Lib.hid (lit_nodes w4 [Tr.ngN] #[.int .i8 16, .int .i64 1, .int .i64 0, .string ⟨#[]⟩, .string ⟨#[]⟩, .string ⟨#[]⟩, .int .i64 0, .int .i64 0] 32 rfl)
  have HB5 := Lib.hid (below_later hb5 HB4.out)
  have HSZ5 : Hid ((w4.alloc (.cells #[.int .i8 16, .int .i64 1, .int .i64 0, .string ⟨#[]⟩, .string ⟨#[]⟩, .string ⟨#[]⟩, .int .i64 0, .int .i64 0] 32)).heap.size = w4.heap.size + 1) := Lib.hid (by simp)
  clear hb5 HB4
  generalize w4.alloc (.cells #[.int .i8 16, .int .i64 1, .int .i64 0, .string ⟨#[]⟩, .string ⟨#[]⟩, .string ⟨#[]⟩, .int .i64 0, .int .i64 0] 32) = w5 at *
  refine (pairs_any 32 (by decide) w5).mono ?_
  rintro E w6 ⟨v6, rfl, hn6, hb6⟩
  have HB6 := Lib.hid (below_later hb6 HB5.out)
  have hl6 := Tr.pair_len 32
  have HN6 := Lib.hid hn6
  obtain ⟨A6, c6, hA6, _, hNN6⟩ := hn6
  obtain ⟨b6, o6, rfl, _⟩ := hNN6 (by omega)
  subst hA6
  obtain ⟨v7, w7, hrun, hnd, hb7⟩ := append_nodes w6 [Tr.ngN] (Tr.pairL 32) w4.heap.size 1 b6 o6 (Tr.pairL 32).length c6 (HN5.out.later hb6) rfl HN6.out rfl (by omega) (by omega)
  have HB7 := Lib.hid (below_later hb7 HB6.out)
  have HC7 := Lib.hid (bare_call (Tr.ngN :: Tr.pairL 32) v7 w7 Tr.ngN Tr.nK _ hnd (HX.out _ HB7.out).1 (HX.out _ HB7.out).2 (by rw [List.length_cons, hl6]; decide) (fun y hy => by
    rcases List.mem_cons.1 hy with rfl | hy
    · decide
    · exact pair_sz y hy) Tr.n_check (by show _ = _ :: (_ :: (_ ++ [])); rw [List.append_nil, ← Tr.pair_flat]) ⟨rfl, ⟨(Tr.pair_ok 32).1, (Tr.pair_ok 32).2.1, trivial⟩, trivial⟩ Tr.n_may Tr.n_chk)
  obtain ⟨A7, c7, rfl, _, _⟩ := hnd
  clear hb6 hl6 hNN6 hb7 HN5 HN6 HB5 HB6
  go_wp2_with (at_builtin; refine wpList_value rfl (exec_append rfl rfl rfl rfl hrun) ?_)
  refine HC7.out.mono ?_
  rintro E w8 ⟨-, rfl, hb8⟩
  have HB8 := Lib.hid (below_later hb8 HB7.out)
  clear hb8 HC7 HB7 hrun HSZ5
  go_wp2_with fail
  go_loopw [10, 11] (fun o i wr => w8 = wr ∧ ∃ k : Nat, k ≤ 30 ∧ i = .int .i64 k ∧ o = .string (Tr.nestT k).str) (fun _ i _ => 30 - (intOf i).toNat)
  case atStart => exact ⟨rfl, 0, Nat.zero_le _, by go_num, rfl⟩
  case round =>
    obtain ⟨rfl, k, hk, rfl, rfl⟩ := hrel
    have hsz : (Tr.nestT k).str.size ≤ 100 := by rw [str_size, Tr.nest_len]; omega
    by_cases hlt : k < 30
    · have hns := Tr.nest_step k
      go_wp2_with fail
      go_roundw
      case rel => exact ⟨trivial, k + 1, by omega, by go_num, rfl⟩
      case measure => simp [intOf]; omega
    · obtain rfl : k = 30 := by omega
      have hs61 : (Tr.nestT 30).str.size = 61 := by rw [str_size, Tr.nest_len]
      have hhf := Tr.half_eq
      have hs33 : (Tr.nestT 16).str.size = 33 := by rw [str_size, Tr.nest_len]
      have hha : ({ data := #[44] } ++ (Tr.nestT 16).str) ++ { data := #[63] } = Tr.hA.str := by apply ByteArray.ext; apply Array.ext'; simp [Tr.hA, Ty.str, Ty.enc]
      have hhb : { data := #[44, 63] } ++ (Tr.nestT 16).str = Tr.hB.str := by apply ByteArray.ext; apply Array.ext'; simp [Tr.hB, Ty.str, Ty.enc]
      clear hsz hk hlt
      go_wp2_with fail
      have hb9 : Below w8.heap.size w8 (w8.alloc (.cells #[.int .i8 5, .int .i64 1, .int .i64 0, .string ⟨#[120]⟩, .string (Tr.nestT 30).str, .string ⟨#[108, 108, 105]⟩, .int .i64 0, .int .i64 0, .int .i8 4, .int .i64 0, .int .i64 0, .string ⟨#[121]⟩, .string ⟨#[]⟩, .string ⟨#[]⟩, .int .i64 0, .int .i64 0] 32)) := (Below.refl _ _).alloc (Nat.le_refl _) _
      have HB9 := Lib.hid (below_later hb9 HB8.out)
      have HC9 : Hid (Calls Tryd.prog 6 #[.slice (some ⟨w8.heap.size, 0, none⟩) 2 2, .slice none 0 0, .slice none 0 0] (w8.alloc (.cells #[.int .i8 5, .int .i64 1, .int .i64 0, .string ⟨#[120]⟩, .string (Tr.nestT 30).str, .string ⟨#[108, 108, 105]⟩, .int .i64 0, .int .i64 0, .int .i8 4, .int .i64 0, .int .i64 0, .string ⟨#[121]⟩, .string ⟨#[]⟩, .string ⟨#[]⟩, .int .i64 0, .int .i64 0] 32)) (ExprRes (.error (21, 0)) (w8.alloc (.cells #[.int .i8 5, .int .i64 1, .int .i64 0, .string ⟨#[120]⟩, .string (Tr.nestT 30).str, .string ⟨#[108, 108, 105]⟩, .int .i64 0, .int .i64 0, .int .i8 4, .int .i64 0, .int .i64 0, .string ⟨#[121]⟩, .string ⟨#[]⟩, .string ⟨#[]⟩, .int .i64 0, .int .i64 0] 32)))) := Lib.hid (bare_call [Tr.fnN Tr.l3i, Tr.vY] _ _ (Tr.fnN Tr.l3i) Tr.fK _ (lit_nodes w8 [Tr.fnN Tr.l3i, Tr.vY] #[.int .i8 5, .int .i64 1, .int .i64 0, .string ⟨#[120]⟩, .string (Tr.nestT 30).str, .string ⟨#[108, 108, 105]⟩, .int .i64 0, .int .i64 0, .int .i8 4, .int .i64 0, .int .i64 0, .string ⟨#[121]⟩, .string ⟨#[]⟩, .string ⟨#[]⟩, .int .i64 0, .int .i64 0] 32 rfl) (HX.out _ HB9.out).1 (HX.out _ HB9.out).2 (by decide) (fun y hy => by
        simp only [List.mem_cons, List.not_mem_nil, or_false] at hy
        rcases hy with rfl | rfl
        · exact ⟨by show (1 : Nat) ≤ 100; decide, by show (1 : Int) ≤ 100; decide⟩
        · decide) Tr.f3_check rfl ⟨rfl, ⟨rfl, trivial, trivial⟩, trivial⟩ (Tr.f_may _ (.inl rfl)) Tr.f3_chk)
      clear hb9
      refine HC9.out.mono ?_
      generalize w8.alloc (.cells #[.int .i8 5, .int .i64 1, .int .i64 0, .string ⟨#[120]⟩, .string (Tr.nestT 30).str, .string ⟨#[108, 108, 105]⟩, .int .i64 0, .int .i64 0, .int .i8 4, .int .i64 0, .int .i64 0, .string ⟨#[121]⟩, .string ⟨#[]⟩, .string ⟨#[]⟩, .int .i64 0, .int .i64 0] 32) = w9 at *
      rintro E w9' ⟨-, rfl, hb9⟩
      have HB9' := Lib.hid (below_later hb9 HB9.out)
      clear hb9 HC9 HB9 HB8
      go_wp2_with fail
      have hb10 : Below w9'.heap.size w9' (w9'.alloc (.cells #[.int .i8 5, .int .i64 1, .int .i64 0, .string ⟨#[120]⟩, .string (Tr.nestT 30).str, .string ⟨#[108, 105]⟩, .int .i64 0, .int .i64 0, .int .i8 4, .int .i64 0, .int .i64 0, .string ⟨#[121]⟩, .string ⟨#[]⟩, .string ⟨#[]⟩, .int .i64 0, .int .i64 0] 32)) := (Below.refl _ _).alloc (Nat.le_refl _) _
      have HB10 := Lib.hid (below_later hb10 HB9'.out)
      have HC10 : Hid (Calls Tryd.prog 6 #[.slice (some ⟨w9'.heap.size, 0, none⟩) 2 2, .slice none 0 0, .slice none 0 0] (w9'.alloc (.cells #[.int .i8 5, .int .i64 1, .int .i64 0, .string ⟨#[120]⟩, .string (Tr.nestT 30).str, .string ⟨#[108, 105]⟩, .int .i64 0, .int .i64 0, .int .i8 4, .int .i64 0, .int .i64 0, .string ⟨#[121]⟩, .string ⟨#[]⟩, .string ⟨#[]⟩, .int .i64 0, .int .i64 0] 32)) (ExprRes (.error (22, 1)) (w9'.alloc (.cells #[.int .i8 5, .int .i64 1, .int .i64 0, .string ⟨#[120]⟩, .string (Tr.nestT 30).str, .string ⟨#[108, 105]⟩, .int .i64 0, .int .i64 0, .int .i8 4, .int .i64 0, .int .i64 0, .string ⟨#[121]⟩, .string ⟨#[]⟩, .string ⟨#[]⟩, .int .i64 0, .int .i64 0] 32)))) := Lib.hid (bare_call [Tr.fnN Tr.l2i, Tr.vY] _ _ (Tr.fnN Tr.l2i) Tr.fK _ (lit_nodes w9' [Tr.fnN Tr.l2i, Tr.vY] #[.int .i8 5, .int .i64 1, .int .i64 0, .string ⟨#[120]⟩, .string (Tr.nestT 30).str, .string ⟨#[108, 105]⟩, .int .i64 0, .int .i64 0, .int .i8 4, .int .i64 0, .int .i64 0, .string ⟨#[121]⟩, .string ⟨#[]⟩, .string ⟨#[]⟩, .int .i64 0, .int .i64 0] 32 rfl) (HX.out _ HB10.out).1 (HX.out _ HB10.out).2 (by decide) (fun y hy => by
        simp only [List.mem_cons, List.not_mem_nil, or_false] at hy
        rcases hy with rfl | rfl
        · exact ⟨by show (1 : Nat) ≤ 100; decide, by show (1 : Int) ≤ 100; decide⟩
        · decide) Tr.f2_check rfl ⟨rfl, ⟨rfl, trivial, trivial⟩, trivial⟩ (Tr.f_may _ (.inr rfl)) Tr.f2_chk)
      clear hb10
      refine HC10.out.mono ?_
      generalize w9'.alloc (.cells #[.int .i8 5, .int .i64 1, .int .i64 0, .string ⟨#[120]⟩, .string (Tr.nestT 30).str, .string ⟨#[108, 105]⟩, .int .i64 0, .int .i64 0, .int .i8 4, .int .i64 0, .int .i64 0, .string ⟨#[121]⟩, .string ⟨#[]⟩, .string ⟨#[]⟩, .int .i64 0, .int .i64 0] 32) = w10' at *
      rintro E w10 ⟨-, rfl, hb10⟩
      have HB11 := Lib.hid (below_later hb10 HB10.out)
      clear hb10 HC10 HB10 HB9'
      go_wp2_with fail
      have hb12 : Below w10.heap.size w10 (((w10.alloc (.cells #[.int .i8 9, .int .i64 3, .int .i64 0, .string ⟨#[]⟩, .string ⟨#[]⟩, .string ⟨#[]⟩, .int .i64 0, .int .i64 0, .int .i8 3, .int .i64 0, .int .i64 0, .string ⟨#[]⟩, .string ⟨#[]⟩, .string ⟨#[]⟩, .int .i64 0, .int .i64 0, .int .i8 4, .int .i64 0, .int .i64 0, .string ⟨#[120]⟩, .string ⟨#[]⟩, .string ⟨#[]⟩, .int .i64 0, .int .i64 0, .int .i8 4, .int .i64 0, .int .i64 0, .string ⟨#[121]⟩, .string ⟨#[]⟩, .string ⟨#[]⟩, .int .i64 0, .int .i64 0] 32)).alloc (.cells #[.string { data := #[120] }, .string { data := #[121] }] 9)).alloc (.cells #[.string Tr.hA.str, .string Tr.hB.str] 9)) := (((Below.refl _ _).alloc (Nat.le_refl _) _).alloc (by simp) _).alloc (by simp; omega) _
      have HB12 := Lib.hid (below_later hb12 HB11.out)
      have HC12 : Hid (Calls Tryd.prog 6 #[.slice (some ⟨w10.heap.size, 0, none⟩) 4 4, .slice (some ⟨w10.heap.size + 1, 0, none⟩) 2 2, .slice (some ⟨w10.heap.size + 1 + 1, 0, none⟩) 2 2] (((w10.alloc (.cells #[.int .i8 9, .int .i64 3, .int .i64 0, .string ⟨#[]⟩, .string ⟨#[]⟩, .string ⟨#[]⟩, .int .i64 0, .int .i64 0, .int .i8 3, .int .i64 0, .int .i64 0, .string ⟨#[]⟩, .string ⟨#[]⟩, .string ⟨#[]⟩, .int .i64 0, .int .i64 0, .int .i8 4, .int .i64 0, .int .i64 0, .string ⟨#[120]⟩, .string ⟨#[]⟩, .string ⟨#[]⟩, .int .i64 0, .int .i64 0, .int .i8 4, .int .i64 0, .int .i64 0, .string ⟨#[121]⟩, .string ⟨#[]⟩, .string ⟨#[]⟩, .int .i64 0, .int .i64 0] 32)).alloc (.cells #[.string { data := #[120] }, .string { data := #[121] }] 9)).alloc (.cells #[.string Tr.hA.str, .string Tr.hB.str] 9)) (ExprRes (.error (21, 0)) (((w10.alloc (.cells #[.int .i8 9, .int .i64 3, .int .i64 0, .string ⟨#[]⟩, .string ⟨#[]⟩, .string ⟨#[]⟩, .int .i64 0, .int .i64 0, .int .i8 3, .int .i64 0, .int .i64 0, .string ⟨#[]⟩, .string ⟨#[]⟩, .string ⟨#[]⟩, .int .i64 0, .int .i64 0, .int .i8 4, .int .i64 0, .int .i64 0, .string ⟨#[120]⟩, .string ⟨#[]⟩, .string ⟨#[]⟩, .int .i64 0, .int .i64 0, .int .i8 4, .int .i64 0, .int .i64 0, .string ⟨#[121]⟩, .string ⟨#[]⟩, .string ⟨#[]⟩, .int .i64 0, .int .i64 0] 32)).alloc (.cells #[.string { data := #[120] }, .string { data := #[121] }] 9)).alloc (.cells #[.string Tr.hA.str, .string Tr.hB.str] 9)))) := Lib.hid (by
        have t1 := two_texts (w10.alloc (.cells #[.int .i8 9, .int .i64 3, .int .i64 0, .string ⟨#[]⟩, .string ⟨#[]⟩, .string ⟨#[]⟩, .int .i64 0, .int .i64 0, .int .i8 3, .int .i64 0, .int .i64 0, .string ⟨#[]⟩, .string ⟨#[]⟩, .string ⟨#[]⟩, .int .i64 0, .int .i64 0, .int .i8 4, .int .i64 0, .int .i64 0, .string ⟨#[120]⟩, .string ⟨#[]⟩, .string ⟨#[]⟩, .int .i64 0, .int .i64 0, .int .i8 4, .int .i64 0, .int .i64 0, .string ⟨#[121]⟩, .string ⟨#[]⟩, .string ⟨#[]⟩, .int .i64 0, .int .i64 0] 32)) { data := #[120] } { data := #[121] }
        have t2 := two_texts ((w10.alloc (.cells #[.int .i8 9, .int .i64 3, .int .i64 0, .string ⟨#[]⟩, .string ⟨#[]⟩, .string ⟨#[]⟩, .int .i64 0, .int .i64 0, .int .i8 3, .int .i64 0, .int .i64 0, .string ⟨#[]⟩, .string ⟨#[]⟩, .string ⟨#[]⟩, .int .i64 0, .int .i64 0, .int .i8 4, .int .i64 0, .int .i64 0, .string ⟨#[120]⟩, .string ⟨#[]⟩, .string ⟨#[]⟩, .int .i64 0, .int .i64 0, .int .i8 4, .int .i64 0, .int .i64 0, .string ⟨#[121]⟩, .string ⟨#[]⟩, .string ⟨#[]⟩, .int .i64 0, .int .i64 0] 32)).alloc (.cells #[.string { data := #[120] }, .string { data := #[121] }] 9)) Tr.hA.str Tr.hB.str
        rw [show (w10.alloc (.cells #[.int .i8 9, .int .i64 3, .int .i64 0, .string ⟨#[]⟩, .string ⟨#[]⟩, .string ⟨#[]⟩, .int .i64 0, .int .i64 0, .int .i8 3, .int .i64 0, .int .i64 0, .string ⟨#[]⟩, .string ⟨#[]⟩, .string ⟨#[]⟩, .int .i64 0, .int .i64 0, .int .i8 4, .int .i64 0, .int .i64 0, .string ⟨#[120]⟩, .string ⟨#[]⟩, .string ⟨#[]⟩, .int .i64 0, .int .i64 0, .int .i8 4, .int .i64 0, .int .i64 0, .string ⟨#[121]⟩, .string ⟨#[]⟩, .string ⟨#[]⟩, .int .i64 0, .int .i64 0] 32)).heap.size = w10.heap.size + 1 by simp] at t1
        rw [show ((w10.alloc (.cells #[.int .i8 9, .int .i64 3, .int .i64 0, .string ⟨#[]⟩, .string ⟨#[]⟩, .string ⟨#[]⟩, .int .i64 0, .int .i64 0, .int .i8 3, .int .i64 0, .int .i64 0, .string ⟨#[]⟩, .string ⟨#[]⟩, .string ⟨#[]⟩, .int .i64 0, .int .i64 0, .int .i8 4, .int .i64 0, .int .i64 0, .string ⟨#[120]⟩, .string ⟨#[]⟩, .string ⟨#[]⟩, .int .i64 0, .int .i64 0, .int .i8 4, .int .i64 0, .int .i64 0, .string ⟨#[121]⟩, .string ⟨#[]⟩, .string ⟨#[]⟩, .int .i64 0, .int .i64 0] 32)).alloc (.cells #[.string { data := #[120] }, .string { data := #[121] }] 9)).heap.size = w10.heap.size + 1 + 1 by simp] at t2
        have hbi : Below (w10.alloc (.cells #[.int .i8 9, .int .i64 3, .int .i64 0, .string ⟨#[]⟩, .string ⟨#[]⟩, .string ⟨#[]⟩, .int .i64 0, .int .i64 0, .int .i8 3, .int .i64 0, .int .i64 0, .string ⟨#[]⟩, .string ⟨#[]⟩, .string ⟨#[]⟩, .int .i64 0, .int .i64 0, .int .i8 4, .int .i64 0, .int .i64 0, .string ⟨#[120]⟩, .string ⟨#[]⟩, .string ⟨#[]⟩, .int .i64 0, .int .i64 0, .int .i8 4, .int .i64 0, .int .i64 0, .string ⟨#[121]⟩, .string ⟨#[]⟩, .string ⟨#[]⟩, .int .i64 0, .int .i64 0] 32)).heap.size (w10.alloc (.cells #[.int .i8 9, .int .i64 3, .int .i64 0, .string ⟨#[]⟩, .string ⟨#[]⟩, .string ⟨#[]⟩, .int .i64 0, .int .i64 0, .int .i8 3, .int .i64 0, .int .i64 0, .string ⟨#[]⟩, .string ⟨#[]⟩, .string ⟨#[]⟩, .int .i64 0, .int .i64 0, .int .i8 4, .int .i64 0, .int .i64 0, .string ⟨#[120]⟩, .string ⟨#[]⟩, .string ⟨#[]⟩, .int .i64 0, .int .i64 0, .int .i8 4, .int .i64 0, .int .i64 0, .string ⟨#[121]⟩, .string ⟨#[]⟩, .string ⟨#[]⟩, .int .i64 0, .int .i64 0] 32)) ((w10.alloc (.cells #[.int .i8 9, .int .i64 3, .int .i64 0, .string ⟨#[]⟩, .string ⟨#[]⟩, .string ⟨#[]⟩, .int .i64 0, .int .i64 0, .int .i8 3, .int .i64 0, .int .i64 0, .string ⟨#[]⟩, .string ⟨#[]⟩, .string ⟨#[]⟩, .int .i64 0, .int .i64 0, .int .i8 4, .int .i64 0, .int .i64 0, .string ⟨#[120]⟩, .string ⟨#[]⟩, .string ⟨#[]⟩, .int .i64 0, .int .i64 0, .int .i8 4, .int .i64 0, .int .i64 0, .string ⟨#[121]⟩, .string ⟨#[]⟩, .string ⟨#[]⟩, .int .i64 0, .int .i64 0] 32)).alloc (.cells #[.string { data := #[120] }, .string { data := #[121] }] 9)) := (Below.refl _ _).alloc (Nat.le_refl _) _
        have hbj : Below ((w10.alloc (.cells #[.int .i8 9, .int .i64 3, .int .i64 0, .string ⟨#[]⟩, .string ⟨#[]⟩, .string ⟨#[]⟩, .int .i64 0, .int .i64 0, .int .i8 3, .int .i64 0, .int .i64 0, .string ⟨#[]⟩, .string ⟨#[]⟩, .string ⟨#[]⟩, .int .i64 0, .int .i64 0, .int .i8 4, .int .i64 0, .int .i64 0, .string ⟨#[120]⟩, .string ⟨#[]⟩, .string ⟨#[]⟩, .int .i64 0, .int .i64 0, .int .i8 4, .int .i64 0, .int .i64 0, .string ⟨#[121]⟩, .string ⟨#[]⟩, .string ⟨#[]⟩, .int .i64 0, .int .i64 0] 32)).alloc (.cells #[.string { data := #[120] }, .string { data := #[121] }] 9)).heap.size ((w10.alloc (.cells #[.int .i8 9, .int .i64 3, .int .i64 0, .string ⟨#[]⟩, .string ⟨#[]⟩, .string ⟨#[]⟩, .int .i64 0, .int .i64 0, .int .i8 3, .int .i64 0, .int .i64 0, .string ⟨#[]⟩, .string ⟨#[]⟩, .string ⟨#[]⟩, .int .i64 0, .int .i64 0, .int .i8 4, .int .i64 0, .int .i64 0, .string ⟨#[120]⟩, .string ⟨#[]⟩, .string ⟨#[]⟩, .int .i64 0, .int .i64 0, .int .i8 4, .int .i64 0, .int .i64 0, .string ⟨#[121]⟩, .string ⟨#[]⟩, .string ⟨#[]⟩, .int .i64 0, .int .i64 0] 32)).alloc (.cells #[.string { data := #[120] }, .string { data := #[121] }] 9)) (((w10.alloc (.cells #[.int .i8 9, .int .i64 3, .int .i64 0, .string ⟨#[]⟩, .string ⟨#[]⟩, .string ⟨#[]⟩, .int .i64 0, .int .i64 0, .int .i8 3, .int .i64 0, .int .i64 0, .string ⟨#[]⟩, .string ⟨#[]⟩, .string ⟨#[]⟩, .int .i64 0, .int .i64 0, .int .i8 4, .int .i64 0, .int .i64 0, .string ⟨#[120]⟩, .string ⟨#[]⟩, .string ⟨#[]⟩, .int .i64 0, .int .i64 0, .int .i8 4, .int .i64 0, .int .i64 0, .string ⟨#[121]⟩, .string ⟨#[]⟩, .string ⟨#[]⟩, .int .i64 0, .int .i64 0] 32)).alloc (.cells #[.string { data := #[120] }, .string { data := #[121] }] 9)).alloc (.cells #[.string Tr.hA.str, .string Tr.hB.str] 9)) := (Below.refl _ _).alloc (Nat.le_refl _) _
        have hfA : Tr.hA.fits := by unfold Ty.fits; decide
        have hfB : Tr.hB.fits := by unfold Ty.fits; decide
        have hok : ArgsOk [{ data := #[120] }, { data := #[121] }] [Tr.hA.str, Tr.hB.str] := ⟨rfl, fun j hj => by
          simp only [List.length_cons, List.length_nil] at hj
          match j, hj with
          | 0, _ => exact ⟨by show isTy Tr.hA.str.data.toList = true; rw [str_list]; exact isTy_enc _ hfA, by decide⟩
          | 1, _ => exact ⟨by show isTy Tr.hB.str.data.toList = true; rw [str_list]; exact isTy_enc _ hfB, by decide⟩⟩
        have := Expr_ok [Tr.ifN, Tr.trN, Tr.vX, Tr.vY] _ _ _ [{ data := #[120] }, { data := #[121] }] [Tr.hA.str, Tr.hB.str] (((w10.alloc (.cells #[.int .i8 9, .int .i64 3, .int .i64 0, .string ⟨#[]⟩, .string ⟨#[]⟩, .string ⟨#[]⟩, .int .i64 0, .int .i64 0, .int .i8 3, .int .i64 0, .int .i64 0, .string ⟨#[]⟩, .string ⟨#[]⟩, .string ⟨#[]⟩, .int .i64 0, .int .i64 0, .int .i8 4, .int .i64 0, .int .i64 0, .string ⟨#[120]⟩, .string ⟨#[]⟩, .string ⟨#[]⟩, .int .i64 0, .int .i64 0, .int .i8 4, .int .i64 0, .int .i64 0, .string ⟨#[121]⟩, .string ⟨#[]⟩, .string ⟨#[]⟩, .int .i64 0, .int .i64 0] 32)).alloc (.cells #[.string { data := #[120] }, .string { data := #[121] }] 9)).alloc (.cells #[.string Tr.hA.str, .string Tr.hB.str] 9)) (((lit_nodes w10 [Tr.ifN, Tr.trN, Tr.vX, Tr.vY] #[.int .i8 9, .int .i64 3, .int .i64 0, .string ⟨#[]⟩, .string ⟨#[]⟩, .string ⟨#[]⟩, .int .i64 0, .int .i64 0, .int .i8 3, .int .i64 0, .int .i64 0, .string ⟨#[]⟩, .string ⟨#[]⟩, .string ⟨#[]⟩, .int .i64 0, .int .i64 0, .int .i8 4, .int .i64 0, .int .i64 0, .string ⟨#[120]⟩, .string ⟨#[]⟩, .string ⟨#[]⟩, .int .i64 0, .int .i64 0, .int .i8 4, .int .i64 0, .int .i64 0, .string ⟨#[121]⟩, .string ⟨#[]⟩, .string ⟨#[]⟩, .int .i64 0, .int .i64 0] 32 rfl).later hbi).later hbj) (t1.later hbj) t2 (HX.out _ HB12.out).1 (by decide) (by decide) hok (HX.out _ HB12.out).2 Tr.ifN Tr.iK (by decide) (by decide) (by decide) Tr.i_check rfl ⟨rfl, ⟨rfl, trivial, rfl, trivial, rfl, trivial, trivial⟩, trivial⟩ Tr.i_may
        have he : envTo [{ data := #[120] }, { data := #[121] }] [Tr.hA.str, Tr.hB.str] ([{ data := #[120] }, { data := #[121] }] : List ByteArray).length = [(⟨#[121]⟩, Tr.hB), (⟨#[120]⟩, Tr.hA)] := by
          show [(_, (tyOf Tr.hB.str).getD .dyn), (_, (tyOf Tr.hA.str).getD .dyn)] = _
          rw [tyOf_str _ hfA, tyOf_str _ hfB]; rfl
        rw [he, Tr.i_chk] at this
        exact this)
      clear hb12
      refine HC12.out.mono ?_
      generalize (((w10.alloc (.cells #[.int .i8 9, .int .i64 3, .int .i64 0, .string ⟨#[]⟩, .string ⟨#[]⟩, .string ⟨#[]⟩, .int .i64 0, .int .i64 0, .int .i8 3, .int .i64 0, .int .i64 0, .string ⟨#[]⟩, .string ⟨#[]⟩, .string ⟨#[]⟩, .int .i64 0, .int .i64 0, .int .i8 4, .int .i64 0, .int .i64 0, .string ⟨#[120]⟩, .string ⟨#[]⟩, .string ⟨#[]⟩, .int .i64 0, .int .i64 0, .int .i8 4, .int .i64 0, .int .i64 0, .string ⟨#[121]⟩, .string ⟨#[]⟩, .string ⟨#[]⟩, .int .i64 0, .int .i64 0] 32)).alloc (.cells #[.string { data := #[120] }, .string { data := #[121] }] 9)).alloc (.cells #[.string Tr.hA.str, .string Tr.hB.str] 9)) = w12 at *
      rintro E w13 ⟨-, rfl, hb13⟩
      have HB13 := Lib.hid (below_later hb13 HB12.out)
      clear hb13 HC12 HB12 HB11 hhf hha hhb
      go_wp2_with fail
      refine (cworks_any _ (HX.out _ HB13.out).1 (HX.out _ HB13.out).2).mono ?_
      rintro E w14 ⟨rfl, hb14⟩
      have HB14 := Lib.hid (below_later hb14 HB13.out)
      clear hb14 HB13
      go_wp2_with fail
      go_ret
      exact Makes.mk rfl HB14.out
end Go.Proofs.YtdobaililmkkcaaDoor
