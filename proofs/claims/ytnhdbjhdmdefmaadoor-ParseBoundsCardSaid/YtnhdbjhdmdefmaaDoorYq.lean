
/- The walk of the statement ParseBounds. -/
import Derived.Test.YtnhdbjhdmdefmaaDoorYp
import Derived.Test.YtnhdbjhdmdefmaaDoorYk
namespace Culp.Gr
set_option linter.unusedSimpArgs false
set_option linter.unusedVariables false
open Go Go.RowKit Culp Culp.Tr Go.Proofs.YtnhdbjhdmdefmaaDoor
/-- A case of the statement: a source, how it is read, the fault, its place. -/
structure BCs where
  s : ByteArray
  ex : Bool
  e : Nat
  l : Nat
  c : Nat
def BCs.cells (x : BCs) : List Value := [.string x.s, .bool x.ex, .int .i64 x.e, .int .i64 x.l, .int .i64 x.c]
theorem bcells_len (x : BCs) : x.cells.length = 5 := rfl
def BCs.Good (x : BCs) : Prop := x.s.size ≤ 65536 ∧ (if x.ex = true then outE x.s.data.toList else outM x.s.data.toList) = (x.e, ((x.l : Int), (x.c : Int)))
theorem expr_out {l : List UInt8} {w w' : World} {E : Ending} (h : ExprRes l w E w') : Below w.heap.size w w' ∧ ∃ v, E = .returned (.tuple #[v, .int .i64 (outE l).1, .agg #[.int .i64 (outE l).2.1, .int .i64 (outE l).2.2]]) := by
  obtain ⟨h1, h2⟩ := h
  refine ⟨h1, ?_⟩
  cases ho : exprOf l with
  | ok f =>
    rw [ho] at h2
    obtain ⟨v, rfl, -⟩ := h2
    exact ⟨v, by unfold outE; rw [ho]; rfl⟩
  | error x =>
    obtain ⟨x, p⟩ := x
    rw [ho] at h2
    exact ⟨_, by unfold outE; rw [ho]; exact h2⟩
theorem mods_out {l : List UInt8} {w w' : World} {E : Ending} (h : ModsRes l w E w') : Below w.heap.size w w' ∧ ∃ v, E = .returned (.tuple #[v, .int .i64 (outM l).1, .agg #[.int .i64 (outM l).2.1, .int .i64 (outM l).2.2]]) := by
  obtain ⟨h1, h2⟩ := h
  refine ⟨h1, ?_⟩
  cases ho : modsOf l with
  | ok f =>
    rw [ho] at h2
    obtain ⟨v, ps, rfl, -⟩ := h2
    exact ⟨v, by unfold outM; rw [ho]; rfl⟩
  | error x =>
    obtain ⟨x, p⟩ := x
    rw [ho] at h2
    exact ⟨_, by unfold outM; rw [ho]; exact h2⟩
theorem plit_structs {α : Type} {f : α → List Value} {n : Nat} (hf : ∀ x, (f x).length = n) (L : List α) (w : World) (t : TypeId) (g : Nat) (hg : w.heap.size = g) : Structs f n (w.alloc (.cells (L.flatMap f).toArray t)) (.slice (some ⟨g, 0, none⟩) L.length L.length) L := by
  subst hg
  refine ⟨_, _, rfl, fun _ => ⟨w.heap.size, 0, rfl, fun i x hx j u hu => ?_⟩⟩
  rw [Nat.zero_add]
  rw [World.cell?_alloc_at _ _ _ _ rfl]
  have := flat_get f n hf L i x j u hx hu
  simpa using this
theorem pstructs_at {α : Type} {f : α → List Value} {n m c g : Nat} {w : World} {L : List α} (h : Structs f n w (.slice (some ⟨g, 0, none⟩) m c) L) {i : Nat} {x : α} (hx : L[i]? = some x) {j : Nat} {u : Value} (hu : (f x)[j]? = some u) : w.cell? ⟨g, i * n + j, none⟩ = some u := by
  obtain ⟨A, c', hv, h⟩ := h
  cases hv
  obtain ⟨g', o', hg, hc⟩ := h (Nat.lt_of_le_of_lt (Nat.zero_le i) (List.getElem?_eq_some_iff.1 hx).1)
  cases hg
  have := hc i x hx j u hu
  rwa [Nat.zero_add] at this
def cs12 (W t63 t64 b63 b64 m8 m9 i63 i64 u64 : ByteArray) : List BCs :=
  [⟨t63 ++ ⟨#[49]⟩, true, 0, 0, 0⟩, ⟨⟨#[32]⟩ ++ t64 ++ ⟨#[49]⟩, true, 16, 1, 2⟩, ⟨W, true, 0, 0, 0⟩, ⟨⟨#[49, 32, 61, 61, 32]⟩ ++ W, true, 17, 1, 1⟩,
    ⟨⟨#[40, 120, 32, 58, 32]⟩ ++ b63 ++ ⟨#[105, 110, 116, 41]⟩, true, 0, 0, 0⟩, ⟨⟨#[40, 120, 32, 58, 32]⟩ ++ b64 ++ ⟨#[105, 110, 116, 41]⟩, true, 21, 1, 6⟩, ⟨m8, false, 0, 0, 0⟩, ⟨m9, false, 17, 1, 96⟩,
    ⟨⟨#[109, 111, 100, 117, 108, 101, 32, 109, 32, 123]⟩ ++ i63 ++ ⟨#[108, 101, 116, 32, 120, 61, 49, 59, 125]⟩, false, 0, 0, 0⟩, ⟨⟨#[109, 111, 100, 117, 108, 101, 32, 109, 32, 123]⟩ ++ i64 ++ ⟨#[108, 101, 116, 32, 120, 61, 49, 59, 125]⟩, false, 17, 1, 719⟩,
    ⟨⟨#[109, 111, 100, 117, 108, 101, 32, 109, 32, 123, 108, 101, 116, 32, 120, 61]⟩ ++ W ++ ⟨#[59, 108, 101, 116, 32, 121, 61, 49, 59, 125]⟩, false, 17, 1, 8213⟩, ⟨⟨#[109, 111, 100, 117, 108, 101, 32, 109, 32, 123, 108, 101, 116, 32, 120, 61]⟩ ++ u64 ++ ⟨#[49, 59, 125]⟩, false, 16, 1, 15⟩]
theorem good_e {s : ByteArray} (l : List UInt8) {e a b : Nat} (h : s = bs l) (hl : l.length ≤ 65536) (ho : outE l = (e, ((a : Int), (b : Int)))) : (BCs.mk s true e a b).Good := by
  subst h
  exact ⟨hl, by rw [if_pos rfl]; exact ho⟩
theorem good_m {s : ByteArray} (l : List UInt8) {e a b : Nat} (h : s = bs l) (hl : l.length ≤ 65536) (ho : outM l = (e, ((a : Int), (b : Int)))) : (BCs.mk s false e a b).Good := by
  subst h
  exact ⟨hl, by rw [if_neg Bool.false_ne_true]; exact ho⟩
theorem bs_mid {a b : List UInt8} {x t y : ByteArray} {m : List UInt8} (hx : x = bs a) (ht : t = bs m) (hy : y = bs b) : x ++ t ++ y = bs (a ++ (m ++ b)) := by
  rw [bs_more (bs_more hx ht) hy, List.append_assoc]
theorem good12 {W t63 t64 b63 b64 m8 m9 i63 i64 u64 : ByteArray} (hW : W = bs wideB) (h1 : t63 = bs (repB [45] 63)) (h2 : t64 = bs (repB [45] 64)) (h3 : b63 = bs (repB boxB 63)) (h4 : b64 = bs (repB boxB 64)) (h5 : m8 = bs (repB modB 8)) (h6 : m9 = bs (repB modB 9)) (h7 : i63 = bs (repB impB 63)) (h8 : i64 = bs (repB impB 64)) (h9 : u64 = bs (repB [45] 64)) : ∀ x ∈ cs12 W t63 t64 b63 b64 m8 m9 i63 i64 u64, x.Good := by
  intro x hx
  unfold cs12 at hx
  simp only [List.mem_cons, List.not_mem_nil, or_false] at hx
  rcases hx with rfl | rfl | rfl | rfl | rfl | rfl | rfl | rfl | rfl | rfl | rfl | rfl
  · exact good_e (repB [45] 63 ++ [49]) (bs_more h1 rfl) (by rw [List.length_append, repB_len]; decide) bound1
  · exact good_e (32 :: (repB [45] 64 ++ [49])) (bs_mid (a := [32]) rfl h2 rfl) (by rw [List.length_cons, List.length_append, repB_len]; decide) bound2
  · exact good_e wideB hW (by rw [wide_len]; decide) bound3
  · exact good_e (49 :: 32 :: 61 :: 61 :: 32 :: wideB) (bs_more (a := [49, 32, 61, 61, 32]) rfl hW) (by simp only [List.length_cons, wide_len]; decide) bound4
  · exact good_e ([40, 120, 32, 58, 32] ++ (repB boxB 63 ++ [105, 110, 116, 41])) (bs_mid rfl h3 rfl) (by rw [List.length_append, List.length_append, repB_len]; decide) bound5
  · exact good_e ([40, 120, 32, 58, 32] ++ (repB boxB 64 ++ [105, 110, 116, 41])) (bs_mid rfl h4 rfl) (by rw [List.length_append, List.length_append, repB_len]; decide) bound6
  · exact good_m (repB modB 8) h5 (by rw [repB_len]; decide) bound7
  · exact good_m (repB modB 9) h6 (by rw [repB_len]; decide) bound8
  · exact good_m (headB ++ (repB impB 63 ++ [108, 101, 116, 32, 120, 61, 49, 59, 125])) (bs_mid rfl h7 rfl) (by rw [List.length_append, List.length_append, repB_len]; decide) bound9
  · exact good_m (headB ++ (repB impB 64 ++ [108, 101, 116, 32, 120, 61, 49, 59, 125])) (bs_mid rfl h8 rfl) (by rw [List.length_append, List.length_append, repB_len]; decide) bound10
  · exact good_m (letB ++ (wideB ++ [59, 108, 101, 116, 32, 121, 61, 49, 59, 125])) (bs_mid rfl hW rfl) (by rw [List.length_append, List.length_append, wide_len]; decide) bound11
  · exact good_m (letB ++ (repB [45] 64 ++ [49, 59, 125])) (bs_mid rfl h9 rfl) (by rw [List.length_append, List.length_append, repB_len]; decide) bound12
theorem repB_snoc (l : List UInt8) (k : Nat) : repB l (k + 1) = repB l k ++ l := by
  unfold repB
  rw [List.replicate_succ', List.flatten_append]; simp
theorem sz_alloc (w : World) (o : Obj) : (w.alloc o).heap.size = w.heap.size + 1 := by simp
theorem two_cell (w : World) (A B : Array Value) (a b : TypeId) (j : Nat) {u : Value} (h : A[j]? = some u) : ((w.alloc (.cells A a)).alloc (.cells B b)).cell? ⟨w.heap.size, j, none⟩ = some u :=
  below_cell (((Below.refl (w.alloc (.cells A a)).heap.size (w.alloc (.cells A a))).alloc (Nat.le_refl _) _)) ((World.cell?_alloc_at _ _ _ _ rfl).trans h) (by rw [sz_alloc]; exact Nat.lt_succ_self _)
theorem two_last (w : World) (A B : Array Value) (a b : TypeId) (j : Nat) {u : Value} (h : B[j]? = some u) : ((w.alloc (.cells A a)).alloc (.cells B b)).cell? ⟨w.heap.size + 1, j, none⟩ = some u := by
  rw [← sz_alloc w (.cells A a)]
  exact (World.cell?_alloc_at _ _ _ _ rfl).trans h
end Culp.Gr
namespace Go.Proofs.YtnhdbjhdmdefmaaDoor
set_option linter.unusedSimpArgs false
set_option linter.unusedVariables false
open Go.RowKit Culp Culp.Tr Culp.Gr
set_option maxRecDepth 100000 in
set_option maxHeartbeats 1600000 in
theorem ptimes_any (l : List UInt8) (s : ByteArray) (hs : s = bs l) (n m : Nat) (hm : l.length = m) (h1 : m ≤ 1000) (h2 : n ≤ 10000) (hn : n * m ≤ 100000) (w : World) : Calls Tryd.prog 6 #[.string s, .int .i64 (n : Int)] w (fun E w' => (∃ t, E = .returned (.string t) ∧ t = bs (repB l n) ∧ t.size = n * m) ∧ w = w') := by
  have hsz : s.size ≤ 1000 := by rw [hs, bs_size, hm]; exact h1
  have HSZ : Hid (s.size = m) := Lib.hid (by rw [hs, bs_size, hm])
  have HS := Lib.hid hs
  have HN := Lib.hid hn
  clear hs hm hn
  go_enter Tryd.func6, Tryd.ntmps6
  go_wp2_with fail
  go_loop [5, 6] (fun u i => ∃ (k : Nat) (a : ByteArray), k ≤ n ∧ i = .int .i64 k ∧ u = .string a ∧ Hid (a = bs (repB l k)) ∧ Hid (a.size = k * m) ∧ a.size ≤ 100000) (fun _ i => n - (intOf i).toNat)
  case atStart => exact ⟨0, _, Nat.zero_le _, rfl, rfl, Lib.hid rfl, Lib.hid (by rw [Nat.zero_mul]; rfl), by decide⟩
  case round =>
    obtain ⟨k, a, hk, rfl, rfl, HA, HZ, ha⟩ := hrel
    by_cases hlt : k < n
    · have HZ2 : Hid ((a ++ s).size = (k + 1) * m) := Lib.hid (by rw [ByteArray.size_append, HZ.out, HSZ.out, Nat.add_mul, Nat.one_mul])
      have ha2 : Hid ((a ++ s).size ≤ 100000) := Lib.hid (by rw [HZ2.out]; exact Nat.le_trans (Nat.mul_le_mul_right m hlt) HN.out)
      have HA2 : Hid (a ++ s = bs (repB l (k + 1))) := Lib.hid (by rw [repB_snoc]; exact bs_more HA.out HS.out)
      go_wp2_with fail
      go_round
      case rel => exact ⟨k + 1, _, by omega, by go_num, rfl, HA2, HZ2, ha2.out⟩
      case measure => simp [intOf]; omega
    · obtain rfl : k = n := by omega
      go_wp2_with fail
      go_ret
      exact ⟨⟨a, rfl, HA.out, HZ.out⟩, rfl⟩
set_option maxRecDepth 100000 in
set_option maxHeartbeats 6400000 in
theorem ParseBounds_any (w : World) (hS : Sp w) : Calls Tryd.prog 3 #[] w (Makes (.bool true) w) := by
  have HS := Lib.hid hS
  clear hS
  go_enter Tryd.func3, Tryd.ntmps3
  go_wp2_with fail
  refine (ptimes_any [44, 48] { data := #[44, 48] } rfl 4094 2 rfl (by decide) (by decide) (by decide) _).mono ?_
  rintro E w' ⟨⟨tw, rfl, htw, ztw⟩, rfl⟩
  have HW : Hid (({ data := #[91, 48] } ++ tw ++ { data := #[93] } : ByteArray) = bs wideB) := Lib.hid (bs_mid (a := [91, 48]) (b := [93]) rfl htw rfl)
  have hW : ({ data := #[91, 48] } ++ tw ++ { data := #[93] } : ByteArray).size = 8191 := by rw [HW.out, bs_size, wide_len]
  clear htw
  go_wp2_with fail
  generalize ({ data := #[91, 48] } ++ tw ++ { data := #[93] } : ByteArray) = W at *
  refine (ptimes_any [45] { data := #[45] } rfl 63 1 rfl (by decide) (by decide) (by decide) _).mono ?_
  rintro E w' ⟨⟨t63, rfl, ht63, zt63⟩, rfl⟩
  have Ht63 := Lib.hid ht63
  clear ht63
  go_wp2_with fail
  refine (ptimes_any [45] { data := #[45] } rfl 64 1 rfl (by decide) (by decide) (by decide) _).mono ?_
  rintro E w' ⟨⟨t64, rfl, ht64, zt64⟩, rfl⟩
  have Ht64 := Lib.hid ht64
  clear ht64
  go_wp2_with fail
  refine (ptimes_any boxB { data := #[98, 111, 120, 32] } rfl 63 4 rfl (by decide) (by decide) (by decide) _).mono ?_
  rintro E w' ⟨⟨b63, rfl, hb63, zb63⟩, rfl⟩
  have Hb63 := Lib.hid hb63
  clear hb63
  go_wp2_with fail
  refine (ptimes_any boxB { data := #[98, 111, 120, 32] } rfl 64 4 rfl (by decide) (by decide) (by decide) _).mono ?_
  rintro E w' ⟨⟨b64, rfl, hb64, zb64⟩, rfl⟩
  have Hb64 := Lib.hid hb64
  clear hb64
  go_wp2_with fail
  refine (ptimes_any modB { data := #[109, 111, 100, 117, 108, 101, 32, 109, 32, 123, 125] } rfl 8 11 rfl (by decide) (by decide) (by decide) _).mono ?_
  rintro E w' ⟨⟨m8, rfl, hm8, zm8⟩, rfl⟩
  have Hm8 := Lib.hid hm8
  clear hm8
  go_wp2_with fail
  refine (ptimes_any modB { data := #[109, 111, 100, 117, 108, 101, 32, 109, 32, 123, 125] } rfl 9 11 rfl (by decide) (by decide) (by decide) _).mono ?_
  rintro E w' ⟨⟨m9, rfl, hm9, zm9⟩, rfl⟩
  have Hm9 := Lib.hid hm9
  clear hm9
  go_wp2_with fail
  refine (ptimes_any impB { data := #[105, 109, 112, 111, 114, 116, 32, 97, 46, 98, 59] } rfl 63 11 rfl (by decide) (by decide) (by decide) _).mono ?_
  rintro E w' ⟨⟨i63, rfl, hi63, zi63⟩, rfl⟩
  have Hi63 := Lib.hid hi63
  clear hi63
  go_wp2_with fail
  refine (ptimes_any impB { data := #[105, 109, 112, 111, 114, 116, 32, 97, 46, 98, 59] } rfl 64 11 rfl (by decide) (by decide) (by decide) _).mono ?_
  rintro E w' ⟨⟨i64, rfl, hi64, zi64⟩, rfl⟩
  have Hi64 := Lib.hid hi64
  clear hi64
  go_wp2_with fail
  refine (ptimes_any [45] { data := #[45] } rfl 64 1 rfl (by decide) (by decide) (by decide) _).mono ?_
  rintro E w' ⟨⟨u64, rfl, hu64, zu64⟩, rfl⟩
  have Hu64 := Lib.hid hu64
  clear hu64
  go_wp2_with fail
  have HGOOD := Lib.hid (good12 HW.out Ht63.out Ht64.out Hb63.out Hb64.out Hm8.out Hm9.out Hi63.out Hi64.out Hu64.out)
  have HST := Lib.hid (plit_structs bcells_len (cs12 W t63 t64 b63 b64 m8 m9 i63 i64 u64) w 26 w.heap.size rfl)
  have HB40 : Hid (Below w.heap.size w (w.alloc (.cells ((cs12 W t63 t64 b63 b64 m8 m9 i63 i64 u64).flatMap BCs.cells).toArray 26))) := Lib.hid ((Below.refl _ _).alloc (Nat.le_refl _) _)
  have HG3 : Hid (w.heap.size < (w.alloc (.cells ((cs12 W t63 t64 b63 b64 m8 m9 i63 i64 u64).flatMap BCs.cells).toArray 26)).heap.size) := Lib.hid (by rw [sz_alloc]; exact Nat.lt_succ_self _)
  clear HW Ht63 Ht64 Hb63 Hb64 Hm8 Hm9 Hi63 Hi64 Hu64 zt63 zt64 zb63 zb64 zm8 zm9 zi63 zi64 zu64
  have hW0 : ∃ W0, W0 = (w.alloc (.cells ((cs12 W t63 t64 b63 b64 m8 m9 i63 i64 u64).flatMap BCs.cells).toArray 26)) := ⟨_, rfl⟩
  obtain ⟨W9, hW9⟩ := hW0
  rw [← hW9] at HST HB40 HG3
  have HSQ := Lib.hid (HS.out.later HB40.out)
  obtain ⟨g3, hg3⟩ : ∃ g, g = w.heap.size := ⟨_, rfl⟩
  rw [← hg3] at HST HG3 ⊢
  clear hg3 HS
  have HW9 := Lib.hid hW9
  clear hW9
  go_loopw [3] (fun i wx => ∃ k : Nat, k ≤ 12 ∧ i = .int .i64 k ∧ Hid (Below W9.heap.size W9 wx)) (fun i _ => 12 - (intOf i).toNat)
  case atStart => exact ⟨0, Nat.zero_le _, rfl, Lib.hid (by rw [HW9.out]; exact Below.refl _ _)⟩
  case round =>
    clear HW9
    obtain ⟨k, hk, rfl, HBX⟩ := hrel
    by_cases hlt : k < 12
    · obtain ⟨x, hx⟩ : ∃ x, (cs12 W t63 t64 b63 b64 m8 m9 i63 i64 u64)[k]? = some x := ⟨_, List.getElem?_eq_getElem (show k < (cs12 W t63 t64 b63 b64 m8 m9 i63 i64 u64).length from hlt)⟩
      have HG := Lib.hid (HGOOD.out x (List.mem_of_getElem? hx))
      have c0 : wr.cell? ⟨g3, k * 5, none⟩ = some (.string x.s) := below_cell HBX.out (pstructs_at HST.out hx (j := 0) rfl) HG3.out
      have c1 : wr.cell? ⟨g3, k * 5 + 1, none⟩ = some (.bool x.ex) := below_cell HBX.out (pstructs_at HST.out hx (j := 1) rfl) HG3.out
      have c2 : wr.cell? ⟨g3, k * 5 + 2, none⟩ = some (.int .i64 x.e) := below_cell HBX.out (pstructs_at HST.out hx (j := 2) rfl) HG3.out
      have c3 : wr.cell? ⟨g3, k * 5 + 3, none⟩ = some (.int .i64 x.l) := below_cell HBX.out (pstructs_at HST.out hx (j := 3) rfl) HG3.out
      have c4 : wr.cell? ⟨g3, k * 5 + 4, none⟩ = some (.int .i64 x.c) := below_cell HBX.out (pstructs_at HST.out hx (j := 4) rfl) HG3.out
      clear hx
      obtain ⟨s, ex, e, l, c⟩ := x
      simp only at c0 c1 c2 c3 c4
      go_upto_region 9 with fail
      obtain ⟨p, hp⟩ : ∃ p, p = wr.heap.size := ⟨_, rfl⟩
      have s0 : ((wr.alloc (.cells #[.string s, .bool ex, .int .i64 e, .int .i64 l, .int .i64 c] 26)).alloc (.cells #[.int .i64 0, .int .i64 0] 25)).cell? ⟨wr.heap.size, 0, none⟩ = some (.string s) := two_cell _ _ _ _ _ 0 rfl
      have s1 : ((wr.alloc (.cells #[.string s, .bool ex, .int .i64 e, .int .i64 l, .int .i64 c] 26)).alloc (.cells #[.int .i64 0, .int .i64 0] 25)).cell? ⟨wr.heap.size, 1, none⟩ = some (.bool ex) := two_cell _ _ _ _ _ 1 rfl
      have s2 : ((wr.alloc (.cells #[.string s, .bool ex, .int .i64 e, .int .i64 l, .int .i64 c] 26)).alloc (.cells #[.int .i64 0, .int .i64 0] 25)).cell? ⟨wr.heap.size, 2, none⟩ = some (.int .i64 e) := two_cell _ _ _ _ _ 2 rfl
      have s3 : ((wr.alloc (.cells #[.string s, .bool ex, .int .i64 e, .int .i64 l, .int .i64 c] 26)).alloc (.cells #[.int .i64 0, .int .i64 0] 25)).cell? ⟨wr.heap.size, 3, none⟩ = some (.int .i64 l) := two_cell _ _ _ _ _ 3 rfl
      have s4 : ((wr.alloc (.cells #[.string s, .bool ex, .int .i64 e, .int .i64 l, .int .i64 c] 26)).alloc (.cells #[.int .i64 0, .int .i64 0] 25)).cell? ⟨wr.heap.size, 4, none⟩ = some (.int .i64 c) := two_cell _ _ _ _ _ 4 rfl
      have HP : Hid (Pl2 (wr.heap.size + 1) 0 0 ((wr.alloc (.cells #[.string s, .bool ex, .int .i64 e, .int .i64 l, .int .i64 c] 26)).alloc (.cells #[.int .i64 0, .int .i64 0] 25))) := Lib.hid (by rw [← sz_alloc wr (.cells #[.string s, .bool ex, .int .i64 e, .int .i64 l, .int .i64 c] 26)]; exact pl2_alloc _ 0 0)
      have hz : ((wr.alloc (.cells #[.string s, .bool ex, .int .i64 e, .int .i64 l, .int .i64 c] 26)).alloc (.cells #[.int .i64 0, .int .i64 0] 25)).heap.size = wr.heap.size + 2 := by rw [sz_alloc, sz_alloc]
      have HB0 : Hid (Below W9.heap.size W9 ((wr.alloc (.cells #[.string s, .bool ex, .int .i64 e, .int .i64 l, .int .i64 c] 26)).alloc (.cells #[.int .i64 0, .int .i64 0] 25))) := Lib.hid ((HBX.out.alloc HBX.out.size _).alloc (by have := HBX.out.size; rw [sz_alloc]; omega) _)
      have HPW : Hid (W9.heap.size ≤ wr.heap.size) := Lib.hid HBX.out.size
      generalize (wr.alloc (.cells #[.string s, .bool ex, .int .i64 e, .int .i64 l, .int .i64 c] 26)).alloc (.cells #[.int .i64 0, .int .i64 0] 25) = W0 at *
      clear c0 c1 c2 c3 c4 HBX
      rw [← hp] at s0 s1 s2 s3 s4 HP hz HPW ⊢
      clear hp wr
      have hcv := conv_bytes W0 s
      obtain ⟨hbv, hb6⟩ := bytes_of W0 s
      have HBV := Lib.hid hbv
      have HB6 := Lib.hid (below_later hb6 HB0.out)
      have HZ := Lib.hid hz
      have HP2 := Lib.hid (HP.out.later hb6)
      clear hz hbv hb6 HB0 HP
      cases ex
      · go_wp2_with fail
        clear hcv
        refine (readMods_any s _ _ HBV.out HG.out.1 (HSQ.out.later HB6.out)).mono ?_
        rintro E w6 hr
        obtain ⟨hb7, v, rfl⟩ := mods_out hr
        have hoG : outM s.data.toList = _ := HG.out.2
        rw [hoG]
        have HB7 := Lib.hid (below_later hb7 HB6.out)
        have hb8 : Below W0.heap.size W0 w6 := below_later hb7 (bytes_of W0 s).2
        rw [HZ.out] at hb8
        have y2 := below_cell hb8 s2 (Nat.lt_add_of_pos_right (by decide))
        have y3 := below_cell hb8 s3 (Nat.lt_add_of_pos_right (by decide))
        have y4 := below_cell hb8 s4 (Nat.lt_add_of_pos_right (by decide))
        have HP3 := Lib.hid (HP2.out.later hb7)
        have z0 := HP3.out.c0
        have z1 := HP3.out.c1
        have f0 := HP3.out.free 0
        have f1 := HP3.out.free 1
        have fe1 := (blk_set HP3.out 0 (.int .i64 l)).free 1
        have ce1 := (blk_set HP3.out 0 (.int .i64 l)).cell (i := 1) rfl
        clear hr hb7 hb8 s0 s1 s2 s3 s4 HBV HB6 HP2 hoG
        go_upto_region 12 with fail
        have HB8 : Hid (Below W9.heap.size W9 ((w6.setCell ⟨p + 1, 0, none⟩ (.int .i64 l)).setCell ⟨p + 1, 1, none⟩ (.int .i64 c))) := Lib.hid ((HB7.out.setCell (p := ⟨p + 1, 0, none⟩) (Nat.le_succ_of_le HPW.out) (.int .i64 l)).setCell (p := ⟨p + 1, 1, none⟩) (Nat.le_succ_of_le HPW.out) (.int .i64 c))
        have HP8 := Lib.hid (pl2_set HP3.out l c)
        have u2 := far_cell (far_cell y2 (j := 0) (b := p + 1) (Nat.succ_ne_self p) (.int .i64 l)) (j := 1) (b := p + 1) (Nat.succ_ne_self p) (.int .i64 c)
        have u3 := far_cell (far_cell y3 (j := 0) (b := p + 1) (Nat.succ_ne_self p) (.int .i64 l)) (j := 1) (b := p + 1) (Nat.succ_ne_self p) (.int .i64 c)
        have u4 := far_cell (far_cell y4 (j := 0) (b := p + 1) (Nat.succ_ne_self p) (.int .i64 l)) (j := 1) (b := p + 1) (Nat.succ_ne_self p) (.int .i64 c)
        clear y2 y3 y4 z0 z1 f0 f1 fe1 ce1 HP3 HB7
        generalize (w6.setCell ⟨p + 1, 0, none⟩ (.int .i64 l)).setCell ⟨p + 1, 1, none⟩ (.int .i64 c) = W8 at *
        have v0 := HP8.out.c0
        have v1 := HP8.out.c1
        clear HP8
        go_wp2_with fail
        go_roundw
        case rel => exact ⟨k + 1, by omega, by go_num, HB8⟩
        case measure => simp [intOf]; omega
      · go_wp2_with fail
        clear hcv
        refine (readExpr_any s _ _ HBV.out HG.out.1 (HSQ.out.later HB6.out)).mono ?_
        rintro E w6 hr
        obtain ⟨hb7, v, rfl⟩ := expr_out hr
        have hoG : outE s.data.toList = _ := HG.out.2
        rw [hoG]
        have HB7 := Lib.hid (below_later hb7 HB6.out)
        have hb8 : Below W0.heap.size W0 w6 := below_later hb7 (bytes_of W0 s).2
        rw [HZ.out] at hb8
        have y2 := below_cell hb8 s2 (Nat.lt_add_of_pos_right (by decide))
        have y3 := below_cell hb8 s3 (Nat.lt_add_of_pos_right (by decide))
        have y4 := below_cell hb8 s4 (Nat.lt_add_of_pos_right (by decide))
        have HP3 := Lib.hid (HP2.out.later hb7)
        have z0 := HP3.out.c0
        have z1 := HP3.out.c1
        have f0 := HP3.out.free 0
        have f1 := HP3.out.free 1
        have fe1 := (blk_set HP3.out 0 (.int .i64 l)).free 1
        have ce1 := (blk_set HP3.out 0 (.int .i64 l)).cell (i := 1) rfl
        clear hr hb7 hb8 s0 s1 s2 s3 s4 HBV HB6 HP2 hoG
        go_upto_region 12 with fail
        have HB8 : Hid (Below W9.heap.size W9 ((w6.setCell ⟨p + 1, 0, none⟩ (.int .i64 l)).setCell ⟨p + 1, 1, none⟩ (.int .i64 c))) := Lib.hid ((HB7.out.setCell (p := ⟨p + 1, 0, none⟩) (Nat.le_succ_of_le HPW.out) (.int .i64 l)).setCell (p := ⟨p + 1, 1, none⟩) (Nat.le_succ_of_le HPW.out) (.int .i64 c))
        have HP8 := Lib.hid (pl2_set HP3.out l c)
        have u2 := far_cell (far_cell y2 (j := 0) (b := p + 1) (Nat.succ_ne_self p) (.int .i64 l)) (j := 1) (b := p + 1) (Nat.succ_ne_self p) (.int .i64 c)
        have u3 := far_cell (far_cell y3 (j := 0) (b := p + 1) (Nat.succ_ne_self p) (.int .i64 l)) (j := 1) (b := p + 1) (Nat.succ_ne_self p) (.int .i64 c)
        have u4 := far_cell (far_cell y4 (j := 0) (b := p + 1) (Nat.succ_ne_self p) (.int .i64 l)) (j := 1) (b := p + 1) (Nat.succ_ne_self p) (.int .i64 c)
        clear y2 y3 y4 z0 z1 f0 f1 fe1 ce1 HP3 HB7
        generalize (w6.setCell ⟨p + 1, 0, none⟩ (.int .i64 l)).setCell ⟨p + 1, 1, none⟩ (.int .i64 c) = W8 at *
        have v0 := HP8.out.c0
        have v1 := HP8.out.c1
        clear HP8
        go_wp2_with fail
        go_roundw
        case rel => exact ⟨k + 1, by omega, by go_num, HB8⟩
        case measure => simp [intOf]; omega
    · obtain rfl : k = 12 := by omega
      clear hk hlt
      go_wp2_with fail
      refine (pworks6_any _ (HSQ.out.later HBX.out)).mono ?_
      rintro e w2 ⟨rfl, hb2⟩
      have HB2 := Lib.hid (below_later (below_later hb2 HBX.out) HB40.out)
      clear hb2
      go_wp2_with fail
      go_ret
      exact Makes.mk rfl HB2.out
end Go.Proofs.YtnhdbjhdmdefmaaDoor
