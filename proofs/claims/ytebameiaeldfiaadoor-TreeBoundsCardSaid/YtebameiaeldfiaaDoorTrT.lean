
/- The walk of the statement TreeBounds. -/
import Derived.Test.YtebameiaeldfiaaDoorTrS
namespace Culp.Tr
set_option linter.unusedSimpArgs false
set_option linter.unusedVariables false
def neg1 : Nd := ⟨16, 1, 0, ⟨#[]⟩, ⟨#[]⟩, ⟨#[]⟩, 0, 0⟩
def numN (n : Int) : Nd := ⟨1, 0, n, ⟨#[]⟩, ⟨#[]⟩, ⟨#[]⟩, 0, 0⟩
def listN (n : Int) : Nd := ⟨21, n, 0, ⟨#[]⟩, ⟨#[]⟩, ⟨#[]⟩, 0, 0⟩
/-- So many signs before a number; a list of so many numbers. -/
def chainL (n : Nat) : List Nd := List.replicate n neg1 ++ [numN 0]
def wideL (n : Nat) : List Nd := listN n :: (List.range n).map fun i : Nat => numN (i : Int)
theorem chain63 : check (chainL 63) = (0, 0) := by decide +kernel
theorem chain64 : check (chainL 64) = (16, 64) := by decide +kernel
theorem may_num (n : Nat) : may (numN (n : Int)) = true := by
  have h : decide (0 ≤ (n : Int)) = true := decide_eq_true (by omega)
  unfold may kOk nOk numN
  simp [arit, sOk, tOk, uOk]
theorem may_list (n : Nat) : may (listN (n : Int)) = true := by
  unfold may kOk nOk listN
  simp [arit, sOk, tOk, uOk]
theorem scan_nums : ∀ (m k i : Nat), scan ((List.range' k m).map fun i : Nat => numN (i : Int)) [0, (m : Int), 0] i none = (0, 0)
  | 0, k, i => rfl
  | m + 1, k, i => by
    rw [List.range'_succ, List.map_cons, scan_cons]
    have hp : pop [0, ((m + 1 : Nat) : Int), 0] = [((m + 1 : Nat) : Int), 0] := by
      unfold pop
      rw [List.dropWhile_cons, if_pos (show ((0 : Int) == 0) = true from rfl), List.dropWhile_cons, if_neg (by simp; omega)]
    rw [hp]
    simp only
    rw [if_pos (may_num k), if_neg (by simp)]
    have h1 : ((m + 1 : Nat) : Int) - 1 = (m : Int) := by omega
    rw [h1]
    exact scan_nums m (k + 1) (i + 1)
theorem check_wide (n : Nat) (h0 : 0 < n) (hn : n ≤ 4095) : check (wideL n) = (0, 0) := by
  have hl : (wideL n).length = n + 1 := by unfold wideL; simp
  unfold check
  rw [if_neg (by rw [hl]; omega)]
  unfold wideL
  rw [scan_cons]
  have hp : pop [1] = [1] := rfl
  rw [hp]
  simp only
  rw [if_pos (may_list n), if_neg (by simp)]
  obtain ⟨m, rfl⟩ : ∃ m, n = m + 1 := ⟨n - 1, by omega⟩
  rw [List.range_eq_range', List.range'_succ, List.map_cons, scan_cons]
  have hp2 : pop ((listN ((m + 1 : Nat) : Int)).kids :: (1 - 1) :: []) = [((m + 1 : Nat) : Int), 0] := by
    unfold pop listN
    rw [List.dropWhile_cons, if_neg (by simp; omega)]; rfl
  rw [hp2]
  simp only
  rw [if_pos (may_num 0), if_neg (by simp)]
  have h1 : ((m + 1 : Nat) : Int) - 1 = (m : Int) := by omega
  rw [h1]
  exact scan_nums m (0 + 1) (0 + 1 + 1)
theorem check_many (n : Nat) (hn : 4096 ≤ n) : check (wideL n) = (17, 0) := by
  unfold check
  rw [if_pos (.inr (by unfold wideL; simp; omega))]
def strN (s : List UInt8) : Nd := ⟨2, 0, 0, ⟨s.toArray⟩, ⟨#[]⟩, ⟨#[]⟩, 0, 0⟩
def asN (t : List UInt8) : Nd := ⟨29, 1, 0, ⟨#[]⟩, ⟨t.toArray⟩, ⟨#[]⟩, 0, 0⟩
theorem str_yes : check [strN (List.replicate 63 97 ++ [10])] = (0, 0) := by decide +kernel
theorem str_no : check [strN (List.replicate 63 97 ++ [10, 98])] = (18, 0) := by decide +kernel
theorem as_yes : check [asN (List.replicate 63 108 ++ [105]), numN 0] = (0, 0) := by decide +kernel
theorem as_no : check [asN (List.replicate 64 108 ++ [105]), numN 0] = (18, 0) := by decide +kernel
end Culp.Tr
namespace Culp
open Go Go.RowKit
theorem nodes_own {w : World} {base : Nat} {e : TypeId} {v : Value} {L : List Nd} (h : w.ownsRow base e 8 v L.length (L.flatMap Nd.cells)) : Nodes w v L := by
  rcases h.2 with ⟨rfl, h0⟩ | ⟨g, cap, cur, rfl, hb, hh, hc, hm, hsz, htk⟩
  · exact ⟨none, 0, by rw [h0], by omega, fun h => by omega⟩
  · refine ⟨_, cap, rfl, hc, fun h0 => ⟨g, 0, rfl, fun i x hx j u hu => ?_⟩⟩
    rw [Nat.zero_add]
    have hi := (List.getElem?_eq_some_iff.1 hx).1
    have hj : j < 8 := by have := (List.getElem?_eq_some_iff.1 hu).1; simpa [Nd.cells] using this
    rw [h.cellAt _ (by omega)]
    have : ∀ (T : List Nd) (i : Nat), T[i]? = some x → (T.flatMap Nd.cells)[i * 8 + j]? = some u := by
      intro T
      induction T with
      | nil => intro i h; simp at h
      | cons y T ih =>
        intro i h
        cases i with
        | zero =>
          simp at h; subst h
          rw [List.flatMap_cons, Nat.zero_mul, Nat.zero_add, List.getElem?_append_left (by simpa [Nd.cells] using hj)]
          exact hu
        | succ i =>
          have h8 : y.cells.length = 8 := rfl
          rw [List.flatMap_cons, List.getElem?_append_right (by rw [h8]; omega), h8, show (i + 1) * 8 + j - 8 = i * 8 + j by omega]
          exact ih i (by simpa using h)
    exact this L i hx
end Culp
namespace Go.Proofs.YtebameiaeldfiaaDoor
open Go.RowKit Go.Maps Culp

/-- A list of nodes of the call's own. -/
def ListRes (L : List Nd) (w : World) (e : Ending) (w' : World) : Prop := ∃ v, e = .returned v ∧ Nodes w' v L ∧ Below w.heap.size w w'
set_option maxRecDepth 100000 in
theorem chain_any (n : Nat) (w : World) (hn : n ≤ 1000) : Calls Tryd.prog 26 #[.int .i64 n] w (ListRes (Tr.chainL n) w) := by
  go_enter Tryd.func26, Tryd.ntmps26
  go_wp2_with fail
  go_loopw [3, 4] (fun v i wr => ∃ (k : Nat) (u : Value), u = v ∧ i = .int .i64 k ∧ k ≤ n ∧ Hid (wr.ownsRow w.heap.size 41 8 u k ((List.replicate k Tr.neg1).flatMap Nd.cells)) ∧ Hid (Below w.heap.size w wr)) (fun _ i _ => n - (intOf i).toNat)
  case atStart => exact ⟨0, _, rfl, rfl, Nat.zero_le _, Lib.hid (World.ownsRow_nil _ _ _ _), Lib.hid (Below.refl _ _)⟩
  case round =>
    obtain ⟨k, u, rfl, rfl, hk, HOW, HB⟩ := hrel
    have own4 := HOW.out
    by_cases hlt : k < n
    ·
      go_wp2_with (at_builtin; refine append_agg rfl (.tmp 10) (.tmp 12) 22 41 rfl w.heap.size _ 8 88 Tryd.underlying22 node_info rfl (by decide) _ _ _ rfl own4 [.int .i8 16, .int .i64 1, .int .i64 0, .string ⟨#[]⟩, .string ⟨#[]⟩, .string ⟨#[]⟩, .int .i64 0, .int .i64 0] rfl wr.heap.size rfl rfl ?_ ?_ ?_ ?_ ?_)
      · intro y hy
        simp only [List.mem_cons, List.not_mem_nil, or_false] at hy
        rcases hy with rfl | rfl | rfl | rfl | rfl | rfl | rfl | rfl <;> rfl
      · omega
      · omega
      · exact HB.out.size
      intro v' w5 hown' hg' hb'
      have HO5 : Hid (w5.ownsRow w.heap.size 41 8 v' (k + 1) ((List.replicate (k + 1) Tr.neg1).flatMap Nd.cells)) := Lib.hid (by
        rw [List.replicate_succ', List.flatMap_append]; exact hown')
      have HB5 := Lib.hid (HB.out.trans hb')
      clear own4 hown' hg' hb' HOW HB
      go_wp2_with fail
      go_roundw
      case rel => exact ⟨k + 1, v', rfl, by go_num, by omega, HO5, HB5⟩
      case measure => simp [intOf]; omega
    · have hkn : k = n := by omega
      have HKN := Lib.hid hkn
      clear hkn
      go_wp2_with (at_builtin; refine append_agg rfl (.tmp 14) (.tmp 16) 22 41 rfl w.heap.size _ 8 88 Tryd.underlying22 node_info rfl (by decide) _ _ _ rfl own4 [.int .i8 1, .int .i64 0, .int .i64 0, .string ⟨#[]⟩, .string ⟨#[]⟩, .string ⟨#[]⟩, .int .i64 0, .int .i64 0] rfl wr.heap.size rfl rfl ?_ ?_ ?_ ?_ ?_)
      · intro y hy
        simp only [List.mem_cons, List.not_mem_nil, or_false] at hy
        rcases hy with rfl | rfl | rfl | rfl | rfl | rfl | rfl | rfl <;> rfl
      · omega
      · omega
      · exact HB.out.size
      intro v' w5 hown' hg' hb'
      have HO5 : Hid (w5.ownsRow w.heap.size 41 8 v' (Tr.chainL n).length ((Tr.chainL n).flatMap Nd.cells)) := Lib.hid (by
        unfold Tr.chainL
        rw [← HKN.out, List.flatMap_append, List.length_append, List.length_replicate]; exact hown')
      have HB5 := Lib.hid (HB.out.trans hb')
      clear own4 hown' hg' hb' HOW HB
      go_wp2_with fail
      go_ret
      exact ⟨v', rfl, nodes_own HO5.out, HB5.out⟩
set_option maxRecDepth 100000 in
theorem wide_any (n : Nat) (w : World) (hn : n ≤ 100000) : Calls Tryd.prog 27 #[.int .i64 n] w (ListRes (Tr.wideL n) w) := by
  go_enter Tryd.func27, Tryd.ntmps27
  go_wp2_with fail
  have h0 : (w.alloc (.cells #[.int .i8 21, .int .i64 n, .int .i64 0, .string ⟨#[]⟩, .string ⟨#[]⟩, .string ⟨#[]⟩, .int .i64 0, .int .i64 0] 41)).ownsRow w.heap.size 41 8 (.slice (some ⟨w.heap.size, 0, none⟩) 1 1) 1 (Tr.listN n).cells :=
    ⟨rfl, .inr ⟨w.heap.size, 1, _, rfl, Nat.le_refl _, (MapKept.heap_alloc w _).1, Nat.le_refl _, by unfold maxLen; omega, rfl, rfl⟩⟩
  have HO0 := Lib.hid h0
  have HB0 : Hid (Below w.heap.size w (w.alloc (.cells #[.int .i8 21, .int .i64 n, .int .i64 0, .string ⟨#[]⟩, .string ⟨#[]⟩, .string ⟨#[]⟩, .int .i64 0, .int .i64 0] 41))) := Lib.hid ((Below.refl _ _).alloc (Nat.le_refl _) _)
  clear h0
  generalize w.alloc (.cells #[.int .i8 21, .int .i64 n, .int .i64 0, .string ⟨#[]⟩, .string ⟨#[]⟩, .string ⟨#[]⟩, .int .i64 0, .int .i64 0] 41) = w1 at *
  go_loopw [3, 4] (fun v i wr => ∃ (k : Nat) (u : Value), u = v ∧ i = .int .i64 k ∧ k ≤ n ∧ Hid (wr.ownsRow w.heap.size 41 8 u (k + 1) ((Tr.listN n :: (List.range k).map fun i : Nat => Tr.numN (i : Int)).flatMap Nd.cells)) ∧ Hid (Below w.heap.size w wr)) (fun _ i _ => n - (intOf i).toNat)
  case atStart => exact ⟨0, _, rfl, rfl, Nat.zero_le _, HO0, HB0⟩
  case round =>
    clear HO0 HB0
    obtain ⟨k, u, rfl, rfl, hk, HOW, HB⟩ := hrel
    have own4 := HOW.out
    by_cases hlt : k < n
    ·
      go_wp2_with (at_builtin; refine append_agg rfl (.tmp 13) (.tmp 16) 22 41 rfl w.heap.size _ 8 88 Tryd.underlying22 node_info rfl (by decide) _ _ _ rfl own4 [.int .i8 1, .int .i64 0, .int .i64 k, .string ⟨#[]⟩, .string ⟨#[]⟩, .string ⟨#[]⟩, .int .i64 0, .int .i64 0] rfl wr.heap.size rfl rfl ?_ ?_ ?_ ?_ ?_)
      · intro y hy
        simp only [List.mem_cons, List.not_mem_nil, or_false] at hy
        rcases hy with rfl | rfl | rfl | rfl | rfl | rfl | rfl | rfl <;> rfl
      · omega
      · omega
      · exact HB.out.size
      intro v' w5 hown' hg' hb'
      have HO5 : Hid (w5.ownsRow w.heap.size 41 8 v' (k + 1 + 1) ((Tr.listN n :: (List.range (k + 1)).map fun i : Nat => Tr.numN (i : Int)).flatMap Nd.cells)) := Lib.hid (by
        rw [List.range_succ, List.map_append, ← List.cons_append, List.flatMap_append]; exact hown')
      have HB5 := Lib.hid (HB.out.trans hb')
      clear own4 hown' hg' hb' HOW HB
      go_wp2_with fail
      go_roundw
      case rel => exact ⟨k + 1, v', rfl, by go_num, by omega, HO5, HB5⟩
      case measure => simp [intOf]; omega
    · have hkn : k = n := by omega
      have HO5 : Hid (wr.ownsRow w.heap.size 41 8 u (Tr.wideL n).length ((Tr.wideL n).flatMap Nd.cells)) := Lib.hid (by
        have hl : (Tr.wideL n).length = n + 1 := by unfold Tr.wideL; simp
        rw [hl, ← hkn]
        unfold Tr.wideL
        rw [hkn] at own4 ⊢
        exact own4)
      clear own4 HOW hkn
      go_wp2_with fail
      go_ret
      exact ⟨u, rfl, nodes_own HO5.out, HB.out⟩
end Go.Proofs.YtebameiaeldfiaaDoor
