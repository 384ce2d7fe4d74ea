
/- Walks of insert: the inserter in its block; annotations, distances, the same wish of several kids. -/
import Derived.Test.YtdfadmhomjcmeaaGreatDoorLb
import Derived.Test.YtdfadmhomjcmeaaGreatDoorR4W
import Derived.Test.YtdfadmhomjcmeaaGreatDoorNz
namespace Go.Proofs.YtdfadmhomjcmeaaGreatDoor
set_option linter.unusedSimpArgs false
set_option linter.unusedVariables false
open Go.RowKit Culp

theorem iunknown_any (s : ByteArray) (h : NoteOk s) (w : World) : Calls Tryz.prog 118 #[.string s] w (Gives (.string (Tr.noteT s).str) w) := by
  by_cases h0 : s.size = 0
  · have q := empty_list h0
    have HR : Hid (Tr.noteT s = .dyn) := Lib.hid (by unfold Tr.noteT; rw [if_pos h0])
    clear h0 h
    go_enter Tryz.func118, Tryz.ntmps118
    go_wp2_with fail
    go_ret
    rw [HR.out]
    exact Gives.mk rfl
  · have q := some_list h0
    obtain ⟨t, rfl, _, h2⟩ := h h0
    rw [h2]
    clear h0 h h2
    go_enter Tryz.func118, Tryz.ntmps118
    go_wp2_with fail
    go_ret
    exact Gives.mk rfl
/-- A site's cells. -/
def scells (m : ByteArray) (s : Ins.Sit) : List Value := [.string m, .string { data := #[] }, .int .i64 s.1, .int .i64 s.2.1, .int .i64 s.2.2]
/-- The inserter in its block: the module, the tree, the types, the sites so far. What the tree and the types lie in is older. -/
structure InAt (W : World) (c : Nat) (m : ByteArray) (tv yv sv : Value) (S : List Ins.Sit) (w : World) : Prop where
  box : w.heap[c]? = some (.cells #[.string m, tv, yv, sv] 88 (0, 0))
  own : w.ownsRow W.heap.size 41 5 sv S.length (S.flatMap (scells m))
  low : Below W.heap.size W w
  new : W.heap.size ≤ c
section
variable {W w w' : World} {c : Nat} {m : ByteArray} {tv yv sv : Value} {S : List Ins.Sit}
theorem InAt.lt (h : InAt W c m tv yv sv S w) : c < w.heap.size := (Array.getElem?_eq_some_iff.1 h.box).1
theorem InAt.c0 (h : InAt W c m tv yv sv S w) : w.cell? ⟨c, 0, none⟩ = some (.string m) := by simp [World.cell?, h.box]
theorem InAt.c1 (h : InAt W c m tv yv sv S w) : w.cell? ⟨c, 1, none⟩ = some tv := by simp [World.cell?, h.box]
theorem InAt.c2 (h : InAt W c m tv yv sv S w) : w.cell? ⟨c, 2, none⟩ = some yv := by simp [World.cell?, h.box]
theorem InAt.c3 (h : InAt W c m tv yv sv S w) : w.cell? ⟨c, 3, none⟩ = some sv := by simp [World.cell?, h.box]
theorem InAt.free (h : InAt W c m tv yv sv S w) : w.frozen? ⟨c, 3, none⟩ = false := by simp [World.frozen?, h.box]
theorem InAt.later (h : InAt W c m tv yv sv S w) (hb : Below w.heap.size w w') : InAt W c m tv yv sv S w' := ⟨(hb.block c h.lt).trans h.box, own_later h.own hb, below_later hb h.low, h.new⟩
theorem InAt.ne (h : InAt W c m tv yv sv S w) : sv.ownBlock ≠ some c := own_ne h.own fun cur hc => by
  have := h.box
  rw [hc] at this
  simp only [Option.some.injEq, Obj.cells.injEq] at this
  exact absurd this.2.1 (by decide)
end
/-- Types' texts as they were when the inserter was made, read now. -/
theorem types_read {W w : World} {yv : Value} {ys : List ByteArray} {p : Nat} {s : ByteArray} (h : Nms W yv ys) (hb : Below W.heap.size W w) (hp : ys[p]? = some s) : ∃ g C, yv = .slice (some ⟨g, 0, none⟩) ys.length C ∧ w.cell? ⟨g, p, none⟩ = some (.string s) ∧ p < ys.length ∧ g < W.heap.size := by
  obtain ⟨A, C, rfl, h2, h3, h4⟩ := h
  have hlt := (List.getElem?_eq_some_iff.1 hp).1
  cases A with
  | none =>
    rw [(h3 rfl).1] at hlt
    simp at hlt
  | some ad =>
    obtain ⟨g, rfl, hg, hc⟩ := h4 ad rfl
    exact ⟨g, C, rfl, cell_later hb (hc p s hp), hlt, hg⟩
/-- How far a name's binder is: the names stand with the innermost last. -/
theorem dist_none {N : List ByteArray} {s : ByteArray} (h : ∀ n ∈ N, n ≠ s) : Ins.dist N s = 0 := if_neg fun hm => h s hm rfl
theorem dist_some {A B : List ByteArray} {s : ByteArray} (h : ∀ n ∈ A, n ≠ s) : Ins.dist (A ++ s :: B) s = A.length := by
  unfold Ins.dist
  rw [if_pos (List.mem_append_right _ List.mem_cons_self)]
  induction A with
  | nil => simp
  | cons a A ih =>
    have ha : a ≠ s := h a List.mem_cons_self
    rw [List.cons_append, List.idxOf_cons]
    have hb : (a == s) = false := beq_eq_false_iff_ne.2 ha
    rw [hb]
    simp only [cond_false, List.length_cons]
    rw [ih (fun n hn => h n (List.mem_cons_of_mem _ hn))]
set_option maxHeartbeats 800000 in
theorem distance_any (N : List ByteArray) (nv : Value) (s : ByteArray) (w : World) (hN : Txts w nv N) (hl : N.length ≤ 1000000000) :
    Calls Tryz.prog 123 #[nv, .string s] w (Gives (.int .i64 (Ins.dist N.reverse s : Int)) w) := by
  obtain ⟨A, C, rfl, h2, h3⟩ := hN
  have H3 := Lib.hid h3
  clear h3
  go_enter Tryz.func123, Tryz.ntmps123
  go_wp2_with fail
  go_loopw [5] (fun i wr => ∃ k : Nat, i = .int .i64 ((k : Int) - 1) ∧ k ≤ N.length ∧ Hid (∀ (j : Nat) (n : ByteArray), k ≤ j → N[j]? = some n → n ≠ s) ∧ wr = w) (fun i _ => (intOf i + 1).toNat)
  case atStart => exact ⟨N.length, by go_num, Nat.le_refl _, Lib.hid (fun j n hj hn => by rw [List.getElem?_eq_none hj] at hn; cases hn), rfl⟩
  case round =>
    obtain ⟨k, rfl, hk, HM, rfl⟩ := hrel
    cases k with
    | zero =>
      have HR : Hid (Ins.dist N.reverse s = 0) := Lib.hid (dist_none fun n hn => by
        obtain ⟨j, hj, hjn⟩ := List.mem_iff_getElem.1 (List.mem_reverse.1 hn)
        exact HM.out j n (Nat.zero_le _) (by rw [List.getElem?_eq_getElem hj, hjn]))
      clear HM
      go_wp2_with fail
      go_ret
      rw [HR.out]
      exact Gives.mk rfl
    | succ k =>
      obtain ⟨n, hn⟩ : ∃ n, N[k]? = some n := ⟨_, List.getElem?_eq_getElem hk⟩
      obtain ⟨g, o, rfl, hc⟩ := H3.out (by omega)
      have x0 := hc k n hn
      have HN := Lib.hid hn
      clear hc hn
      by_cases he : n = s
      · have es : (n.toList == s.toList) = true := by rw [he]; exact beq_self_eq_true _
        have HR : Hid (Ins.dist N.reverse s = N.length - 1 - k) := Lib.hid (by
          have e : N = N.take k ++ s :: N.drop (k + 1) := by
            have h1 := HN.out
            rw [he] at h1
            have hx : N[k] = s := by rw [List.getElem?_eq_getElem hk] at h1; injection h1
            conv => lhs; rw [← List.take_append_drop k N, List.drop_eq_getElem_cons hk, hx]
          have e2 : N.reverse = (N.drop (k + 1)).reverse ++ s :: (N.take k).reverse := by
            conv => lhs; rw [e]
            simp
          rw [e2, dist_some]
          · simp; omega
          · intro y hy
            obtain ⟨j, hj, hjn⟩ := List.mem_iff_getElem.1 (List.mem_reverse.1 hy)
            rw [List.getElem_drop] at hjn
            exact HM.out (k + 1 + j) y (by omega) (by rw [List.getElem?_eq_getElem (by rw [List.length_drop] at hj; omega), hjn]))
        clear he HM HN
        go_wp2_with fail
        go_ret
        rw [HR.out]
        exact Gives.mk (congrArg (Value.int .i64) (by omega))
      · have es : (n.toList == s.toList) = false := beq_eq_false_iff_ne.2 (by rw [toL', toL']; exact fun h => he (str_inj' h))
        have HM2 : Hid (∀ (j : Nat) (n : ByteArray), k ≤ j → N[j]? = some n → n ≠ s) := Lib.hid (fun j y hj hy => by
          rcases Nat.eq_or_lt_of_le hj with rfl | h
          · rw [HN.out] at hy; injection hy with hy; rw [← hy]; exact he
          · exact HM.out j y h hy)
        clear he HM HN
        go_wp2_with fail
        go_roundw
        case rel => exact ⟨k, by go_num, by omega, HM2, by trivial⟩
        case measure => (simp [intOf] <;> omega)
/-- A wish's cells: the kid by its place. -/
def wcells (P : List Nat) (x : Ins.Wish) : List Value := [.int .i64 ((P.getD x.1 0 : Nat) : Int), .string x.2.1.str, .int .i64 x.2.2]
theorem wish_info : (Tryz.prog.info? 123).map (fun i => (i.zero, i.size, i.bytes)) = some (some (.agg #[.int .i64 0, .string ByteArray.empty, .int .i64 0]), 3, 32) := by kernel_rfl
theorem build_wish (w : World) (k r : Int) (t : ByteArray) : (Instr.buildSlice 120 1 #[(0, .agg #[.int .i64 k, .string t, .int .i64 r])]).run Tryz.prog w = .ok (.slice (some ⟨w.heap.size, 0, none⟩) 1 1) (w.alloc (.cells #[.int .i64 k, .string t, .int .i64 r] 123)) := by
  simp [go_sem, Instr.buildSlice, run_underlying Tryz.underlying120]
/-- Wishes as they are answered: a row of their own. -/
def WishRes (P : List Nat) (L : List Ins.Wish) (w : World) (E : Ending) (w' : World) : Prop := ∃ v, E = .returned v ∧ w'.ownsRow w.heap.size 123 3 v L.length (L.flatMap (wcells P)) ∧ Below w.heap.size w w'
theorem wall_take (n k : Nat) (t : Ty) (r : Int) (h : k < n) : (Ins.all n t r).take (k + 1) = (Ins.all n t r).take k ++ [(k, t, r)] := by
  unfold Ins.all
  rw [← List.map_take, ← List.map_take, List.take_range, List.take_range, Nat.min_eq_left h, Nat.min_eq_left (by omega), List.range_succ, List.map_append]
  rfl
theorem all_len (n : Nat) (t : Ty) (r : Int) : (Ins.all n t r).length = n := by simp [Ins.all]
set_option maxHeartbeats 800000 in
theorem iall_any (P : List Nat) (c : Nat) (kv : Value) (t : Ty) (r : Int) (w : World) (hk : KidsV c w kv P ∨ (P = [] ∧ ∃ A C, kv = .slice A 0 C)) (hl : P.length ≤ 1000000) :
    Calls Tryz.prog 122 #[kv, .string t.str, .int .i64 r] w (WishRes P (Ins.all P.length t r) w) := by
  obtain ⟨A, C, rfl⟩ : ∃ A C, kv = .slice A P.length C := by
    rcases hk with ⟨g, o, C, n, rfl, rfl, -⟩ | ⟨rfl, A, C, rfl⟩
    · exact ⟨_, _, rfl⟩
    · exact ⟨A, C, rfl⟩
  have HK : Hid (∀ (j p : Nat), P[j]? = some p → ∃ g o, A = some ⟨g, o, none⟩ ∧ w.cell? ⟨g, o + j, none⟩ = some (.int .i64 (p : Int))) := Lib.hid (fun j p hj => by
    rcases hk with ⟨g, o, C', n, e, -, -, -, hc⟩ | ⟨rfl, -⟩
    · simp only [Value.slice.injEq] at e
      obtain ⟨rfl, -, -⟩ := e
      exact ⟨g, o, rfl, hc j p hj⟩
    · simp at hj)
  clear hk
  go_enter Tryz.func122, Tryz.ntmps122
  go_wp2_with fail
  go_loopw [7, 12] (fun v i wr => ∃ (k : Nat) (u : Value), u = v ∧ i = .int .i64 k ∧ k ≤ P.length ∧ Hid (wr.ownsRow w.heap.size 123 3 u k (((Ins.all P.length t r).take k).flatMap (wcells P))) ∧ Hid (Below w.heap.size w wr)) (fun _ i _ => P.length - (intOf i).toNat)
  case atStart => exact ⟨0, _, rfl, by go_num, Nat.zero_le _, Lib.hid (World.ownsRow_nil _ _ _ _), Lib.hid (Below.refl _ _)⟩
  case round =>
    obtain ⟨k, u, rfl, rfl, hk, HO, HB⟩ := hrel
    by_cases hlt : k < P.length
    · obtain ⟨p, hp⟩ : ∃ p, P[k]? = some p := ⟨_, List.getElem?_eq_getElem hlt⟩
      obtain ⟨g, o, rfl, hc⟩ := HK.out k p hp
      have x0 := cell_later HB.out hc
      have HP : Hid (P.getD k 0 = p) := Lib.hid (by rw [List.getD_eq_getElem?_getD, hp]; rfl)
      have own4 := HO.out
      obtain ⟨A6, c6, rfl⟩ := own_shape own4
      have hbb := build_wish
      clear hc hp HO
      go_wp2_with (at_builtin; refine append_agg rfl (.tmp 16) (.tmp 21) 120 123 rfl w.heap.size _ 3 32 Tryz.underlying120 wish_info rfl (by decide) (.slice A6 k c6) _ _ rfl own4 [.int .i64 (p : Int), .string t.str, .int .i64 r] rfl wr.heap.size rfl rfl ?_ ?_ ?_ ?_ ?_)
      · intro v hv; simp at hv; rcases hv with rfl | rfl | rfl <;> rfl
      · omega
      · omega
      · exact HB.out.size
      intro v7 w7 hown7 hg7 hb7
      have HO7 : Hid (w7.ownsRow w.heap.size 123 3 v7 (k + 1) (((Ins.all P.length t r).take (k + 1)).flatMap (wcells P))) := Lib.hid (by
        rw [wall_take _ _ _ _ hlt, List.flatMap_append]
        simp only [List.flatMap_cons, List.flatMap_nil, List.append_nil, wcells, HP.out]
        exact hown7)
      have HB7 := Lib.hid (HB.out.trans hb7)
      clear own4 hown7 hg7 hb7 HB
      go_wp2_with fail
      go_roundw
      case rel => exact ⟨k + 1, _, rfl, by go_num, by omega, HO7, HB7⟩
      case measure => simp [intOf]; omega
    · have hkn : k = P.length := by omega
      subst hkn
      have HO2 : Hid (wr.ownsRow w.heap.size 123 3 u (Ins.all P.length t r).length ((Ins.all P.length t r).flatMap (wcells P))) := Lib.hid (by
        have := HO.out
        rw [List.take_of_length_le (by rw [all_len]; exact Nat.le_refl _)] at this
        rw [all_len]
        exact this)
      clear HO
      go_wp2_with fail
      go_ret
      exact ⟨_, rfl, HO2.out, HB.out⟩
end Go.Proofs.YtdfadmhomjcmeaaGreatDoor

/- Walks of insert: no cast where the types are the same. -/
namespace Go.Proofs.YtdfadmhomjcmeaaGreatDoor
set_option linter.unusedSimpArgs false
set_option linter.unusedVariables false
open Go.RowKit Culp
theorem lay_same (c : Nat) (pv : Value) (s : ByteArray) (l cl r : Int) (w : World) :
    Calls Tryz.prog 67 #[.pointer (some ⟨c, 0, none⟩), pv, .string s, .string s, .agg #[.int .i64 l, .int .i64 cl], .int .i64 r] w (Makes pv w) := by
  have es : (s.toList == s.toList) = true := beq_self_eq_true _
  have HB := Lib.hid (fun cs e => (Below.refl w.heap.size w).alloc (Nat.le_refl _) (.cells cs e))
  go_enter Tryz.func67, Tryz.ntmps67
  go_wp2_with fail
  go_ret
  exact ⟨rfl, HB.out _ _⟩
end Go.Proofs.YtdfadmhomjcmeaaGreatDoor

/- Walks of insert: one more site, and the inserter told of it. -/
namespace Go.Proofs.YtdfadmhomjcmeaaGreatDoor
set_option linter.unusedSimpArgs false
set_option linter.unusedVariables false
open Go.RowKit Culp
theorem InAt.grow {W w w5 : World} {c : Nat} {m : ByteArray} {tv yv sv sv' : Value} {S : List Ins.Sit} {s : Ins.Sit} (h : InAt W c m tv yv sv S w)
    (hown : w5.ownsRow W.heap.size 41 5 sv' (S.length + 1) (S.flatMap (scells m) ++ scells m s)) (hg : w.grownBy w5 sv.ownBlock) (hat : sv'.ownBlock = sv.ownBlock ∨ ∃ b, sv'.ownBlock = some b ∧ w.heap.size ≤ b) (hlow : Below W.heap.size W w5) :
    InAt W c m tv yv sv' (S ++ [s]) (w5.setCell ⟨c, 3, none⟩ sv') ∧ KeepN c sv.ownBlock w (w5.setCell ⟨c, 3, none⟩ sv') := by
  have hal := h.lt
  have hva := h.ne
  have h5 : w5.heap[c]? = some (.cells #[.string m, tv, yv, sv] 88 (0, 0)) := (hg.block c hal (fun e => hva e.symm)).trans h.box
  have hv' : sv'.ownBlock ≠ some c := by
    rcases hat with e | ⟨b, e, hb⟩
    · rw [e]; exact hva
    · rw [e]; intro he; injection he with he; omega
  have hk : Keep c w5 (w5.setCell ⟨c, 3, none⟩ sv') := (Keep.refl c w5).setCell 3 _
  refine ⟨⟨heap_setCell_same w5 c 3 _ _ _ h5, ?_, hlow.setCell (p := ⟨c, 3, none⟩) h.new _, h.new⟩, ⟨hk.os.trans hg.os, hk.tape.trans hg.tape, hk.output.trans hg.output, Nat.le_trans hg.size hk.size, fun k hk1 hk2 hk3 => (hk.block k (Nat.lt_of_lt_of_le hk1 hg.size) hk2).trans (hg.block k hk1 (fun e => hk3 e.symm))⟩⟩
  rw [List.length_append, List.flatMap_append]
  simp only [List.flatMap_cons, List.flatMap_nil, List.append_nil]
  exact own_apart_keep hown hk hv'
end Go.Proofs.YtdfadmhomjcmeaaGreatDoor
