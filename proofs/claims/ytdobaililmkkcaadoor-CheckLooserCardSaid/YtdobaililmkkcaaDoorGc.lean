
/- Walks of trees: what a node binds; names that are gathered. -/
import Derived.Test.YtdobaililmkkcaaDoorFx
import Derived.Test.YtdobaililmkkcaaDoorHlpF
import Derived.Test.YtdobaililmkkcaaDoorTrS
namespace Culp
set_option linter.unusedSimpArgs false
set_option linter.unusedVariables false
open Go Go.RowKit
theorem grown_trans {a b c : World} {o o1 : Option Nat} (h : a.grownBy b o) (k : b.grownBy c o1) (ho : o1 = o ∨ ∃ x, o1 = some x ∧ a.heap.size ≤ x) : a.grownBy c o where
  os := k.os.trans h.os
  tape := k.tape.trans h.tape
  output := k.output.trans h.output
  size := Nat.le_trans h.size k.size
  block := fun i hi hne => by
    refine (k.block i (Nat.lt_of_lt_of_le hi h.size) ?_).trans (h.block i hi hne)
    rcases ho with rfl | ⟨x, rfl, hx⟩
    · exact hne
    · intro he
      injection he with he
      omega
theorem grown_below {a b : World} {o : Option Nat} (h : Below a.heap.size a b) : a.grownBy b o where
  os := h.os
  tape := h.tape
  output := h.output
  size := h.size
  block := fun i hi _ => h.block i hi
theorem grown_more {a b c : World} {o : Option Nat} (h : a.grownBy b o) (k : Below b.heap.size b c) : a.grownBy c o where
  os := k.os.trans h.os
  tape := k.tape.trans h.tape
  output := k.output.trans h.output
  size := Nat.le_trans h.size k.size
  block := fun i hi hne => (k.block i (Nat.lt_of_lt_of_le hi h.size)).trans (h.block i hi hne)
end Culp
namespace Culp.Tr
set_option linter.unusedSimpArgs false
set_option linter.unusedVariables false
theorem binds_six {x : Nd} (h6 : x.kind = 6) {a b : List UInt8} (h : two x.s.data.toList = some (a, b)) : binds x 0 = [⟨a.toArray⟩, ⟨b.toArray⟩] := by
  unfold binds
  rw [if_neg (by omega), if_pos h6, h]
theorem binds_any {x : Nd} (h8 : x.kind ≠ 8) (k : Nat) : binds x k = binds x 0 := by
  unfold binds
  rw [if_neg (c := x.kind = 8 ∧ k = 1) (fun h => h8 h.1), if_neg (c := x.kind = 8 ∧ 0 = 1) (fun h => h8 h.1)]
theorem binds_let_ne {x : Nd} (h8 : x.kind = 8) {k : Nat} (hk : k ≠ 1) : binds x k = [] := by
  unfold binds
  rw [if_neg (by omega), if_neg (by omega), if_neg (fun h => hk h.2)]
/-- Names behind others, but those that are bound. -/
def behindAll (L M bd : List ByteArray) : List ByteArray := addAll L (M.filter fun s => decide (s ∉ bd))
theorem behind_nil (L bd : List ByteArray) : behindAll L [] bd = L := rfl
theorem behind_known {L M bd : List ByteArray} {s : ByteArray} (h : s ∈ L ∨ s ∈ bd) : behindAll L (s :: M) bd = behindAll L M bd := by
  unfold behindAll
  by_cases hb : s ∈ bd
  · rw [List.filter_cons_of_neg (by simp [hb])]
  · rw [List.filter_cons_of_pos (by simp [hb]), addAll_cons]
    congr 1
    unfold add1
    rw [if_pos (by rcases h with h | h; exact h; exact absurd h hb)]
theorem behind_new {L M bd : List ByteArray} {s : ByteArray} (h1 : s ∉ L) (h2 : s ∉ bd) : behindAll L (s :: M) bd = behindAll (L ++ [s]) M bd := by
  unfold behindAll
  rw [List.filter_cons_of_pos (by simp [h2]), addAll_cons]
  congr 1
  unfold add1
  rw [if_neg h1]
end Culp.Tr
namespace Go.Proofs.YtdobaililmkkcaaDoor
set_option linter.unusedSimpArgs false
set_option linter.unusedVariables false
open Go.RowKit Go.Maps Culp

theorem build_s2 (w : World) (s t : ByteArray) : (Instr.buildSlice 22 2 #[(0, .string s), (1, .string t)]).run Tryd.prog w = .ok (.slice (some ⟨w.heap.size, 0, none⟩) 2 2) (w.alloc (.cells #[.string s, .string t] 9)) := by
  simp [go_sem, Instr.buildSlice, run_underlying Tryd.underlying22]
theorem row_lit (w : World) (B g : Nat) (cs : Array Value) (e : TypeId) (n : Nat) (hB : B ≤ w.heap.size) (hg : w.heap.size = g) (hn : n ≤ 100) (hs : cs.size = n) : (w.alloc (.cells cs e)).ownsRow B e 1 (.slice (some ⟨g, 0, none⟩) n n) n cs.toList := by
  subst hg
  exact World.ownsRow_lit w cs n hB (by unfold maxLen; omega) (by rw [hs, Nat.mul_one])
/-- What the walk of Binds asks of the node: that the names of a function that calls itself are told. -/
def Bd (x : Nd) : Prop := x.s.size ≤ 140737488351232 ∧ (x.kind = 6 → Tr.two x.s.data.toList ≠ none)
end Go.Proofs.YtdobaililmkkcaaDoor

/- Walks of trees: names behind others, but those that are bound. -/
namespace Go.Proofs.YtdobaililmkkcaaDoor
set_option linter.unusedSimpArgs false
set_option linter.unusedVariables false
open Go.RowKit Go.Maps Culp

/-- What the list of names is after more were put behind it. -/
def WoRes (B : Nat) (L : List ByteArray) (o : Option Nat) (w : World) (e : Ending) (w' : World) : Prop :=
  ∃ v', e = .returned v' ∧ w'.ownsRow B 9 1 v' L.length (L.map Value.string) ∧ w.grownBy w' o ∧ (v'.ownBlock = o ∨ ∃ b, v'.ownBlock = some b ∧ w.heap.size ≤ b)
theorem Nms.at_ {w : World} {v : Value} {L : List ByteArray} (h : Nms w v L) {k : Nat} (hk : k < L.length) : ∃ g c, v = .slice (some ⟨g, 0, none⟩) L.length c ∧ w.cell? ⟨g, k, none⟩ = some (.string L[k]) := by
  obtain ⟨A, c, rfl, _, h3, h4⟩ := h
  cases A with
  | none =>
    obtain ⟨h, _⟩ := h3 rfl
    subst h
    simp at hk
  | some b =>
    obtain ⟨g, rfl, _, hc⟩ := h4 b rfl
    exact ⟨g, c, rfl, hc k _ (List.getElem?_eq_getElem hk)⟩
theorem Nms.form {w : World} {v : Value} {L : List ByteArray} (h : Nms w v L) : ∃ A c, v = .slice A L.length c := by
  obtain ⟨A, c, rfl, _⟩ := h
  exact ⟨A, c, rfl⟩
theorem Nms.grown {w w1 : World} {v u : Value} {L : List ByteArray} (h : Nms w v L) (hg : w.grownBy w1 u.ownBlock) (hA : Culp.Apart v u) : Nms w1 v L := by
  obtain ⟨A, c, rfl, h2, h3, h4⟩ := h
  refine ⟨A, c, rfl, h2, h3, fun b hb => ?_⟩
  obtain ⟨g, rfl, hlt, hc⟩ := h4 b hb
  subst hb
  refine ⟨g, rfl, Nat.lt_of_lt_of_le hlt hg.size, fun j s hj => ?_⟩
  rw [World.cell?_of_block (w := w) (hg.block g hlt (fun e => hA g rfl e.symm))]
  exact hc j s hj
theorem bytes_yes {s t : ByteArray} (h : s = t) : (s.toList == t.toList) = true := by rw [h]; exact beq_self_eq_true _
theorem bytes_no {s t : ByteArray} (h : s ≠ t) : (s.toList == t.toList) = false := beq_eq_false_iff_ne.2 (by rw [toL', toL']; exact fun he => h (str_inj' he))
end Go.Proofs.YtdobaililmkkcaaDoor

/- The walk of the statement TreeWhole: what it leans on. -/
namespace Culp.Tr
set_option linter.unusedSimpArgs false
set_option linter.unusedVariables false
/-- Each node of a tree that may be, with its part. -/
theorem whole_at {T : List Nd} {x0 : Nd} {k0 : F} (hT : T = x0 :: k0.flat) (hO : (F.cons x0 k0 .nil).Ok) (hh : k0.hgt + 1 ≤ 64) {q : Nat} (hq : q < T.length) :
    ∃ pre x ks post, T = pre ++ x :: (ks.flat ++ post) ∧ pre.length = q ∧ (F.cons x ks .nil).Ok ∧ ks.hgt + 1 ≤ 64 := by
  have hf : (F.cons x0 k0 .nil).flat = T := by rw [hT]; simp [F.flat]
  obtain ⟨pre, x, ks, post, h1, h2, h3, h4⟩ := F.at_place (F.cons x0 k0 .nil) q hO (by rw [hf]; exact hq)
  rw [hf] at h1
  rw [F.hgt_one] at h4
  exact ⟨pre, x, ks, post, h1, h2, h3, by omega⟩
theorem bd_of {x : Nd} (h : may x = true) (hs : x.s.size ≤ 140737488351232) : x.s.size ≤ 140737488351232 ∧ (x.kind = 6 → two x.s.data.toList ≠ none) := by
  refine ⟨hs, fun h6 => ?_⟩
  have h2 : sOk x.kind x.s.data.toList = true := by
    unfold may at h
    simp only [Bool.and_eq_true] at h
    exact h.1.1.2
  rw [h6] at h2
  have h3 : twoOk x.s.data.toList = true := h2
  unfold twoOk at h3
  intro hn
  rw [hn] at h3
  cases h3
theorem arit_kids {x : Nd} {ks : F} (h : may x = true) (hO : (F.cons x ks .nil).Ok) : decide (0 ≤ arit x.kind) = false ∨ (decide (0 ≤ arit x.kind) = true ∧ max (arit x.kind) 0 = (ks.cnt : Int)) := by
  unfold may kOk at h
  simp only [Bool.and_eq_true, decide_eq_true_eq, Bool.or_eq_true] at h
  have h1 := hO.1
  rcases h.1.1.1.1.2 with h2 | h2
  · exact .inl (decide_eq_false (by omega))
  · exact .inr ⟨decide_eq_true (by omega), by omega⟩
theorem part_take {T pre post : List Nd} {y : Nd} {ky : F} (h : T = pre ++ y :: (ky.flat ++ post)) : (T.drop pre.length).take (1 + ky.flat.length) = y :: ky.flat := by
  rw [h, List.drop_left, Nat.add_comm, List.take_succ_cons, List.take_left]
end Culp.Tr
namespace Go.Proofs.YtdobaililmkkcaaDoor
set_option linter.unusedSimpArgs false
set_option linter.unusedVariables false
open Go.RowKit Go.Maps Culp

/-- Some nodes of a list, from a place on. -/
theorem Nodes.cut {w : World} {b off n c : Nat} {T S : List Nd} (h : Nodes w (.slice (some ⟨b, off, none⟩) n c) T) (p m k : Nat) (hS : (T.drop p).take m = S) (hm : S.length = m) (hk : m ≤ k) : Nodes w (.slice (some ⟨b, off + p * 8, none⟩) m k) S := by
  obtain ⟨A, c', e1, h2, h3⟩ := h
  simp only [Value.slice.injEq] at e1
  obtain ⟨rfl, _, rfl⟩ := e1
  refine ⟨_, k, by rw [hm], by omega, fun h0 => ⟨b, off + p * 8, rfl, fun i x hx j u hu => ?_⟩⟩
  have hx2 : T[p + i]? = some x := by
    rw [← hS, List.getElem?_take] at hx
    split at hx
    · rwa [List.getElem?_drop] at hx
    · cases hx
  obtain ⟨b', off', e2, hM⟩ := h3 (by have := (List.getElem?_eq_some_iff.1 hx2).1; omega)
  simp only [Option.some.injEq, Addr.mk.injEq] at e2
  obtain ⟨rfl, rfl, _⟩ := e2
  have := hM (p + i) x hx2 j u hu
  rw [show off + p * 8 + i * 8 + j = off + (p + i) * 8 + j by omega]
  exact this
theorem nodes_cells {w : World} {b off n c : Nat} {T : List Nd} {q : Nat} {x : Nd} (h : Nodes w (.slice (some ⟨b, off, none⟩) n c) T) (hx : T[q]? = some x) :
    w.cell? ⟨b, off + q * 8, none⟩ = some (.int .i8 x.kind) ∧ w.cell? ⟨b, off + q * 8 + 1, none⟩ = some (.int .i64 x.kids) ∧ w.cell? ⟨b, off + q * 8 + 2, none⟩ = some (.int .i64 x.n) ∧ w.cell? ⟨b, off + q * 8 + 3, none⟩ = some (.string x.s) ∧
    w.cell? ⟨b, off + q * 8 + 4, none⟩ = some (.string x.t) ∧ w.cell? ⟨b, off + q * 8 + 5, none⟩ = some (.string x.u) ∧ w.cell? ⟨b, off + q * 8 + 6, none⟩ = some (.int .i64 x.line) ∧ w.cell? ⟨b, off + q * 8 + 7, none⟩ = some (.int .i64 x.col) := by
  obtain ⟨A, c', e1, _, h3⟩ := h
  simp only [Value.slice.injEq] at e1
  obtain ⟨rfl, _, rfl⟩ := e1
  obtain ⟨b', off', e2, hM⟩ := h3 (by have := (List.getElem?_eq_some_iff.1 hx).1; omega)
  simp only [Option.some.injEq, Addr.mk.injEq] at e2
  obtain ⟨rfl, rfl, _⟩ := e2
  exact hM.at_ hx
set_option maxRecDepth 100000 in
set_option maxHeartbeats 1600000 in
theorem EqTexts_same (D : List ByteArray) (u v : Value) (w : World) (hu : Nms w u D) (hv : Nms w v D) (hD : D.length ≤ 1000000000) :
    Calls Tryd.prog 16 #[u, v] w (Makes (.bool true) w) := by
  have HU := Lib.hid hu
  have HV := Lib.hid hv
  obtain ⟨A, c, rfl⟩ := hu.form
  obtain ⟨B, d, rfl⟩ := hv.form
  clear hu hv
  go_enter Tryd.func16, Tryd.ntmps16
  go_wp2_with fail
  go_loopw [5] (fun i wr => ∃ k : Nat, k ≤ D.length ∧ i = .int .i64 k ∧ Hid (Below w.heap.size w wr)) (fun i _ => D.length - (intOf i).toNat)
  case atStart => exact ⟨0, Nat.zero_le _, rfl, Lib.hid (Below.refl _ _)⟩
  case round =>
    obtain ⟨k, hk, rfl, HB⟩ := hrel
    by_cases hlt : k < D.length
    · obtain ⟨g, _, e1, a0⟩ := (HU.out.later HB.out).at_ hlt
      obtain ⟨g2, _, e2, b0⟩ := (HV.out.later HB.out).at_ hlt
      simp only [Value.slice.injEq] at e1 e2
      obtain ⟨rfl, _, rfl⟩ := e1
      obtain ⟨rfl, _, rfl⟩ := e2
      generalize D[k] = x at *
      go_wp2_with fail
      refine wp_region_plan (S := fun w' => w'.cell? ⟨g, k, none⟩ = some (.string x) ∧ w'.cell? ⟨g2, k, none⟩ = some (.string x))
        [(0, true), (1, true), (2, true), (3, true), (4, true), (5, true), (6, true), (7, true), (8, true)] (by kernel_rfl) (by kernel_rfl) (by kernel_rfl) (fun _ _ _ _ _ h => h) ⟨a0, b0⟩ ?_
      clear a0 b0
      intro HP
      repeat (first | (apply wpPlan_look; rfl; rfl; (intro wq hq; (try dsimp only at hq); go_split_ands; go_simp; (try rw [if_neg (by omega)]); (try rw [if_pos (by omega)]); try with_reducible rfl); simp only [Act.put, List.setIfInBounds_toArray, List.set_cons_zero, List.set_cons_succ]) | (apply wpPlan_skip; rfl; rfl; simp only [Act.put, List.setIfInBounds_toArray, List.set_cons_zero, List.set_cons_succ]) | (apply wpPlan_pass; rfl; rfl; assumption; simp only [Act.put, List.setIfInBounds_toArray, List.set_cons_zero, List.set_cons_succ]))
      apply wpPlan_done
      clear HP
      have HB2 := Lib.hid HB.out.drew
      go_wp2_with fail
      go_roundw
      case rel => exact ⟨k + 1, by omega, by go_num, HB2⟩
      case measure => simp [intOf]; omega
    · go_wp2_with fail
      go_ret
      exact Makes.mk rfl HB.out
end Go.Proofs.YtdobaililmkkcaaDoor
