
/- Walks of trees: a stack of numbers in memory; the checker. -/
import Derived.Test.YtdobaililmkkcaaGreatDoorTrG
import Derived.Test.YtdobaililmkkcaaGreatDoorTxV
import Derived.OwnWalk
namespace Culp
set_option linter.unusedSimpArgs false
set_option linter.unusedVariables false
open Go Go.RowKit
theorem own_shape {w : World} {base size n : Nat} {e : TypeId} {v : Value} {xs : List Value} (h : w.ownsRow base e size v n xs) : ∃ A c, v = .slice A n c := by
  rcases h.2 with ⟨rfl, rfl⟩ | ⟨g, cap, cur, rfl, _⟩
  · exact ⟨_, _, rfl⟩
  · exact ⟨_, _, rfl⟩
theorem below_more {B B' : Nat} {a w w' : World} (h : Below B a w) (k : Below B' w w') (hB : B ≤ B') : Below B a w' :=
  ⟨k.os.trans h.os, k.tape.trans h.tape, k.output.trans h.output, Nat.le_trans h.size k.size, fun j hj => (k.block j (by omega)).trans (h.block j hj)⟩
section
variable {w : World} {base g n c m i : Nat} {e : TypeId} {xs : List Value} {v : Value}
theorem own_lit (w : World) (e : TypeId) (x : Value) : (w.alloc (.cells #[x] e)).ownsRow w.heap.size e 1 (.slice (some ⟨w.heap.size, 0, none⟩) 1 1) 1 [x] :=
  ⟨rfl, .inr ⟨w.heap.size, 1, #[x], rfl, Nat.le_refl _, (MapKept.heap_alloc w _).1, Nat.le_refl _, by unfold maxLen; omega, rfl, rfl⟩⟩
theorem own_parts (h : w.ownsRow base e 1 (.slice (some ⟨g, 0, none⟩) n c) n xs) : ∃ cur : Array Value, base ≤ g ∧ w.heap[g]? = some (.cells cur e (0, 0)) ∧ n ≤ c ∧ c ≤ maxLen ∧ cur.size = c ∧ cur.toList.take n = xs := by
  rcases h.2 with ⟨h1, _⟩ | ⟨g', cap, cur, h1, hb, hh, hc, hm, hsz, ht⟩
  · cases h1
  · simp only [Value.slice.injEq, Option.some.injEq, Addr.mk.injEq] at h1
    obtain ⟨⟨rfl, _⟩, _, rfl⟩ := h1
    rw [Nat.mul_one] at hsz ht
    exact ⟨cur, hb, hh, hc, hm, hsz, ht⟩
theorem own_mk {cur : Array Value} (hb : base ≤ g) (hh : w.heap[g]? = some (.cells cur e (0, 0))) (hc : n ≤ c) (hm : c ≤ maxLen) (hsz : cur.size = c) : w.ownsRow base e 1 (.slice (some ⟨g, 0, none⟩) n c) n (cur.toList.take n) :=
  ⟨by rw [List.length_take, Nat.mul_one]; simp; omega, .inr ⟨g, c, cur, rfl, hb, hh, hc, hm, by rw [Nat.mul_one]; exact hsz, by rw [Nat.mul_one]⟩⟩
theorem own_cut (h : w.ownsRow base e 1 (.slice (some ⟨g, 0, none⟩) n c) n xs) (hm : m ≤ n) : w.ownsRow base e 1 (.slice (some ⟨g, 0, none⟩) m c) m (xs.take m) := by
  obtain ⟨cur, hb, hh, hc, hx, hsz, rfl⟩ := own_parts h
  rw [List.take_take, Nat.min_eq_left hm]
  exact own_mk hb hh (Nat.le_trans hm hc) hx hsz
theorem own_setv (h : w.ownsRow base e 1 (.slice (some ⟨g, 0, none⟩) n c) n xs) (i : Nat) (v : Value) : (w.setCell ⟨g, i, none⟩ v).ownsRow base e 1 (.slice (some ⟨g, 0, none⟩) n c) n (xs.set i v) := by
  obtain ⟨cur, hb, hh, hc, hx, hsz, rfl⟩ := own_parts h
  have := own_mk (w := w.setCell ⟨g, i, none⟩ v) (e := e) (cur := cur.setIfInBounds i v) (n := n) hb (by simp [World.setCell, Array.getElem?_modify, hh]) hc hx (by simpa using hsz)
  rw [← List.take_set] 
  simpa using this
theorem own_get (h : w.ownsRow base e 1 (.slice (some ⟨g, 0, none⟩) n c) n xs) (hx : xs[i]? = some v) : w.cell? ⟨g, i, none⟩ = some v ∧ w.frozen? ⟨g, i, none⟩ = false := by
  obtain ⟨cur, hb, hh, hc, hm, hsz, rfl⟩ := own_parts h
  rw [List.getElem?_take] at hx
  split at hx
  · exact ⟨by simp [World.cell?, hh]; simpa using hx, by simp [World.frozen?, hh]⟩
  · cases hx
end
end Culp
namespace Go.Proofs.YtdobaililmkkcaaGreatDoor
open Go.RowKit Go.Maps Culp

/-- A stack of numbers, its top behind all. -/
def Stk (base : Nat) (u : Value) (S : List Int) (w : World) : Prop := w.ownsRow base 3 1 u S.length (S.reverse.map (Value.int .i64))
section
variable {base g cap : Nat} {u : Value} {S r : List Int} {c c' : Int} {w w' : World}
theorem Stk.form (h : Stk base u S w) : ∃ A c, u = .slice A S.length c := own_shape h
theorem Stk.top (h : Stk base u (c :: r) w) : ∃ g cap, u = .slice (some ⟨g, 0, none⟩) (r.length + 1) cap ∧ base ≤ g ∧ g < w.heap.size ∧ r.length + 1 ≤ cap ∧ w.cell? ⟨g, r.length, none⟩ = some (.int .i64 c) ∧ w.frozen? ⟨g, r.length, none⟩ = false := by
  rcases h.2 with ⟨_, h0⟩ | ⟨g, cap, cur, rfl, hb, hh, hc, _⟩
  · simp at h0
  · have hg := own_get (i := r.length) (v := .int .i64 c) h (by simp)
    exact ⟨g, cap, rfl, hb, (h.lt g rfl).2, hc, hg.1, hg.2⟩
theorem Stk.pop (h : Stk base (.slice (some ⟨g, 0, none⟩) (r.length + 1) cap) (c :: r) w) : Stk base (.slice (some ⟨g, 0, none⟩) r.length cap) r w := by
  have := own_cut (m := r.length) h (Nat.le_succ _)
  unfold Stk
  simpa using this
theorem Stk.dec (h : Stk base (.slice (some ⟨g, 0, none⟩) (r.length + 1) cap) (c :: r) w) (c' : Int) : Stk base (.slice (some ⟨g, 0, none⟩) (r.length + 1) cap) (c' :: r) (w.setCell ⟨g, r.length, none⟩ (.int .i64 c')) := by
  have := own_setv h r.length (.int .i64 c')
  unfold Stk
  have e : ((c :: r).reverse.map (Value.int .i64)).set r.length (.int .i64 c') = (c' :: r).reverse.map (Value.int .i64) := by
    simp
  rw [e] at this
  exact this
theorem Stk.at_ (h : Stk base (.slice (some ⟨g, 0, none⟩) (r.length + 1) cap) (c :: r) w) : w.cell? ⟨g, r.length, none⟩ = some (.int .i64 c) ∧ w.frozen? ⟨g, r.length, none⟩ = false ∧ base ≤ g :=
  have hg := own_get (i := r.length) (v := .int .i64 c) h (by simp)
  ⟨hg.1, hg.2, (own_parts h).choose_spec.1⟩
theorem Stk.nth {A : Option Addr} {n cap' : Nat} (h : Stk base (.slice A n cap') S w) {j : Nat} (hj : j < S.length) : ∃ g, A = some ⟨g, 0, none⟩ ∧ ∀ x, S.reverse[j]? = some x → w.cell? ⟨g, j, none⟩ = some (.int .i64 x) := by
  obtain ⟨A', c', hv, hl, hA⟩ := own_form h
  cases hv
  obtain ⟨g, rfl, _, hc⟩ := hA (by omega)
  refine ⟨g, rfl, fun x hx => hc j _ ?_⟩
  rw [List.getElem?_map, hx]; rfl
theorem Stk.later (h : Stk base u S w) (hb : Below w.heap.size w w') : Stk base u S w' := own_later h hb
theorem Stk.push (h : w.ownsRow base 3 1 u (S.length + 1) (S.reverse.map (Value.int .i64) ++ [.int .i64 c])) : Stk base u (c :: S) w := by
  unfold Stk
  simpa using h
end
def slLen : Value → Nat
  | .slice _ n _ => n
  | _ => 0
def depV : Option Nat → Int
  | some j => j
  | none => -1
theorem any_rev (S : List Int) : S.any (fun n => decide (0 < n)) = S.reverse.any (fun n => decide (0 < n)) := by rw [List.any_reverse]
theorem any_yes {S : List Int} {j : Nat} {x : Int} (hj : S.reverse[j]? = some x) (hx : 0 < x) : S.any (fun n => decide (0 < n)) = true := by
  rw [any_rev, List.any_eq_true]
  exact ⟨x, List.mem_of_getElem? hj, by simpa using hx⟩
theorem any_no {S : List Int} (h : ∀ (j : Nat) (x : Int), j < S.length → S.reverse[j]? = some x → ¬ 0 < x) : S.any (fun n => decide (0 < n)) = false := by
  rw [any_rev, Bool.eq_false_iff]
  intro ha
  rw [List.any_eq_true] at ha
  obtain ⟨x, hx, hx2⟩ := ha
  obtain ⟨j, hj⟩ := List.getElem?_of_mem hx
  have hjl := (List.getElem?_eq_some_iff.1 hj).1
  rw [List.length_reverse] at hjl
  exact h j x hjl hj (by simpa using hx2)
theorem int_info : (Tryz.prog.info? 3).map (fun i => (i.zero, i.size, i.bytes)) = some (some (.int .i64 0), 1, 8) := by kernel_rfl
theorem int_eq' {a b : Nat} (h : a = b) : (((a : Nat) : Int) == ((b : Nat) : Int)) = true := by rw [h]; exact beq_self_eq_true _
/-- A node that was boxed. -/
def Box (g : Nat) (x : Nd) (w : World) : Prop := w.heap[g]? = some (.cells x.cells.toArray 64 (0, 0))
section
variable {g : Nat} {x : Nd} {w w' : World}
theorem Box.lt (h : Box g x w) : g < w.heap.size := by
  rcases Nat.lt_or_ge g w.heap.size with hlt | hge
  · exact hlt
  · unfold Box at h; rw [Array.getElem?_eq_none hge] at h; cases h
theorem Box.cell (h : Box g x w) (i : Nat) : w.cell? ⟨g, i, none⟩ = x.cells[i]? := by unfold Box at h; simp [World.cell?, h]
theorem Box.later (h : Box g x w) (hb : Below w.heap.size w w') : Box g x w' := (hb.block g h.lt).trans h
theorem Box.other {g2 i : Nat} {u : Value} (h : Box g x w) (hne : g ≠ g2) : Box g x (w.setCell ⟨g2, i, none⟩ u) := by
  unfold Box at *
  rw [Below.heap_setCell _ _ _ _ hne]; exact h
theorem Stk.ne {base gs n cap : Nat} {S : List Int} (h : Stk base (.slice (some ⟨gs, 0, none⟩) n cap) S w) (hb : Box g x w) (hn : n = S.length) : g ≠ gs := by
  rintro rfl
  subst hn
  obtain ⟨cur, _, hh, _⟩ := own_parts h
  unfold Box at hb
  rw [hh] at hb
  simp at hb
theorem box_alloc (w : World) (x : Nd) : Box w.heap.size x (w.alloc (.cells x.cells.toArray 64)) := (MapKept.heap_alloc w _).1
end
set_option maxRecDepth 100000 in
set_option maxHeartbeats 6400000 in
theorem tCheck_any (T : List Nd) (tv : Value) (w : World) (hn : Nodes w tv T) (hS : Sp w) (hz : ∀ x ∈ T, x.s.size ≤ 140737488351232) (hk : ∀ x ∈ T, x.kids ≤ 9223372036854775807) :
    Calls Tryz.prog 24 #[tv] w (Makes (.tuple #[.int .i64 (Tr.check T).1, .int .i64 (Tr.check T).2]) w) := by
  have HS := Lib.hid hS
  have HN := Lib.hid hn
  have HZ := Lib.hid hz
  have HK := Lib.hid hk
  obtain ⟨A, c, rfl, hlc, _⟩ := hn
  clear hS hz hk
  by_cases hlen : T.length = 0 ∨ 4096 < T.length
  · have HC : Hid (Tr.check T = (17, 0)) := Lib.hid (by unfold Tr.check; rw [if_pos hlen])
    go_enter Tryz.func24, Tryz.ntmps24
    rcases hlen with h0 | h0
    · have e0 := eq_lit (n := T.length) (z := 0) (by omega)
      go_wp2_with fail
      go_ret2
      exact Makes.mk (by rw [HC.out]; rfl) (Below.refl _ _)
    · have e0 := ne_lit (n := T.length) (z := 0) (by omega)
      go_wp2_with fail
      go_ret2
      exact Makes.mk (by rw [HC.out]; rfl) (Below.refl _ _)
  have h0 : 0 < T.length := by omega
  have h1 : T.length ≤ 4096 := by omega
  have HC : Hid (Tr.check T = Tr.scan T [1] 0 none) := Lib.hid (by unfold Tr.check; rw [if_neg hlen])
  have e0 := ne_lit (n := T.length) (z := 0) (by omega)
  clear hlen
  go_enter Tryz.func24, Tryz.ntmps24
  go_wp2_with fail
  have hst : Stk w.heap.size (.slice (some ⟨w.heap.size, 0, none⟩) 1 1) [1] (w.alloc (.cells #[.int .i64 1] 3)) := own_lit w _ _
  have HST0 := Lib.hid hst
  have HB0 : Hid (Below w.heap.size w (w.alloc (.cells #[.int .i64 1] 3))) := Lib.hid ((Below.refl _ _).alloc (Nat.le_refl _) _)
  clear hst
  generalize w.alloc (.cells #[.int .i64 1] 3) = w1 at *
  go_loopw [4, 5, 21] (fun v dv i wr => ∃ (k : Nat) (S : List Int) (d : Option Nat) (u : Value), v = u ∧ dv = .int .i64 (depV d) ∧ i = .int .i64 k ∧ k ≤ T.length ∧ S.length ≤ k + 1 ∧ Hid (∀ n ∈ S, 0 ≤ n ∧ n ≤ 9223372036854775807) ∧ Hid (∀ j, d = some j → j < k) ∧ Hid (Tr.check T = Tr.scan (T.drop k) S k d) ∧ Hid (Stk w.heap.size u S wr) ∧ Hid (Below w.heap.size w wr)) (fun _ _ i _ => T.length - (intOf i).toNat)
  case atStart => exact ⟨0, [1], none, _, rfl, rfl, rfl, Nat.zero_le _, Nat.le_refl _, Lib.hid (by simp), Lib.hid (by simp), Lib.hid (by rw [HC.out, List.drop_zero]), HST0, HB0⟩
  case round =>
    clear HST0 HB0
    obtain ⟨k, S, d, u, rfl, rfl, rfl, hk, hS, HP, HD, HCH, HST, HB⟩ := hrel
    by_cases hlt : k < T.length
    · obtain ⟨A2, c2, e2, _, hN⟩ := HN.out.later HB.out
      simp only [Value.slice.injEq] at e2
      obtain ⟨rfl, _, rfl⟩ := e2
      obtain ⟨b, off, rfl, hM⟩ := hN (by omega)
      have hx : T[k]? = some T[k] := List.getElem?_eq_getElem hlt
      obtain ⟨n0, n1, n2, n3, n4, n5, n6, n7⟩ := hM.at_ hx
      have HZX := Lib.hid (HZ.out _ (List.mem_of_getElem? hx))
      have HKX := Lib.hid (HK.out _ (List.mem_of_getElem? hx))
      have hdrop : T.drop k = T[k] :: T.drop (k + 1) := List.drop_eq_getElem_cons hlt
      rw [hdrop, Tr.scan_cons] at HCH
      generalize T[k] = x at *
      clear hx hN hM hdrop
      go_wp2_with fail
      have HBX : Hid (Box wr.heap.size x (wr.alloc (.cells #[.int .i8 x.kind, .int .i64 x.kids, .int .i64 x.n, .string x.s, .string x.t, .string x.u, .int .i64 x.line, .int .i64 x.col] 64))) := Lib.hid (box_alloc wr x)
      have hb2 : Below wr.heap.size wr (wr.alloc (.cells #[.int .i8 x.kind, .int .i64 x.kids, .int .i64 x.n, .string x.s, .string x.t, .string x.u, .int .i64 x.line, .int .i64 x.col] 64)) := (Below.refl _ _).alloc (Nat.le_refl _) _
      have HST1 := Lib.hid (HST.out.later hb2)
      have HB1 := Lib.hid (below_later hb2 HB.out)
      clear hb2 HST HB n0 n1 n2 n3 n4 n5 n6 n7
      generalize wr.alloc (.cells #[.int .i8 x.kind, .int .i64 x.kids, .int .i64 x.n, .string x.s, .string x.t, .string x.u, .int .i64 x.line, .int .i64 x.col] 64) = w2 at *
      generalize wr.heap.size = gx at *
      go_loopw [4] (fun v wx => w2 = wx ∧ ∃ (S' : List Int) (u' : Value), v = u' ∧ S'.length ≤ S.length ∧ Hid (Tr.pop S' = Tr.pop S) ∧ Hid (∀ n ∈ S', n ∈ S) ∧ Hid (Stk w.heap.size u' S' w2)) (fun v _ => slLen v)
      case atStart => exact ⟨rfl, S, _, rfl, Nat.le_refl _, Lib.hid rfl, Lib.hid (fun _ h => h), HST1⟩
      case round =>
        clear HST1
        obtain ⟨rfl, S', u', rfl, hS', HPO, HSU, HSTi⟩ := hrel
        cases S' with
        | nil =>
          obtain ⟨A3, c3, rfl⟩ := HSTi.out.form
          have HF : Hid (Tr.check T = (18, k)) := Lib.hid (by rw [HCH.out, ← HPO.out]; rfl)
          rw [List.length_nil]
          go_wp2_with fail
          go_ret2
          exact Makes.mk (by rw [HF.out]; rfl) HB1.out
        | cons c r =>
          obtain ⟨g, cap, rfl, hg0, hg1, hcap, hc0, hf0⟩ := HSTi.out.top
          have hcS := HSU.out c List.mem_cons_self
          have hcb := HP.out c hcS
          rw [List.length_cons] at hS'
          by_cases hz : c = 0
          · have ez : (c == 0) = true := by rw [hz]; rfl
            have HPO2 : Hid (Tr.pop r = Tr.pop S) := Lib.hid (by rw [← HPO.out, hz]; rfl)
            have HSU2 : Hid (∀ n ∈ r, n ∈ S) := Lib.hid (fun n hn => HSU.out n (List.mem_cons_of_mem _ hn))
            have HST2 := Lib.hid HSTi.out.pop
            clear HPO HSU HSTi hcS hcb hz hg0 hg1
            go_wp2_with fail
            go_roundw
            case rel => exact ⟨trivial, r, _, rfl, by omega, HPO2, HSU2, HST2⟩
            case measure => simp [slLen]
          have ez : (c == 0) = false := beq_no hz
          have hpop : Tr.pop S = c :: r := by rw [← HPO.out]; unfold Tr.pop; rw [List.dropWhile_cons, if_neg (by simp [hz])]
          rw [hpop] at HCH
          have HR : Hid (∀ n ∈ r, 0 ≤ n ∧ n ≤ 9223372036854775807) := Lib.hid (fun n hn => HP.out n (HSU.out n (List.mem_cons_of_mem _ hn)))
          obtain ⟨hc1, hc2⟩ := hcb
          have hcp : 0 < c := by omega
          clear HPO HSU hpop hcS hz hg1
          have c0 : w2.cell? ⟨gx, 0, none⟩ = some (.int .i8 x.kind) := HBX.out.cell 0
          have c1 : w2.cell? ⟨gx, 1, none⟩ = some (.int .i64 x.kids) := HBX.out.cell 1
          have c2 : w2.cell? ⟨gx, 2, none⟩ = some (.int .i64 x.n) := HBX.out.cell 2
          have c3 : w2.cell? ⟨gx, 3, none⟩ = some (.string x.s) := HBX.out.cell 3
          have c4 : w2.cell? ⟨gx, 4, none⟩ = some (.string x.t) := HBX.out.cell 4
          have c5 : w2.cell? ⟨gx, 5, none⟩ = some (.string x.u) := HBX.out.cell 5
          have c6 : w2.cell? ⟨gx, 6, none⟩ = some (.int .i64 x.line) := HBX.out.cell 6
          have c7 : w2.cell? ⟨gx, 7, none⟩ = some (.int .i64 x.col) := HBX.out.cell 7
          go_wp2_with fail
          refine (may_any x _ (HS.out.later HB1.out) HZX.out).mono ?_
          rintro e w3 ⟨rfl, hb3⟩
          have HB3 := Lib.hid (below_later hb3 HB1.out)
          have HST3 := Lib.hid (HSTi.out.later hb3)
          have HBX3 := Lib.hid (HBX.out.later hb3)
          clear c0 c1 c2 c3 c4 c5 c6 c7 hb3 HB1 HSTi HBX hc0 hf0
          cases hm : Tr.may x with
          | false =>
            have HF : Hid (Tr.check T = (18, k)) := Lib.hid (by rw [HCH.out, hm]; rfl)
            clear hm
            go_wp2_with fail
            go_ret2
            exact Makes.mk (by rw [HF.out]; rfl) HB3.out
          | true =>
            have hkd := Tr.may_kids hm
            have HCH2 : Hid (Tr.check T = Tr.scan (T.drop (k + 1)) (x.kids :: (c - 1) :: r) (k + 1) (if d.isNone = true ∧ 64 < r.length + 1 then some k else d)) := Lib.hid (by rw [HCH.out, hm]; rfl)
            have HP5 : Hid (∀ n ∈ x.kids :: (c - 1) :: r, 0 ≤ n ∧ n ≤ 9223372036854775807) := Lib.hid (by
              have := HKX.out
              intro n hn
              rcases List.mem_cons.1 hn with rfl | hn
              · omega
              rcases List.mem_cons.1 hn with rfl | hn
              · omega
              · exact HR.out n hn)
            obtain ⟨t0, f0, hg0⟩ := HST3.out.at_
            have HNE := Lib.hid (HST3.out.ne HBX3.out rfl)
            have HST4 : Hid (Stk w.heap.size (.slice (some ⟨g, 0, none⟩) (r.length + 1) cap) ((c - 1) :: r) (w3.setCell ⟨g, r.length, none⟩ (.int .i64 (c - 1)))) := Lib.hid (HST3.out.dec (c - 1))
            have HBX4 : Hid (Box gx x (w3.setCell ⟨g, r.length, none⟩ (.int .i64 (c - 1)))) := Lib.hid (HBX3.out.other HNE.out)
            have HB4 : Hid (Below w.heap.size w (w3.setCell ⟨g, r.length, none⟩ (.int .i64 (c - 1)))) := Lib.hid (HB3.out.setCell hg0 _)
            clear hm HCH HR HST3 HBX3 HB3 hg0
            cases d with
            | some j =>
              have HD5 : Hid (∀ j', some j = some j' → j' < k + 1) := Lib.hid (fun j' h => Nat.lt_succ_of_lt (HD.out j' h))
              have HCH5 : Hid (Tr.check T = Tr.scan (T.drop (k + 1)) (x.kids :: (c - 1) :: r) (k + 1) (some j)) := Lib.hid HCH2.out
              unfold depV at *
              have hjn : ¬ (j : Int) < 0 := by omega
              clear HCH2
              have own4 : (w3.setCell ⟨g, r.length, none⟩ (.int .i64 (c - 1))).ownsRow w.heap.size 3 1 (.slice (some ⟨g, 0, none⟩) (r.length + 1) cap) (r.length + 1) (((c - 1) :: r).reverse.map (Value.int .i64)) := HST4.out
              have q1 : (w3.setCell ⟨g, r.length, none⟩ (.int .i64 (c - 1))).cell? ⟨gx, 1, none⟩ = some (.int .i64 x.kids) := HBX4.out.cell 1
              go_wp2_with (at_builtin; refine append_agg rfl (.tmp 68) (.tmp 71) 83 3 rfl w.heap.size _ 1 8 Tryz.underlying83 int_info rfl (by decide) _ _ _ rfl own4 [.int .i64 x.kids] rfl w3.heap.size rfl (by simp) ?_ ?_ ?_ ?_ ?_)
              · first
                  | rfl
                  | (intro y hy; simp only [List.mem_cons, List.not_mem_nil, or_false] at hy; subst hy; rfl)
              · omega
              · omega
              · have := HB4.out.size
                simpa using this
              intro v' w5 hown' hg' hb'
              have HST5 : Hid (Stk w.heap.size v' (x.kids :: (c - 1) :: r) w5) := Lib.hid (Stk.push (S := (c - 1) :: r) (by simpa using hown'))
              have HB5 := Lib.hid (HB4.out.trans hb')
              clear own4 q1 t0 f0 hown' hg' hb' HST4 HB4 HBX4
              go_wp2_with fail
              go_roundw
              case rel => exact ⟨k + 1, x.kids :: (c - 1) :: r, some j, v', rfl, rfl, by go_num, by omega, by simp only [List.length_cons]; omega, HP5, HD5, HCH5, HST5, HB5⟩
              case measure => simp [intOf]; omega
            | none =>
              by_cases h64 : 64 < r.length + 1
              · have HD5 : Hid (∀ j', some k = some j' → j' < k + 1) := Lib.hid (fun j' h => by injection h with h; omega)
                have HCH5 : Hid (Tr.check T = Tr.scan (T.drop (k + 1)) (x.kids :: (c - 1) :: r) (k + 1) (some k)) := Lib.hid (by have := HCH2.out; rw [if_pos ⟨rfl, h64⟩] at this; exact this)
                unfold depV at *
                clear HCH2
                have own4 : (w3.setCell ⟨g, r.length, none⟩ (.int .i64 (c - 1))).ownsRow w.heap.size 3 1 (.slice (some ⟨g, 0, none⟩) (r.length + 1) cap) (r.length + 1) (((c - 1) :: r).reverse.map (Value.int .i64)) := HST4.out
                have q1 : (w3.setCell ⟨g, r.length, none⟩ (.int .i64 (c - 1))).cell? ⟨gx, 1, none⟩ = some (.int .i64 x.kids) := HBX4.out.cell 1
                go_wp2_with (at_builtin; refine append_agg rfl (.tmp 68) (.tmp 71) 83 3 rfl w.heap.size _ 1 8 Tryz.underlying83 int_info rfl (by decide) _ _ _ rfl own4 [.int .i64 x.kids] rfl w3.heap.size rfl (by simp) ?_ ?_ ?_ ?_ ?_)
                · first
                    | rfl
                    | (intro y hy; simp only [List.mem_cons, List.not_mem_nil, or_false] at hy; subst hy; rfl)
                · omega
                · omega
                · have := HB4.out.size
                  simpa using this
                intro v' w5 hown' hg' hb'
                have HST5 : Hid (Stk w.heap.size v' (x.kids :: (c - 1) :: r) w5) := Lib.hid (Stk.push (S := (c - 1) :: r) (by simpa using hown'))
                have HB5 := Lib.hid (HB4.out.trans hb')
                clear own4 q1 t0 f0 hown' hg' hb' HST4 HB4 HBX4
                go_wp2_with fail
                go_roundw
                case rel => exact ⟨k + 1, x.kids :: (c - 1) :: r, some k, v', rfl, rfl, by go_num, by omega, by simp only [List.length_cons]; omega, HP5, HD5, HCH5, HST5, HB5⟩
                case measure => simp [intOf]; omega
              · have HD5 : Hid (∀ j', (none : Option Nat) = some j' → j' < k + 1) := Lib.hid (fun j' h => by cases h)
                have HCH5 : Hid (Tr.check T = Tr.scan (T.drop (k + 1)) (x.kids :: (c - 1) :: r) (k + 1) none) := Lib.hid (by have := HCH2.out; rw [if_neg (fun h => h64 h.2)] at this; exact this)
                unfold depV at *
                clear HCH2
                have own4 : (w3.setCell ⟨g, r.length, none⟩ (.int .i64 (c - 1))).ownsRow w.heap.size 3 1 (.slice (some ⟨g, 0, none⟩) (r.length + 1) cap) (r.length + 1) (((c - 1) :: r).reverse.map (Value.int .i64)) := HST4.out
                have q1 : (w3.setCell ⟨g, r.length, none⟩ (.int .i64 (c - 1))).cell? ⟨gx, 1, none⟩ = some (.int .i64 x.kids) := HBX4.out.cell 1
                go_wp2_with (at_builtin; refine append_agg rfl (.tmp 68) (.tmp 71) 83 3 rfl w.heap.size _ 1 8 Tryz.underlying83 int_info rfl (by decide) _ _ _ rfl own4 [.int .i64 x.kids] rfl w3.heap.size rfl (by simp) ?_ ?_ ?_ ?_ ?_)
                · first
                    | rfl
                    | (intro y hy; simp only [List.mem_cons, List.not_mem_nil, or_false] at hy; subst hy; rfl)
                · omega
                · omega
                · have := HB4.out.size
                  simpa using this
                intro v' w5 hown' hg' hb'
                have HST5 : Hid (Stk w.heap.size v' (x.kids :: (c - 1) :: r) w5) := Lib.hid (Stk.push (S := (c - 1) :: r) (by simpa using hown'))
                have HB5 := Lib.hid (HB4.out.trans hb')
                clear own4 q1 t0 f0 hown' hg' hb' HST4 HB4 HBX4
                go_wp2_with fail
                go_roundw
                case rel => exact ⟨k + 1, x.kids :: (c - 1) :: r, none, v', rfl, rfl, by go_num, by omega, by simp only [List.length_cons]; omega, HP5, HD5, HCH5, HST5, HB5⟩
                case measure => simp [intOf]; omega
    · have hkT : k = T.length := by omega
      have HCE : Hid (Tr.check T = if S.any (fun n => decide (0 < n)) = true then (18, T.length) else match d with | some j => (16, j) | none => (0, 0)) := Lib.hid (by rw [HCH.out, hkT, List.drop_length]; rfl)
      obtain ⟨A3, c3, rfl⟩ := HST.out.form
      clear HCH hkT
      go_wp2_with fail
      go_loopw [76] (fun i wx => wr = wx ∧ ∃ j : Nat, j ≤ S.length ∧ i = .int .i64 j ∧ Hid (∀ (m : Nat) (x : Int), m < j → S.reverse[m]? = some x → ¬ 0 < x)) (fun i _ => S.length - (intOf i).toNat)
      case atStart => exact ⟨rfl, 0, Nat.zero_le _, rfl, Lib.hid (fun m x hm => by omega)⟩
      case round =>
        obtain ⟨rfl, j, hj, rfl, HJ⟩ := hrel
        by_cases hjl : j < S.length
        · obtain ⟨g, rfl, hg⟩ := HST.out.nth hjl
          have hrx : S.reverse[j]? = some (S.reverse[j]'(by rw [List.length_reverse]; exact hjl)) := List.getElem?_eq_getElem _
          have hc0 := hg _ hrx
          generalize S.reverse[j]'(by rw [List.length_reverse]; exact hjl) = x at *
          by_cases hx0 : 0 < x
          · have HF : Hid (Tr.check T = (18, T.length)) := Lib.hid (by rw [HCE.out, if_pos (any_yes hrx hx0)])
            clear hrx hg
            go_wp2_with fail
            go_ret2
            exact Makes.mk (by rw [HF.out]; rfl) HB.out
          · have HJ2 : Hid (∀ (m : Nat) (x : Int), m < j + 1 → S.reverse[m]? = some x → ¬ 0 < x) := Lib.hid (fun m y hm hy => by
              rcases Nat.lt_or_ge m j with h | h
              · exact HJ.out m y h hy
              · obtain rfl : m = j := by omega
                rw [hrx] at hy; injection hy with hy; rw [← hy]; exact hx0)
            clear hrx hg HJ
            go_wp2_with fail
            go_roundw
            case rel => exact ⟨trivial, j + 1, by omega, by go_num, HJ2⟩
            case measure => simp [intOf]; omega
        · have HA : Hid (S.any (fun n => decide (0 < n)) = false) := Lib.hid (any_no (fun m x hm hx => HJ.out m x (by omega) hx))
          cases d with
          | some j' =>
            have HF : Hid (Tr.check T = (16, j')) := Lib.hid (by rw [HCE.out, HA.out]; rfl)
            unfold depV at *
            clear HJ
            go_wp2_with fail
            go_ret2
            exact Makes.mk (by rw [HF.out]; rfl) HB.out
          | none =>
            have HF : Hid (Tr.check T = (0, 0)) := Lib.hid (by rw [HCE.out, HA.out]; rfl)
            unfold depV at *
            clear HJ
            go_wp2_with fail
            go_ret2
            exact Makes.mk (by rw [HF.out]; rfl) HB.out
end Go.Proofs.YtdobaililmkkcaaGreatDoor
