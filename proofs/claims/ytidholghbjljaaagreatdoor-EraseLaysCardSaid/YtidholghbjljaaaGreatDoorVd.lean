
/- Walks of trees: names and annotations of modules; are modules few? -/
import Derived.Test.YtidholghbjljaaaGreatDoorTrW
import Derived.Test.YtidholghbjljaaaGreatDoorVc
namespace Culp
set_option linter.unusedSimpArgs false
set_option linter.unusedVariables false
open Go Go.RowKit
/-- A block, whole. -/
def Blk (g : Nat) (cs : Array Value) (t : TypeId) (w : World) : Prop := w.heap[g]? = some (.cells cs t (0, 0))
section
variable {g i : Nat} {cs : Array Value} {t : TypeId} {w w' : World} {v : Value}
theorem Blk.lt (h : Blk g cs t w) : g < w.heap.size := (Array.getElem?_eq_some_iff.1 h).1
theorem Blk.later (h : Blk g cs t w) (hb : Below w.heap.size w w') : Blk g cs t w' := (hb.block g h.lt).trans h
theorem Blk.cell (h : Blk g cs t w) (hv : cs[i]? = some v) : w.cell? ⟨g, i, none⟩ = some v := by
  unfold Blk at h
  simp [World.cell?, h, hv]
theorem Blk.free (h : Blk g cs t w) (i : Nat) : w.frozen? ⟨g, i, none⟩ = false := by
  unfold Blk at h
  simp [World.frozen?, h]
theorem Blk.alloc (w : World) (cs : Array Value) (t : TypeId) : Blk w.heap.size cs t (w.alloc (.cells cs t)) := (MapKept.heap_alloc w _).1
theorem Blk.alloc2 (w : World) (a : Obj) (cs : Array Value) (t : TypeId) : Blk (w.heap.size + 1) cs t ((w.alloc a).alloc (.cells cs t)) := by
  have h := Blk.alloc (w.alloc a) cs t
  rwa [show (w.alloc a).heap.size = w.heap.size + 1 by simp] at h
end
end Culp
namespace Go.Proofs.YtidholghbjljaaaGreatDoor
set_option linter.unusedSimpArgs false
set_option linter.unusedVariables false
open Go.RowKit Culp
theorem below_two (w : World) (a b : Obj) : Below w.heap.size w ((w.alloc a).alloc b) := ((Below.refl _ _).alloc (Nat.le_refl _) _).alloc (by simp) _
/-- Texts that are names, one by one. -/
def allNames (N : List ByteArray) : Bool := N.all fun s => Tx.isName s.data.toList
set_option maxRecDepth 100000 in
set_option maxHeartbeats 1600000 in
theorem named_any (t : ByteArray) (N : List ByteArray) (g c : Nat) (w : World) (hN : ∀ (j : Nat) (s : ByteArray), N[j]? = some s → w.cell? ⟨g, j, none⟩ = some (.string s)) (hz : ∀ s ∈ N, s.size ≤ 140737488351232) (hl : N.length ≤ 1000000) (hS : Sp w) :
    Calls Tryz.prog 113 #[.string t, .slice (some ⟨g, 0, none⟩) N.length c] w (Makes (.bool (allNames N && Tr.note t.data.toList)) w) := by
  have HN := Lib.hid hN
  have HZ := Lib.hid hz
  have HS := Lib.hid hS
  clear hN hz hS
  go_enter Tryz.func113, Tryz.ntmps113
  go_wp2_with fail
  go_loopw [9] (fun i wr => ∃ k : Nat, k ≤ N.length ∧ i = .int .i64 k ∧ Hid (allNames (N.take k) = true) ∧ Hid (Below w.heap.size w wr)) (fun i _ => N.length - (intOf i).toNat)
  case atStart => exact ⟨0, Nat.zero_le _, rfl, Lib.hid rfl, Lib.hid (Below.refl _ _)⟩
  case round =>
    obtain ⟨k, hk, rfl, HA, HB⟩ := hrel
    by_cases hlt : k < N.length
    · have hx : N[k]? = some N[k] := List.getElem?_eq_getElem hlt
      have c0 := cell_later HB.out (HN.out k _ hx)
      have hz := HZ.out _ (List.mem_of_getElem? hx)
      have HX := Lib.hid hx
      generalize N[k] = s at *
      clear hx
      go_wp2_with fail
      refine (tIsName_any s _ hz (HS.out.later HB.out)).mono ?_
      rintro E w1 ⟨rfl, hb1⟩
      have HB1 := Lib.hid (below_later hb1 HB.out)
      clear hb1 c0 hz
      cases hn : Tx.isName s.data.toList with
      | true =>
        have HA1 : Hid (allNames (N.take (k + 1)) = true) := Lib.hid (by
          unfold allNames
          rw [Mo.all_step HX.out]
          have := HA.out
          unfold allNames at this
          rw [this, hn]
          rfl)
        clear hn HA HX HB
        go_wp2_with fail
        go_roundw
        case rel => exact ⟨k + 1, by omega, by go_num, HA1, HB1⟩
        case measure => simp [intOf]; omega
      | false =>
        have HF : Hid (allNames N = false) := Lib.hid (Mo.all_no HX.out hn)
        clear hn HA HX HB
        go_wp2_with fail
        go_ret
        exact Makes.mk (by rw [HF.out]; rfl) HB1.out
    · have HF : Hid (allNames N = true) := Lib.hid (by
        have := HA.out
        rwa [List.take_of_length_le (by omega)] at this)
      clear HA
      go_wp2_with fail
      refine (tNote_any t _).mono ?_
      rintro E w1 ⟨rfl, rfl⟩
      go_wp2_with fail
      go_ret
      exact Makes.mk (by rw [HF.out]; rfl) HB.out
theorem named_1 (t s : ByteArray) (g c : Nat) (w : World) (hN : w.cell? ⟨g, 0, none⟩ = some (.string s)) (hz : s.size ≤ 140737488351232) (hS : Sp w) :
    Calls Tryz.prog 113 #[.string t, .slice (some ⟨g, 0, none⟩) 1 c] w (Makes (.bool (Tx.isName s.data.toList && Tr.note t.data.toList)) w) := by
  have := named_any t [s] g c w (fun j u hj => by
    match j, hj with
    | 0, hj => cases hj; exact hN
    | j + 1, hj => simp at hj) (fun u hu => by rw [List.mem_singleton.1 hu]; exact hz) (by simp) hS
  simpa [allNames] using this
theorem named_2 (t s u : ByteArray) (g c : Nat) (w : World) (h0 : w.cell? ⟨g, 0, none⟩ = some (.string s)) (h1 : w.cell? ⟨g, 1, none⟩ = some (.string u)) (hz : s.size ≤ 140737488351232) (hu : u.size ≤ 140737488351232) (hS : Sp w) :
    Calls Tryz.prog 113 #[.string t, .slice (some ⟨g, 0, none⟩) 2 c] w (Makes (.bool (Tx.isName s.data.toList && Tx.isName u.data.toList && Tr.note t.data.toList)) w) := by
  have := named_any t [s, u] g c w (fun j x hj => by
    match j, hj with
    | 0, hj => cases hj; exact h0
    | 1, hj => cases hj; exact h1
    | j + 2, hj => simp at hj) (fun x hx => by
      simp only [List.mem_cons, List.not_mem_nil, or_false] at hx
      rcases hx with rfl | rfl <;> assumption) (by simp) hS
  simpa [allNames] using this
set_option maxRecDepth 100000 in
set_option maxHeartbeats 1600000 in
theorem few_any (L : List Md) (v : Value) (w : World) (hL : Mods w v L) (hl : L.length ≤ 1000000000000000) (hz : ∀ m ∈ L, MdSz m) : Calls Tryz.prog 112 #[v] w (Makes (.bool (Mo.few L)) w) := by
  have HL := Lib.hid hL
  have HZ := Lib.hid hz
  obtain ⟨A, C, rfl⟩ := hL.form
  clear hL hz
  go_enter Tryz.func112, Tryz.ntmps112
  go_wp2_with fail
  go_loopw [7] (fun i wr => ∃ k : Nat, k ≤ L.length ∧ i = .int .i64 k ∧ Hid ((L.take k).all Mo.small = true) ∧ Hid (Below w.heap.size w wr)) (fun i _ => L.length - (intOf i).toNat)
  case atStart => exact ⟨0, Nat.zero_le _, rfl, Lib.hid rfl, Lib.hid (Below.refl _ _)⟩
  case round =>
    obtain ⟨k, hk, rfl, HA, HB⟩ := hrel
    by_cases hlt : k < L.length
    · obtain ⟨b, off, iv, dv, rfl, ⟨n0, n1, n2, n3, n4⟩, hi, hd⟩ := (HL.out.later HB.out).at_ hlt
      obtain ⟨Ai, ci, rfl⟩ := hi.form
      obtain ⟨Ad, cd, rfl⟩ := hd.form
      have hx : L[k]? = some L[k] := List.getElem?_eq_getElem hlt
      have hz := HZ.out _ (List.mem_of_getElem? hx)
      have b1 := hz.2.1.1
      have b2 := hz.2.2.1
      have HX := Lib.hid hx
      generalize L[k] = m at *
      have HBA : Hid (∀ cs, Below w.heap.size w (wr.alloc (.cells cs 88))) := Lib.hid (fun cs => below_later ((Below.refl _ _).alloc (Nat.le_refl _) _) HB.out)
      clear hx hi hd hz HL
      by_cases hs : m.imps.length + m.defs.length ≤ 64
      · have i1 : ¬ (64 : Int) < (m.imps.length : Int) + (m.defs.length : Int) := by omega
        have HA1 : Hid ((L.take (k + 1)).all Mo.small = true) := Lib.hid (by
          rw [Mo.all_step HX.out, HA.out, Bool.true_and]
          exact decide_eq_true hs)
        clear hs HA HX HB
        go_wp2_with fail
        go_roundw
        case rel => exact ⟨k + 1, by omega, by go_num, HA1, Lib.hid (HBA.out _)⟩
        case measure => simp [intOf]; omega
      · have i1 : (64 : Int) < (m.imps.length : Int) + (m.defs.length : Int) := by omega
        have HF : Hid (Mo.few L = false) := Lib.hid (by
          unfold Mo.few
          rw [Mo.all_no HX.out (decide_eq_false hs), Bool.and_false])
        clear hs HA HX HB
        go_wp2_with fail
        go_ret
        exact Makes.mk (by rw [HF.out]; rfl) (HBA.out _)
    · have HF : Hid (Mo.few L = decide (L.length ≤ 8)) := Lib.hid (by
        have := HA.out
        rw [List.take_of_length_le (by omega)] at this
        unfold Mo.few
        rw [this, Bool.and_true])
      clear HA
      go_wp2_with fail
      go_ret
      exact Makes.mk (by rw [HF.out]; exact bool_congr (decide_eq_decide.2 (by omega))) HB.out
end Go.Proofs.YtidholghbjljaaaGreatDoor
