/- What the statement TextTokens leans on: bytes with marks behind them. -/
import Derived.Test.YtenbecjnlgmkeaaDoorTyK
import Derived.OwnWalk
namespace Go.Proofs.YtenbecjnlgmkeaaDoor
set_option linter.unusedSimpArgs false
set_option linter.unusedVariables false
open Go.RowKit Go.Maps Culp

/-- A row of bytes that may be written. -/
def RowB (R N : Nat) (w : World) : Prop := ∃ cs : Array Value, w.heap[R]? = some (.cells cs 5 (0, 0)) ∧ cs.size = N
/-- What the first ones of a row hold. -/
def Held (R : Nat) (l : List UInt8) (w : World) : Prop := ∀ i u, l[i]? = some u → w.cell? ⟨R, i, none⟩ = some (byteV u)
theorem RowB.cell {R N : Nat} {w : World} (h : RowB R N w) {i : Nat} (hi : i < N) : ∃ v, w.cell? ⟨R, i, none⟩ = some v := by
  obtain ⟨cs, h1, h2⟩ := h
  exact ⟨cs[i]'(by omega), by simp [World.cell?, h1, show i < cs.size by omega]⟩
theorem RowB.free {R N : Nat} {w : World} (h : RowB R N w) (i : Nat) : w.frozen? ⟨R, i, none⟩ = false := by
  obtain ⟨cs, h1, _⟩ := h
  simp [World.frozen?, h1]
theorem RowB.set {R N : Nat} {w : World} (h : RowB R N w) (i : Nat) (u : Value) : RowB R N (w.setCell ⟨R, i, none⟩ u) := by
  obtain ⟨cs, h1, h2⟩ := h
  exact ⟨cs.setIfInBounds i u, by simp [World.setCell, Array.getElem?_modify, h1], by simpa using h2⟩
theorem Held.put {R N k : Nat} {L : List UInt8} {x : UInt8} {w : World} (hr : RowB R N w) (hk : k < N) (h : Held R (L.take k) w) (hx : L[k]? = some x) : Held R (L.take (k + 1)) (w.setCell ⟨R, k, none⟩ (byteV x)) := by
  intro i y hy
  rw [List.getElem?_take] at hy
  split at hy
  · rcases Nat.lt_or_ge i k with hlt | hge
    · have hy' : (L.take k)[i]? = some y := by rw [List.getElem?_take, if_pos hlt]; exact hy
      rw [World.cell?_setCell_other]
      · exact h i y hy'
      all_goals simp [show i ≠ k by omega]
    · obtain rfl : i = k := by omega
      rw [hx] at hy
      cases hy
      obtain ⟨v, hv⟩ := hr.cell hk
      exact World.cell?_setCell_same _ _ _ hv
  · cases hy
theorem mark_val (k : Nat) : byteV (Tx.markB k) = .int .u8 ((279 + 7 * (k : Int) + 3) % 256) := by
  show Value.int .u8 ((Tx.markB k).toNat : Int) = _
  rw [Tx.markB_nat]
  congr 1
/-- Bytes of the call's own, with marks behind them. -/
def WideB (l : List UInt8) (w : World) (e : Ending) (w' : World) : Prop := ∃ g, w.heap.size ≤ g ∧ e = .returned (.slice (some ⟨g, 0, none⟩) l.length (l.length + 64 : Nat)) ∧ RowB g (l.length + 64) w' ∧ Held g (l ++ Tx.marksB l.length) w' ∧ Below w.heap.size w w'
set_option maxRecDepth 100000 in
set_option maxHeartbeats 3200000 in
theorem WideBytes_any (s : ByteArray) (sv : Value) (w : World) (hb : BytesV w sv s) (hs : s.size ≤ 100000000000) : Calls Tryd.prog 11 #[sv] w (WideB s.data.toList w) := by
  have HV := Lib.hid hb
  have hl := size_list s
  obtain ⟨A, c, rfl, hlc, hA⟩ := hb
  have HA := Lib.hid hA
  have HL := Lib.hid hl
  obtain ⟨i0, hi, hz0, hz1, hz2⟩ := info_parts u8_info
  clear hA hl
  go_enter Tryd.func11, Tryd.ntmps11
  go_wp2_with (refine wpList_make_full _ rfl (.tmp 7) (.tmp 7) 22 rfl w.heap.size 5 i0 _ 1 Tryd.underlying22 hi hz0 hz1 .i64 .i64 ((s.size : Int) + 64) ((s.size : Int) + 64) (s.size + 64) rfl rfl (by omega) (by omega) (by rw [hz2]; omega) (by unfold maxLen; omega) (Nat.le_refl _) ?_)
  intro w1 hown hgr
  have hrow : RowB w.heap.size (s.size + 64) w1 := by
    rcases hown.2 with ⟨h1, _⟩ | ⟨g, cap, cur, h1, _, h2, _, _, h3, _⟩
    · cases h1
    · simp only [Value.slice.injEq, Option.some.injEq, Addr.mk.injEq] at h1
      obtain ⟨⟨rfl, _⟩, _, rfl⟩ := h1
      exact ⟨cur, h2, by omega⟩
  have hb1 : Below w.heap.size w w1 := (Below.refl _ _).grown hgr (Nat.le_refl _) fun k hk => by cases hk
  have HR := Lib.hid hrow
  have HB := Lib.hid hb1
  clear hown hgr hrow hb1
  go_wp2_with fail
  go_loopw [4] (fun i wr => ∃ k : Nat, k ≤ s.size + 64 ∧ i = .int .i64 k ∧ Hid (RowB w.heap.size (s.size + 64) wr) ∧ Hid (Held w.heap.size ((s.data.toList ++ Tx.marksB s.size).take k) wr) ∧ Hid (Below w.heap.size w wr)) (fun i _ => s.size + 64 - (intOf i).toNat)
  case atStart => exact ⟨0, by omega, rfl, HR, Lib.hid (by intro i x hx; simp at hx), HB⟩
  case round =>
    obtain ⟨k, hk, rfl, HRr, HNr, HBr⟩ := hrel
    by_cases hlt : k < s.size + 64
    · obtain ⟨v0, r0⟩ := HRr.out.cell hlt
      have f0 := HRr.out.free k
      by_cases hkT : k < s.size
      · obtain ⟨b, off, rfl, hM⟩ := HA.out (by omega)
        have n0 := cell_later HBr.out (hM k hkT)
        have HR2 := Lib.hid (HRr.out.set k (byteV s[k]))
        have HN2 := Lib.hid (Held.put HRr.out hlt HNr.out (x := s[k]) (by rw [List.getElem?_append_left (by rw [HL.out]; exact hkT)]; exact get_byte s k hkT))
        have hb2 : Below w.heap.size w (wr.setCell ⟨w.heap.size, k, none⟩ (byteV s[k])) := HBr.out.setCell (Nat.le_refl _) _
        have HB2 := Lib.hid hb2
        clear hM hb2
        go_wp2_with fail
        exact ⟨⟨k + 1, by omega, by go_num, HR2, HN2, HB2⟩, by simp [intOf]; omega⟩
      · have hx : (s.data.toList ++ Tx.marksB s.size)[k]? = some (Tx.markB k) := by rw [← HL.out]; exact Tx.marksB_at (by rw [HL.out]; omega) (by rw [HL.out]; exact hlt)
        have HX := Lib.hid hx
        have hk6 : k ≤ 1000000000000 := by omega
        clear hx
        have HN2 := Lib.hid (Held.put HRr.out hlt HNr.out HX.out)
        have HR2 := Lib.hid (HRr.out.set k (byteV (Tx.markB k)))
        have hb2 : Below w.heap.size w (wr.setCell ⟨w.heap.size, k, none⟩ (byteV (Tx.markB k))) := HBr.out.setCell (Nat.le_refl _) _
        rw [mark_val] at HN2 HR2 hb2
        have HB2 := Lib.hid hb2
        clear hb2
        go_wp2_with fail
        exact ⟨⟨k + 1, by omega, by go_num, HR2, HN2, HB2⟩, by simp [intOf]; omega⟩
    · obtain rfl : k = s.size + 64 := by omega
      have HN2 : Hid (Held w.heap.size (s.data.toList ++ Tx.marksB s.size) wr) := by
        have := HNr.out
        rw [List.take_of_length_le (by rw [List.length_append, HL.out]; simp [Tx.marksB])] at this
        exact this
      go_wp2_with fail
      go_ret
      refine ⟨w.heap.size, Nat.le_refl _, ?_, ?_, ?_, HBr.out⟩
      · rw [HL.out]; rfl
      · rw [HL.out]; exact HRr.out
      · rw [HL.out]; exact HN2.out
end Go.Proofs.YtenbecjnlgmkeaaDoor
