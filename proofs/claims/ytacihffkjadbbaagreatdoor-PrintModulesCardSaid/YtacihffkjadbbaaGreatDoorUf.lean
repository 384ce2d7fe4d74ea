
/- Walks of the printer: its state; many pieces are written. -/
import Derived.Test.YtacihffkjadbbaaGreatDoorUe
namespace Go.Proofs.YtacihffkjadbbaaGreatDoor
set_option linter.unusedSimpArgs false
set_option linter.unusedVariables false
open Go.RowKit Culp
theorem lies_printer : Lies 74 2 := by
  unfold Lies
  kernel_rfl
/-- The printer so far: what was there at first (w0), the list, the place; what was written since w1. -/
structure PS (w0 : World) (lv : Value) (b : Nat) (o : Option Nat) (bs : List Value) (w1 : World) (l : List UInt8) (i : Nat) (p v : Value) (w : World) : Prop where
  pen : PenV 74 [lv, .int .i64 i] w0.heap.size b p v (bs ++ Lib.byteCells l) w
  self : Self b p
  keep : KeepN b o w1 w
  own : v.ownBlock = o ∨ ∃ g, v.ownBlock = some g ∧ w1.heap.size ≤ g
  below : Below w0.heap.size w0 w
/-- A call that writes goes on so. -/
def Goes (w0 : World) (lv : Value) (b : Nat) (o : Option Nat) (bs : List Value) (w1 : World) (l : List UInt8) (i : Nat) (e : Ending) (w : World) : Prop :=
  e = .returned (.tuple #[]) ∧ ∃ v, PS w0 lv b o bs w1 l i (.pointer (some ⟨b, 0, none⟩)) v w
section
variable {w0 w1 w w' : World} {lv p v : Value} {b i : Nat} {o : Option Nat} {bs : List Value} {l : List UInt8}
theorem PS.size (h : PS w0 lv b o bs w1 l i p v w) : w0.heap.size ≤ w.heap.size := h.below.size
theorem PS.blt (h : PS w0 lv b o bs w1 l i p v w) : b < w.heap.size := (Array.getElem?_eq_some_iff.1 h.pen.2.1).1
theorem PS.later (h : PS w0 lv b o bs w1 l i p v w) (hb : Below w.heap.size w w') : PS w0 lv b o bs w1 l i p v w' :=
  ⟨pen_later h.pen hb, h.self, h.keep.trans (KeepN.of b v.ownBlock hb) h.own, h.own, h.below.trans (hb.mono h.size)⟩
theorem PS.vlt (h : PS w0 lv b o bs w1 l i p v w) {g : Nat} (hg : v.ownBlock = some g) : g < w.heap.size := (h.pen.2.2.1.lt g hg).2
theorem PS.rebase (h : PS w0 lv b o bs w1 l i p v w) : PS w0 lv b v.ownBlock (bs ++ Lib.byteCells l) w [] i p v w :=
  ⟨by simpa [Lib.byteCells] using h.pen, h.self, KeepN.refl _ _ _, .inl rfl, h.below⟩
theorem PS.join {l2 : List UInt8} {i2 : Nat} {p2 v2 : Value} (h : PS w0 lv b o bs w1 l i p v w) (h2 : PS w0 lv b v.ownBlock (bs ++ Lib.byteCells l) w l2 i2 p2 v2 w') : PS w0 lv b o bs w1 (l ++ l2) i2 p2 v2 w' := by
  refine ⟨?_, h2.self, h.keep.trans h2.keep h.own, ?_, h2.below⟩
  · have e : bs ++ Lib.byteCells (l ++ l2) = bs ++ Lib.byteCells l ++ Lib.byteCells l2 := by simp [Lib.byteCells]
    rw [e]; exact h2.pen
  · have hs := h.keep.size
    rcases h2.own with e | ⟨g, e, hg⟩
    · rw [e]; exact h.own
    · exact .inr ⟨g, e, by omega⟩
theorem PS.cells (h : PS w0 lv b o bs w1 l i p v w) : w.cell? ⟨b, 2, none⟩ = some lv ∧ w.cell? ⟨b, 3, none⟩ = some (.int .i64 i) := by
  have := h.pen.2.1
  exact ⟨by rw [Lib.cell_of_heap this]; rfl, by rw [Lib.cell_of_heap this]; rfl⟩
/-- The place is counted on. -/
theorem PS.at_ (h : PS w0 lv b o bs w1 l i p v w) (k : Nat) : PS w0 lv b o bs w1 l k p v (w.setCell ⟨b, 3, none⟩ (.int .i64 k)) := by
  obtain ⟨h1, h2, h3, h4⟩ := h.pen
  refine ⟨⟨h1, ?_, ?_, h4⟩, h.self, h.keep.trans (keepN_set b v.ownBlock 3 _ w) h.own, h.own, h.below.setCell (p := ⟨b, 3, none⟩) h1 _⟩
  · simp [World.setCell, Array.getElem?_modify, h2]
  · exact h3.kept (row := some b) ⟨rfl, rfl, rfl, by simp [World.setCell], fun k _ hk => Below.heap_setCell _ _ _ _ (fun e => hk (by simp [e]))⟩ (Or.inr h4)
end
/-- Pieces behind each other. -/
def cat (S : List ByteArray) : List UInt8 := S.flatMap fun s => s.data.toList
theorem cat_cons (s : ByteArray) (S : List ByteArray) : cat (s :: S) = s.data.toList ++ cat S := by simp [cat]
theorem cat_drop {S : List ByteArray} {k : Nat} {s : ByteArray} (h : S[k]? = some s) : cat (S.drop k) = s.data.toList ++ cat (S.drop (k + 1)) := by
  obtain ⟨h1, h2⟩ := List.getElem?_eq_some_iff.1 h
  rw [List.drop_eq_getElem_cons h1, cat_cons, h2]
theorem strCells_eq (s : ByteArray) : Lib.strCells s = Lib.byteCells s.data.toList := by
  rfl
set_option maxRecDepth 100000 in
set_option maxHeartbeats 3200000 in
theorem put_any (S : List ByteArray) (g : Nat) {w0 w1 w : World} {lv p v : Value} {b i : Nat} {o : Option Nat} {bs : List Value} {l : List UInt8} (h : PS w0 lv b o bs w1 l i p v w)
    (hS : ∀ (j : Nat) (s : ByteArray), S[j]? = some s → w.cell? ⟨g, j, none⟩ = some (.string s)) (hgb : g ≠ b) (hgo : v.ownBlock ≠ some g) (hg : g < w.heap.size) (hl : bs.length + l.length + (cat S).length ≤ 140737488355328) (hn : S.length ≤ 100) (hn0 : S.length ≠ 0) :
    Calls Tryz.prog 44 #[.pointer (some ⟨b, 0, none⟩), .slice (some ⟨g, 0, none⟩) S.length S.length] w (Goes w0 lv b o bs w1 (l ++ cat S) i) := by
  have HP := Lib.hid h
  have HS := Lib.hid hS
  have HN0 := Lib.hid hn0
  clear h hS hn0
  go_enter Tryz.func44, Tryz.ntmps44
  go_wp2_with fail
  go_loopw [8] (fun iv wr => ∃ (k : Nat) (p v : Value) (m : List UInt8), k ≤ S.length ∧ iv = .int .i64 k ∧ Hid (m ++ cat (S.drop k) = cat S) ∧ Hid (PS w0 lv b o bs w1 (l ++ m) i p v wr) ∧ Hid ((p = .pointer (some ⟨b, 0, none⟩)) ∨ k = 0) ∧ Hid (v.ownBlock ≠ some g) ∧ Hid (∀ (j : Nat) (s : ByteArray), S[j]? = some s → wr.cell? ⟨g, j, none⟩ = some (.string s)) ∧ g < wr.heap.size) (fun i _ => S.length - (intOf i).toNat)
  case atStart => exact ⟨0, p, v, [], Nat.zero_le _, rfl, Lib.hid rfl, Lib.hid (by rw [List.append_nil]; exact HP.out), Lib.hid (.inr rfl), Lib.hid hgo, HS, hg⟩
  case round =>
    clear HP HS hgo hg
    obtain ⟨k, p, v, m, hk, rfl, HM, HP, HF, HO, HS, hg⟩ := hrel
    by_cases hlt : k < S.length
    · have hx : S[k]? = some S[k] := List.getElem?_eq_getElem hlt
      have c0 := HS.out k _ hx
      have HX := Lib.hid hx
      generalize S[k] = s at *
      have HD := Lib.hid (cat_drop hx)
      have hl2 := congrArg List.length HM.out
      rw [HD.out] at hl2
      simp only [List.length_append] at hl2
      have HSZ : Hid ((bs ++ Lib.byteCells (l ++ m)).length + s.size ≤ 140737488355328) := Lib.hid (by
        have hss : s.size = s.data.toList.length := by rw [Array.length_toList]; rfl
        simp [Lib.byteCells]; omega)
      clear hx hl2
      go_wp2_with fail
      refine (WriteString_pen (s := s) lies_printer (by decide) HP.out.pen HP.out.self HSZ.out HP.out.size).mono ?_
      rintro e w2 ⟨rfl, v2, h2, k2, o2⟩
      have hs2 := k2.size
      have HP2 : Hid (PS w0 lv b o bs w1 (l ++ (m ++ s.data.toList)) i (.pointer (some ⟨b, 0, none⟩)) v2 w2) := Lib.hid (by
        have hq : PS w0 lv b v.ownBlock (bs ++ Lib.byteCells (l ++ m)) wr s.data.toList i (.pointer (some ⟨b, 0, none⟩)) v2 w2 := ⟨by rw [← strCells_eq]; exact h2, .inr rfl, k2, o2, k2.below HP.out.below HP.out.size HP.out.pen.1 (fun k e => by
          rcases HP.out.pen.2.2.1.2 with ⟨e1, _⟩ | ⟨g1, _, _, e1, e2, _⟩
          · rw [e1] at e; cases e
          · rw [e1] at e; cases e; exact e2)⟩
        have := HP.out.join hq
        rwa [List.append_assoc] at this)
      have HS2 : Hid (∀ (j : Nat) (s : ByteArray), S[j]? = some s → w2.cell? ⟨g, j, none⟩ = some (.string s)) := Lib.hid (fun j s hj => k2.cell (HS.out j s hj) hgb HO.out)
      have HO2 : Hid (v2.ownBlock ≠ some g) := Lib.hid (by
        rcases o2 with e | ⟨g1, e, hg1⟩
        · rw [e]; exact HO.out
        · rw [e]; intro e2; cases e2; omega)
      have HM2 : Hid ((m ++ s.data.toList) ++ cat (S.drop (k + 1)) = cat S) := Lib.hid (by rw [List.append_assoc, ← HD.out]; exact HM.out)
      clear h2 k2 o2 HP HS HO HM c0
      go_wp2_with fail
      go_roundw
      case rel => exact ⟨k + 1, _, v2, m ++ s.data.toList, by omega, by go_num, HM2, HP2, Lib.hid (.inl rfl), HO2, HS2, by omega⟩
      case measure => simp [intOf]; omega
    · have hk2 : k = S.length := by omega
      have hm : m = cat S := by
        have := HM.out
        rwa [List.drop_of_length_le (by omega), show cat [] = [] from rfl, List.append_nil] at this
      go_wp2_with fail
      go_end0
      rcases HF.out with rfl | h0
      · exact ⟨rfl, v, by have := HP.out; rw [hm] at this; exact this⟩
      · exact absurd (by omega) HN0.out
/-- Pieces that are laid for the call. -/
theorem put_lit (S : List ByteArray) (tid : TypeId) {w0 w1 w : World} {lv p v : Value} {b i : Nat} {o : Option Nat} {bs : List Value} {l : List UInt8} (h : PS w0 lv b o bs w1 l i p v w) (hl : bs.length + l.length + (cat S).length ≤ 140737488355328) (hn : S.length ≤ 100) (hn0 : S.length ≠ 0) :
    Calls Tryz.prog 44 #[.pointer (some ⟨b, 0, none⟩), .slice (some ⟨w.heap.size, 0, none⟩) S.length S.length] (w.alloc (.cells (S.map Value.string).toArray tid)) (Goes w0 lv b o bs w1 (l ++ cat S) i) := by
  refine put_any S w.heap.size (h.later ((Below.refl _ _).alloc (Nat.le_refl _) _)) (fun j s hj => ?_) (fun e => ?_) (fun e => ?_) ?_ hl hn hn0
  · rw [Lib.cell_of_heap (heap_alloc_new w _)]
    simp [hj]
  · have := h.blt; omega
  · have := h.vlt e; omega
  · simp
end Go.Proofs.YtacihffkjadbbaaGreatDoor
