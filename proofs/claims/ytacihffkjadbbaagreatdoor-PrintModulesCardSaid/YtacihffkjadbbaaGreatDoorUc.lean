
/- Walks of types.Words: a type's words, by a pen. -/
import Derived.Test.YtacihffkjadbbaaGreatDoorUb
import Derived.Test.YtacihffkjadbbaaGreatDoorUa
namespace Go.Proofs.YtacihffkjadbbaaGreatDoor
set_option linter.unusedSimpArgs false
set_option linter.unusedVariables false
open Go.RowKit Culp
/-- What goes on with the bytes answers. -/
def Wrote (T : TypeId) (rest : List Value) (B b : Nat) (bs : List Value) (o : Option Nat) (l : List UInt8) (w : World) (e : Ending) (w' : World) : Prop :=
  e = .returned (.tuple #[]) ∧ ∃ v', PenV T rest B b (.pointer (some ⟨b, 0, none⟩)) v' (bs ++ Lib.byteCells l) w' ∧ KeepN b o w w' ∧ (v'.ownBlock = o ∨ ∃ g, v'.ownBlock = some g ∧ w.heap.size ≤ g)
theorem Wrote.after {T : TypeId} {rest bs : List Value} {B b : Nat} {o : Option Nat} {v : Value} {l1 l2 l : List UInt8} {w w1 w2 : World} {e : Ending} (k : KeepN b o w w1) (hv : v.ownBlock = o ∨ ∃ g, v.ownBlock = some g ∧ w.heap.size ≤ g) (h : Wrote T rest B b (bs ++ Lib.byteCells l1) v.ownBlock l2 w1 e w2) (hl : l = l1 ++ l2) : Wrote T rest B b bs o l w e w2 := by
  obtain ⟨h1, v', h2, h3, h4⟩ := h
  subst hl
  refine ⟨h1, v', ?_, k.trans h3 hv, ?_⟩
  · have e : bs ++ Lib.byteCells (l1 ++ l2) = bs ++ Lib.byteCells l1 ++ Lib.byteCells l2 := by simp [Lib.byteCells]
    rw [e]
    exact h2
  · have hs := k.size
    rcases h4 with h4 | ⟨g, h4, hg⟩
    · rw [h4]; exact hv
    · exact .inr ⟨g, h4, by omega⟩
theorem lies_pen : Lies 128 0 := by
  unfold Lies
  kernel_rfl
/-- What write does with a type. -/
def WP (t : Ty) : Prop := ∀ (B b : Nat) (p v : Value) (bs : List Value) (w : World), PenV 128 [] B b p v bs w → Self b p → B ≤ w.heap.size → bs.length + (Pt.wr t).length ≤ 140737488355328 → Calls Tryz.prog 111 #[.pointer (some ⟨b, 0, none⟩), .string t.str] w (Wrote 128 [] B b bs v.ownBlock (Pt.wr t) w)
theorem pen_later {T : TypeId} {rest bs : List Value} {B b : Nat} {p v : Value} {w w1 : World} (h : PenV T rest B b p v bs w) (hb : Below w.heap.size w w1) : PenV T rest B b p v bs w1 :=
  ⟨h.1, (hb.block b (Array.getElem?_eq_some_iff.1 h.2.1).1).trans h.2.1, own_later h.2.2.1 hb, h.2.2.2⟩
set_option maxRecDepth 100000 in
set_option maxHeartbeats 1600000 in
theorem write_int : WP .int := by
  intro B b p v bs w h hp hB hl
  have hw : (Pt.wr .int).length = 3 := rfl
  have hs : (Ty.str .int).size = 1 := rfl
  have hc : (((Ty.str .int)[0]'(by rw [hs]; decide)).toNat : Int) = 105 := rfl
  generalize hst : Ty.str .int = st at *
  have HPA := Lib.hid (parts_any .int (by unfold Ty.fits; decide) w)
  rw [hst] at HPA
  have HV := Lib.hid h
  go_enter Tryz.func111, Tryz.ntmps111
  go_wp2_with fail
  refine HPA.out.mono ?_
  rintro e w1 ⟨pv, rfl, hown, hb1⟩
  have HV1 := Lib.hid (pen_later HV.out hb1)
  have hsz := hb1.size
  clear hown
  go_wp2_with fail
  refine (WriteString_pen (s := ⟨(Pt.wr .int).toArray⟩) lies_pen (by decide) HV1.out hp (by simpa [ByteArray.size] using hl) (by omega)).mono ?_
  rintro e w2 ⟨rfl, v2, h2, h3, h4⟩
  go_wp2_with fail
  go_end0
  refine Wrote.after (l1 := []) (l2 := Pt.wr .int) (KeepN.of b v.ownBlock hb1) (.inl rfl) ?_ rfl
  simp only [Lib.byteCells, List.map_nil, List.append_nil]
  exact ⟨rfl, v2, h2, h3, h4⟩
set_option maxRecDepth 100000 in
set_option maxHeartbeats 1600000 in
theorem write_bool : WP .bool := by
  intro B b p v bs w h hp hB hl
  have hw : (Pt.wr .bool).length = 4 := rfl
  have hs : (Ty.str .bool).size = 1 := rfl
  have hc : (((Ty.str .bool)[0]'(by rw [hs]; decide)).toNat : Int) = 98 := rfl
  generalize hst : Ty.str .bool = st at *
  have HPA := Lib.hid (parts_any .bool (by unfold Ty.fits; decide) w)
  rw [hst] at HPA
  have HV := Lib.hid h
  go_enter Tryz.func111, Tryz.ntmps111
  go_wp2_with fail
  refine HPA.out.mono ?_
  rintro e w1 ⟨pv, rfl, hown, hb1⟩
  have HV1 := Lib.hid (pen_later HV.out hb1)
  have hsz := hb1.size
  clear hown
  go_wp2_with fail
  refine (WriteString_pen (s := ⟨(Pt.wr .bool).toArray⟩) lies_pen (by decide) HV1.out hp (by simpa [ByteArray.size] using hl) (by omega)).mono ?_
  rintro e w2 ⟨rfl, v2, h2, h3, h4⟩
  go_wp2_with fail
  go_end0
  refine Wrote.after (l1 := []) (l2 := Pt.wr .bool) (KeepN.of b v.ownBlock hb1) (.inl rfl) ?_ rfl
  simp only [Lib.byteCells, List.map_nil, List.append_nil]
  exact ⟨rfl, v2, h2, h3, h4⟩
set_option maxRecDepth 100000 in
set_option maxHeartbeats 1600000 in
theorem write_text : WP .text := by
  intro B b p v bs w h hp hB hl
  have hw : (Pt.wr .text).length = 4 := rfl
  have hs : (Ty.str .text).size = 1 := rfl
  have hc : (((Ty.str .text)[0]'(by rw [hs]; decide)).toNat : Int) = 116 := rfl
  generalize hst : Ty.str .text = st at *
  have HPA := Lib.hid (parts_any .text (by unfold Ty.fits; decide) w)
  rw [hst] at HPA
  have HV := Lib.hid h
  go_enter Tryz.func111, Tryz.ntmps111
  go_wp2_with fail
  refine HPA.out.mono ?_
  rintro e w1 ⟨pv, rfl, hown, hb1⟩
  have HV1 := Lib.hid (pen_later HV.out hb1)
  have hsz := hb1.size
  clear hown
  go_wp2_with fail
  refine (WriteString_pen (s := ⟨(Pt.wr .text).toArray⟩) lies_pen (by decide) HV1.out hp (by simpa [ByteArray.size] using hl) (by omega)).mono ?_
  rintro e w2 ⟨rfl, v2, h2, h3, h4⟩
  go_wp2_with fail
  go_end0
  refine Wrote.after (l1 := []) (l2 := Pt.wr .text) (KeepN.of b v.ownBlock hb1) (.inl rfl) ?_ rfl
  simp only [Lib.byteCells, List.map_nil, List.append_nil]
  exact ⟨rfl, v2, h2, h3, h4⟩
set_option maxRecDepth 100000 in
set_option maxHeartbeats 1600000 in
theorem write_dyn : WP .dyn := by
  intro B b p v bs w h hp hB hl
  have hw : (Pt.wr .dyn).length = 1 := rfl
  have hs : (Ty.str .dyn).size = 1 := rfl
  have hc : (((Ty.str .dyn)[0]'(by rw [hs]; decide)).toNat : Int) = 63 := rfl
  generalize hst : Ty.str .dyn = st at *
  have HPA := Lib.hid (parts_any .dyn (by unfold Ty.fits; decide) w)
  rw [hst] at HPA
  have HV := Lib.hid h
  go_enter Tryz.func111, Tryz.ntmps111
  go_wp2_with fail
  refine HPA.out.mono ?_
  rintro e w1 ⟨pv, rfl, hown, hb1⟩
  have HV1 := Lib.hid (pen_later HV.out hb1)
  have hsz := hb1.size
  clear hown
  go_wp2_with fail
  refine (WriteString_pen (s := ⟨(Pt.wr .dyn).toArray⟩) lies_pen (by decide) HV1.out hp (by simpa [ByteArray.size] using hl) (by omega)).mono ?_
  rintro e w2 ⟨rfl, v2, h2, h3, h4⟩
  go_wp2_with fail
  go_end0
  refine Wrote.after (l1 := []) (l2 := Pt.wr .dyn) (KeepN.of b v.ownBlock hb1) (.inl rfl) ?_ rfl
  simp only [Lib.byteCells, List.map_nil, List.append_nil]
  exact ⟨rfl, v2, h2, h3, h4⟩
end Go.Proofs.YtacihffkjadbbaaGreatDoor
