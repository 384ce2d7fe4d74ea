
/- From a contract of a law to its row: what every law's proof bears. No program in sight. -/
import Derived.WalkKit
import Derived.ProofKit
import Derived.OpenShut
import Derived.SizedLaws
import Derived.Test.YtdfadmhomjcmeaaGreatDoorKk
import Derived.Test.YtdfadmhomjcmeaaGreatDoorTxT
import Derived.Test.YtdfadmhomjcmeaaGreatDoorCards
import Derived.Test.YtdfadmhomjcmeaaGreatDoorTie
import Derived.Deep.DeepHandedRow
import Derived.Deep.DeepWitnessRowRef
import Derived.Lib.LaidTab
import Derived.Lib.Space
import Derived.Lib.SpaceR
import Derived.Stop.LaidErr
namespace Culp
set_option linter.unusedSimpArgs false
set_option linter.unusedVariables false
open Go Go.RowKit Go.ChangeShapes Go.WideShapes Go.ChangeAt

section
variable {H : Type} {enc : TypeId × Value → H} {P : Program}
/-- The arguments read as they did. -/
theorem trodAll_stays {W W' : World} (hl : laidOutB P = true) (hb : Below W.heap.size W W') : ∀ (ts : List TypeId) (vs : List Value) (ds : List (DataW H)) (ps : List MemPlace),
    (ts.all fun t => P.readableRec t && decide (t < P.types.size)) = true → DataW.TrodAll enc P W 0 (fun _ => true) true ts vs ds ps → (∀ x ∈ ps, x.block < W.heap.size) →
    DataW.TrodAll enc P W' 0 (fun b => decide (b < W.heap.size)) true ts vs ds ps
  | [], vs, ds, ps, _, h, _ => by
    obtain ⟨rfl, rfl, rfl⟩ := trodAll_nil h
    exact trodAll_mk0
  | t :: ts, vs, ds, ps, hr, h, hlt => by
    obtain ⟨v, vs', d, ds', p, q, rfl, rfl, rfl, h0, h1⟩ := trodAll_cons h
    simp only [List.all_cons, Bool.and_eq_true, decide_eq_true_eq] at hr
    exact trodAll_cons_mk (Below.trod hl hr.1.1 hr.1.2 h0 hb fun x hx => hlt x (by simp [hx]))
      (trodAll_stays hl hb ts vs' ds' q hr.2 h1 fun x hx => hlt x (by simp [hx]))

/-- What a law's row asks behind the call. -/
theorem law_post {f : Func} {s : ChangeSpec} {W W' : World} {args : Array Value} {ds gs : List (DataW H)} {before : List MemPlace} {tb : TypeId}
    (hl : laidOutB P = true) (hr : (f.params.toList.all fun t => P.readableRec t && decide (t < P.types.size)) = true) (hb : P.underlying tb = some .bool) (hres : f.resultTypes = #[tb]) (hvars : s.vars = [])
    (hW : DataW.Whole enc P f.params.toList s.vars false W args.toList ds gs before) (hs1 : (s.fn H (ds ++ gs)).results = [.lit (.bool true)]) (hs2 : (s.fn H (ds ++ gs)).args = ds) (hs3 : (s.fn H (ds ++ gs)).vars = [])
    (hbel : Below W.heap.size W W') : s.post enc P f false true false false W args (.bool true) W' := by
  have hW0 := hW
  obtain ⟨p, q, hA, hV, rfl, _, _⟩ := hW
  rw [hvars] at hV
  obtain ⟨rfl, rfl⟩ := trodVars_none hV
  refine ⟨ds, [], p ++ [], [], p, [], hW0, ?_, ?_, ?_, hbel.frame _, fun h => by cases h⟩
  · rw [hs1, hres]
    exact trodAll_cons_mk (shut_bool hb _) trodAll_mk0
  · rw [hs2]
    exact trodAll_stays hl hbel _ _ _ _ hr hA fun x hx => hW0.lt x (by simpa using hx)
  · rw [hs3, hvars]
    rfl
end
end Culp

/- What the cards of this seat share: a world that holds the listed tables, and what the list gives. -/
namespace Go.Proofs.YtdfadmhomjcmeaaGreatDoor.Card
set_option linter.unusedSimpArgs false
set_option linter.unusedVariables false
open Go.ChangeShapes Go.WideShapes Go.ChangeAt Go.RowKit Culp

theorem own : ownKnob Tryz.prog.godebug = none := by kernel_rfl
theorem laidOut : laidOutB Tryz.prog = true := by kernel_rfl
theorem gT : Tryz.prog.globalNamed "strings.asciiSpace" = some 0 := by kernel_rfl
theorem gTType : (Tryz.prog.globals[0]?).map (·.type) = some 181 := by kernel_rfl
theorem cells5 : Tryz.prog.cellsOf 5 = 1 := by kernel_rfl
theorem cells79 : Tryz.prog.cellsOf 181 = 256 := by kernel_rfl
theorem gR : Tryz.prog.globalNamed "culprit/check.rows" = some 1 := by kernel_rfl
theorem gRType : (Tryz.prog.globals[1]?).map (·.type) = some 205 := by kernel_rfl
theorem cellsRow : Tryz.prog.cellsOf 204 = 3 := by kernel_rfl
theorem cellsRows : Tryz.prog.cellsOf 205 = 24 := by kernel_rfl
theorem cellsK : Tryz.prog.cellsOf 34 = 1 := by kernel_rfl
theorem cellsS : Tryz.prog.cellsOf 9 = 1 := by kernel_rfl
/-- What the rows of this seat list. -/
abbrev L : List (String × DataW Unit) := [("unicode.White_Space", Rows.laid_unicode_White_Space), ("strings.asciiSpace", Rows.laid_strings_asciiSpace), ("culprit/check.rows", Rows.laid_culprit_check_rows)]
theorem tab_eq : (Rows.laid_strings_asciiSpace : DataW Unit) = Lib.tabData .u8 Lib.asciiSpaceTab := by kernel_rfl
set_option maxRecDepth 100000 in
theorem table {W : World} (h : laidMetH Tryz.prog L W) : Sp W := by
  have h1 : laidMet Tryz.prog L W := h
  have h2 := Go.laidMet.tail h1
  rw [tab_eq] at h2
  exact Lib.tabIs_of_head gT gTType Tryz.underlying181 Tryz.underlying5 cells5 cells79 h2
set_option maxRecDepth 100000 in
theorem row_cells {enc : TypeId × Value → Unit} {w : World} {base : Nat} {spare : Nat → Bool} {held : Bool} {m : Nat} {cs : List Value} {y : DataW Unit × List MemPlace} {k : Int} {s t : List UInt8}
    (h : DataW.trod enc Tryz.prog w base spare held m 204 cs = some y) (hy : y.1 = .agg [.lit (.int .i8 k), .lit (.string s), .lit (.string t)]) : cs = [.int .i8 k, .string ⟨s.toArray⟩, .string ⟨t.toArray⟩] := by
  obtain ⟨ys, n', _, rfl, hlen, hyl, hf⟩ := DataW.trod_struct Tryz.underlying204 h
  rw [cellsRow] at hlen
  match cs, hlen, ys, hyl with
  | [c0, c1, c2], _, [y0, y1, y2], _ =>
    have h0 := hf 0 _ rfl
    have h1 := hf 1 _ rfl
    have h2 := hf 2 _ rfl
    simp [cellsK, cellsS] at h0 h1 h2
    obtain ⟨a0, e0, z0, _⟩ := DataW.trod_int Tryz.underlying34 h0
    obtain ⟨a1, e1, z1, _⟩ := DataW.trod_string Tryz.underlying9 h1
    obtain ⟨a2, e2, z2, _⟩ := DataW.trod_string Tryz.underlying9 h2
    simp at e0 e1 e2
    subst e0 e1 e2 z0 z1 z2
    simp at hy
    obtain ⟨rfl, rfl, rfl⟩ := hy
    rfl
set_option maxRecDepth 100000 in
theorem rows {W : World} (h : laidMetH Tryz.prog L W) : Tab W := by
  have h1 : laidMet Tryz.prog L W := h
  have h2 := Go.laidMet.tail (Go.laidMet.tail h1)
  obtain ⟨ps, ⟨g', t', cs, fuel, p, q, hg', ht', hvar, hd, _, _⟩, _⟩ := h2
  obtain rfl := Option.some.inj (gR.symm.trans hg')
  obtain rfl := Option.some.inj (gRType.symm.trans ht')
  obtain ⟨xs, m, _, hx, hlen, hxl, hf⟩ := DataW.trod_array Tryz.underlying205 hd
  rw [cellsRows] at hlen
  simp only [cellsRow] at hf
  have hc : cs.toList = rowsL := by
    generalize cs.toList = l at *
    match xs, hxl with
    | [x0, x1, x2, x3, x4, x5, x6, x7], _ =>
      match l, hlen with
      | [c0, c1, c2, c3, c4, c5, c6, c7, c8, c9, c10, c11, c12, c13, c14, c15, c16, c17, c18, c19, c20, c21, c22, c23], _ =>
        have f0 := hf 0 (by decide)
        have f1 := hf 1 (by decide)
        have f2 := hf 2 (by decide)
        have f3 := hf 3 (by decide)
        have f4 := hf 4 (by decide)
        have f5 := hf 5 (by decide)
        have f6 := hf 6 (by decide)
        have f7 := hf 7 (by decide)
        have hx1 := congrArg Prod.fst hx
        simp only [List.map_cons, List.map_nil] at hx1
        unfold Rows.laid_culprit_check_rows at hx1
        simp only [DataW.agg.injEq, List.cons.injEq, and_true] at hx1
        obtain ⟨d0, d1, d2, d3, d4, d5, d6, d7⟩ := hx1
        have g0 := row_cells f0 d0.symm
        have g1 := row_cells f1 d1.symm
        have g2 := row_cells f2 d2.symm
        have g3 := row_cells f3 d3.symm
        have g4 := row_cells f4 d4.symm
        have g5 := row_cells f5 d5.symm
        have g6 := row_cells f6 d6.symm
        have g7 := row_cells f7 d7.symm
        simp at g0 g1 g2 g3 g4 g5 g6 g7
        simp [g0, g1, g2, g3, g4, g5, g6, g7, rowsL]
  intro i v hi
  have := World.var?_cell gR hvar i
  rw [← hc] at hi
  rw [this]
  simpa using hi
/-- A world for the witness. -/
noncomputable def laidWorld (os : Os) : World :=
  let N := (World.settled Tryz.prog os).heap.size
  let w0 := World.holding Tryz.prog os ⟨#[.cells (Lib.whiteT.map fun (z : Nat) => Value.int .u16 (z : Int)).toArray 231, .cells #[.slice (some ⟨N, 0, none⟩) 7 7, .slice none 0 0, .int .i64 2] 228], #[], []⟩
  let put (h : Array Obj) (g : Nat) (cs : Array Value) : Array Obj := h.modify g fun
    | .cells _ t frozen => .cells cs t frozen
    | o => o
  let h1 := put w0.heap 0 (Lib.asciiSpaceTab.map fun z => Value.int .u8 z).toArray
  let h2 := put h1 2 #[.pointer (some ⟨N + 1, 0, none⟩)]
  let h3 := put h2 1 rowsL.toArray
  { w0 with heap := h3 }
theorem laid_met (os : Os) (args : Array Value) : laidMet Tryz.prog L ((laidWorld os).forCall (fun _ _ => 0) ⟨#[], args, []⟩).memory := by
  have : ∀ a, laidMet Tryz.prog L ((laidWorld os).forCall (fun _ _ => 0) ⟨#[], a, []⟩).memory := fun a => laidMet_of_run' 10 (by kernel_rfl) (by kernel_rfl)
  exact this args
end Go.Proofs.YtdfadmhomjcmeaaGreatDoor.Card
