
/- From a contract of a law to its row: what every law's proof bears. No program in sight. -/
import Derived.WalkKit
import Derived.ProofKit
import Derived.OpenShut
import Derived.SizedLaws
import Derived.Test.YtidholghbjljaaaGreatDoorHlpB
import Derived.Test.YtidholghbjljaaaGreatDoorCards
import Derived.Test.YtidholghbjljaaaGreatDoorTie
import Derived.Deep.DeepHandedRow
import Derived.Deep.DeepWitnessRowRef
import Derived.Lib.LaidTab
import Derived.Lib.Space
import Derived.Lib.SpaceR
import Derived.Stop.LaidErr
import Derived.Lib.ItoaNum
namespace Culp
set_option linter.unusedSimpArgs false
set_option linter.unusedVariables false
open Go Go.RowKit Go.ChangeShapes Go.WideShapes Go.ChangeAt

section
variable {H : Type} {enc : TypeId × Value → H} {P : Program}
/-- The arguments read as they did. -/
theorem trodAll_stays {W W' : World} (hl : laidOutB P = true) (hb : Below W.heap.size W W') : ∀ (ts : List TypeId) (vs : List Value) (ds : List (DataW H)) (ps : List MemPlace),
    (ts.all fun t => P.readableRec t && decide (t < P.types.size)) = true → DataW.TrodAll enc P W 0 (fun _ => true) true ts vs ds ps → (∀ x ∈ ps, x.block < W.heap.size) →
    DataW.TrodAll enc P W' 0 (fun b => decide (b < W.heap.size)) true ts vs ds ps
  | [], vs, ds, ps, _, h, _ => by
    obtain ⟨rfl, rfl, rfl⟩ := trodAll_nil h
    exact trodAll_mk0
  | t :: ts, vs, ds, ps, hr, h, hlt => by
    obtain ⟨v, vs', d, ds', p, q, rfl, rfl, rfl, h0, h1⟩ := trodAll_cons h
    simp only [List.all_cons, Bool.and_eq_true, decide_eq_true_eq] at hr
    exact trodAll_cons_mk (Below.trod hl hr.1.1 hr.1.2 h0 hb fun x hx => hlt x (by simp [hx]))
      (trodAll_stays hl hb ts vs' ds' q hr.2 h1 fun x hx => hlt x (by simp [hx]))

/-- What a law's row asks behind the call. -/
theorem law_post {f : Func} {s : ChangeSpec} {W W' : World} {args : Array Value} {ds gs : List (DataW H)} {before : List MemPlace} {tb : TypeId}
    (hl : laidOutB P = true) (hr : (f.params.toList.all fun t => P.readableRec t && decide (t < P.types.size)) = true) (hb : P.underlying tb = some .bool) (hres : f.resultTypes = #[tb]) (hvars : s.vars = [])
    (hW : DataW.Whole enc P f.params.toList s.vars false W args.toList ds gs before) (hs1 : (s.fn H (ds ++ gs)).results = [.lit (.bool true)]) (hs2 : (s.fn H (ds ++ gs)).args = ds) (hs3 : (s.fn H (ds ++ gs)).vars = [])
    (hbel : Below W.heap.size W W') : s.post enc P f false true false false W args (.bool true) W' := by
  have hW0 := hW
  obtain ⟨p, q, hA, hV, rfl, _, _⟩ := hW
  rw [hvars] at hV
  obtain ⟨rfl, rfl⟩ := trodVars_none hV
  refine ⟨ds, [], p ++ [], [], p, [], hW0, ?_, ?_, ?_, hbel.frame _, fun h => by cases h⟩
  · rw [hs1, hres]
    exact trodAll_cons_mk (shut_bool hb _) trodAll_mk0
  · rw [hs2]
    exact trodAll_stays hl hbel _ _ _ _ hr hA fun x hx => hW0.lt x (by simpa using hx)
  · rw [hs3, hvars]
    rfl
end
end Culp

/- What the cards of this seat share: a world that holds the listed tables, and what the list gives. -/
namespace Go.Proofs.YtidholghbjljaaaGreatDoor.Card
set_option linter.unusedSimpArgs false
set_option linter.unusedVariables false
open Go.ChangeShapes Go.WideShapes Go.ChangeAt Go.RowKit Culp

theorem own : ownKnob Tryz.prog.godebug = none := by kernel_rfl
theorem laidOut : laidOutB Tryz.prog = true := by kernel_rfl
theorem gT : Tryz.prog.globalNamed "strings.asciiSpace" = some 4 := by kernel_rfl
theorem gTType : (Tryz.prog.globals[4]?).map (·.type) = some 208 := by kernel_rfl
theorem cells5 : Tryz.prog.cellsOf 5 = 1 := by kernel_rfl
theorem cells79 : Tryz.prog.cellsOf 208 = 256 := by kernel_rfl
/-- What the rows of this seat list. -/
abbrev L : List (String × DataW Unit) := [("unicode.White_Space", Rows.laid_unicode_White_Space), ("strings.asciiSpace", Rows.laid_strings_asciiSpace)]
theorem tab_eq : (Rows.laid_strings_asciiSpace : DataW Unit) = Lib.tabData .u8 Lib.asciiSpaceTab := by kernel_rfl
theorem table {W : World} (h : laidMetH Tryz.prog L W) : Sp W := by
  have h1 : laidMet Tryz.prog L W := h
  have h2 := Go.laidMet.tail h1
  rw [tab_eq] at h2
  exact Lib.tabIs_of_head (rest := []) gT gTType Tryz.underlying208 Tryz.underlying5 cells5 cells79 h2

/-- A world for the witness. -/
noncomputable def laidWorld (os : Os) : World :=
  let N := (World.settled Tryz.prog os).heap.size
  let w0 := World.holding Tryz.prog os ⟨#[.cells (Lib.whiteT.map fun (z : Nat) => Value.int .u16 (z : Int)).toArray 222, .cells #[.slice (some ⟨N, 0, none⟩) 7 7, .slice none 0 0, .int .i64 2] 219], #[], []⟩
  let put (h : Array Obj) (g : Nat) (cs : Array Value) : Array Obj := h.modify g fun
    | .cells _ t frozen => .cells cs t frozen
    | o => o
  let h1 := put w0.heap 4 (Lib.asciiSpaceTab.map fun z => Value.int .u8 z).toArray
  let h2 := put h1 5 #[.pointer (some ⟨N + 1, 0, none⟩)]
  { w0 with heap := h2 }
theorem laid_met (os : Os) (args : Array Value) : laidMet Tryz.prog L ((laidWorld os).forCall (fun _ _ => 0) ⟨#[], args, []⟩).memory := by
  have : ∀ a, laidMet Tryz.prog L ((laidWorld os).forCall (fun _ _ => 0) ⟨#[], a, []⟩).memory := fun a => laidMet_of_run' 10 (by kernel_rfl) (by kernel_rfl)
  exact this args
end Go.Proofs.YtidholghbjljaaaGreatDoor.Card

/- What the cards with five tables share: a world that holds the listed tables, and what the list gives. -/
namespace Go.Proofs.YtidholghbjljaaaGreatDoor.Card5
set_option linter.unusedSimpArgs false
set_option linter.unusedVariables false
open Go.ChangeShapes Go.WideShapes Go.ChangeAt Go.RowKit Culp

theorem gT : Tryz.prog.globalNamed "internal/strconv.uint64pow10" = some 1 := by kernel_rfl
theorem gTType : (Tryz.prog.globals[1]?).map (·.type) = some 198 := by kernel_rfl
theorem cells5 : Tryz.prog.cellsOf 188 = 1 := by kernel_rfl
theorem cells20 : Tryz.prog.cellsOf 198 = 20 := by kernel_rfl
/-- What the rows list. -/
abbrev L : List (String × DataW Unit) := [("math/bits.deBruijn32tab", Rows.laid_math_bits_deBruijn32tab), ("math/bits.deBruijn64tab", Rows.laid_math_bits_deBruijn64tab), ("internal/strconv.uint64pow10", Rows.laid_internal_strconv_uint64pow10), ("unicode.White_Space", Rows.laid_unicode_White_Space), ("strings.asciiSpace", Rows.laid_strings_asciiSpace)]
theorem tab_eq : (Rows.laid_internal_strconv_uint64pow10 : DataW Unit) = Lib.tabData .u64 Lib.pow10Tab := by kernel_rfl
theorem table {W : World} (h : laidMetH Tryz.prog L W) : Sp W := by
  have h1 : laidMet Tryz.prog L W := h
  exact Card.table (Go.laidMet.tail (Go.laidMet.tail (Go.laidMet.tail h1)))
theorem powers {W : World} (h : laidMetH Tryz.prog L W) : Lib.TabIs Tryz.prog W "internal/strconv.uint64pow10" .u64 Lib.pow10Tab := by
  have h1 : laidMet Tryz.prog L W := h
  have h2 := Go.laidMet.tail (Go.laidMet.tail h1)
  rw [tab_eq] at h2
  exact Lib.tabIs_of_head (rest := [("unicode.White_Space", Rows.laid_unicode_White_Space), ("strings.asciiSpace", Rows.laid_strings_asciiSpace)]) gT gTType Tryz.underlying198 Tryz.underlying188 cells5 cells20 h2
/-- The numbers of a datum. -/
def nums : DataW Unit → Array Value
  | .agg ds => (ds.map fun d => match d with | .lit (.int k z) => Value.int k z | _ => undef).toArray
  | _ => #[]
/-- A world for the witness. -/
noncomputable def laidWorld (os : Os) : World :=
  let N := (World.settled Tryz.prog os).heap.size
  let w0 := World.holding Tryz.prog os ⟨#[.cells (Lib.whiteT.map fun (z : Nat) => Value.int .u16 (z : Int)).toArray 222, .cells #[.slice (some ⟨N, 0, none⟩) 7 7, .slice none 0 0, .int .i64 2] 219], #[], []⟩
  let put (h : Array Obj) (g : Nat) (cs : Array Value) : Array Obj := h.modify g fun
    | .cells _ t frozen => .cells cs t frozen
    | o => o
  let h1 := put w0.heap 4 (Lib.asciiSpaceTab.map fun z => Value.int .u8 z).toArray
  let h2 := put h1 5 #[.pointer (some ⟨N + 1, 0, none⟩)]
  let h3 := put h2 1 (Lib.pow10Tab.map fun z => Value.int .u64 z).toArray
  let h4 := put h3 2 (nums Rows.laid_math_bits_deBruijn32tab)
  let h5 := put h4 3 (nums Rows.laid_math_bits_deBruijn64tab)
  { w0 with heap := h5 }
theorem laid_met (os : Os) (args : Array Value) : laidMet Tryz.prog L ((laidWorld os).forCall (fun _ _ => 0) ⟨#[], args, []⟩).memory := by
  have : ∀ a, laidMet Tryz.prog L ((laidWorld os).forCall (fun _ _ => 0) ⟨#[], a, []⟩).memory := fun a => laidMet_of_run' 10 (by kernel_rfl) (by kernel_rfl)
  exact this args
end Go.Proofs.YtidholghbjljaaaGreatDoor.Card5
