
/- What the cards with six tables share: a world that holds the listed tables, and what the list gives. -/
import Derived.Test.YtdobaililmkkcaaGreatDoorCkCard
import Derived.Test.YtdobaililmkkcaaGreatDoorMn
import Derived.Lib.ItoaNum
import Derived.Test.YtdobaililmkkcaaGreatDoorOpenC
namespace Go.Proofs.YtdobaililmkkcaaGreatDoor.Card6
set_option linter.unusedSimpArgs false
set_option linter.unusedVariables false
open Go.ChangeShapes Go.WideShapes Go.ChangeAt Go.RowKit Culp

theorem gT : Tryz.prog.globalNamed "internal/strconv.uint64pow10" = some 4 := by kernel_rfl
theorem gTType : (Tryz.prog.globals[4]?).map (·.type) = some 192 := by kernel_rfl
theorem cells5 : Tryz.prog.cellsOf 179 = 1 := by kernel_rfl
theorem cells20 : Tryz.prog.cellsOf 192 = 20 := by kernel_rfl
/-- What the rows list. -/
abbrev L : List (String × DataW Unit) := [("math/bits.deBruijn32tab", Rows.laid_math_bits_deBruijn32tab), ("math/bits.deBruijn64tab", Rows.laid_math_bits_deBruijn64tab), ("internal/strconv.uint64pow10", Rows.laid_internal_strconv_uint64pow10), ("unicode.White_Space", Rows.laid_unicode_White_Space), ("strings.asciiSpace", Rows.laid_strings_asciiSpace), ("culprit/check.rows", Rows.laid_culprit_check_rows)]
theorem tab_eq : (Rows.laid_internal_strconv_uint64pow10 : DataW Unit) = Lib.tabData .u64 Lib.pow10Tab := by kernel_rfl
theorem table {W : World} (h : laidMetH Tryz.prog L W) : Sp W := by
  have h1 : laidMet Tryz.prog L W := h
  exact Card.table (Go.laidMet.tail (Go.laidMet.tail (Go.laidMet.tail h1)))
theorem rows {W : World} (h : laidMetH Tryz.prog L W) : Tab W := by
  have h1 : laidMet Tryz.prog L W := h
  exact Card.rows (Go.laidMet.tail (Go.laidMet.tail (Go.laidMet.tail h1)))
theorem powers {W : World} (h : laidMetH Tryz.prog L W) : Lib.TabIs Tryz.prog W "internal/strconv.uint64pow10" .u64 Lib.pow10Tab := by
  have h1 : laidMet Tryz.prog L W := h
  have h2 := Go.laidMet.tail (Go.laidMet.tail h1)
  rw [tab_eq] at h2
  exact Lib.tabIs_of_head (rest := [("unicode.White_Space", Rows.laid_unicode_White_Space), ("strings.asciiSpace", Rows.laid_strings_asciiSpace), ("culprit/check.rows", Rows.laid_culprit_check_rows)]) gT gTType Tryz.underlying192 Tryz.underlying179 cells5 cells20 h2
/-- The numbers of a datum. -/
def nums : DataW Unit → Array Value
  | .agg ds => (ds.map fun d => match d with | .lit (.int k z) => Value.int k z | _ => undef).toArray
  | _ => #[]
/-- A world for the witness. -/
noncomputable def laidWorld (os : Os) : World :=
  let N := (World.settled Tryz.prog os).heap.size
  let w0 := World.holding Tryz.prog os ⟨#[.cells (Lib.whiteT.map fun (z : Nat) => Value.int .u16 (z : Int)).toArray 202, .cells #[.slice (some ⟨N, 0, none⟩) 7 7, .slice none 0 0, .int .i64 2] 199], #[], []⟩
  let put (h : Array Obj) (g : Nat) (cs : Array Value) : Array Obj := h.modify g fun
    | .cells _ t frozen => .cells cs t frozen
    | o => o
  let h1 := put w0.heap 2 (Lib.asciiSpaceTab.map fun z => Value.int .u8 z).toArray
  let h2 := put h1 3 #[.pointer (some ⟨N + 1, 0, none⟩)]
  let h3 := put h2 4 (Lib.pow10Tab.map fun z => Value.int .u64 z).toArray
  let h4 := put h3 5 (nums Rows.laid_math_bits_deBruijn32tab)
  let h5 := put h4 6 (nums Rows.laid_math_bits_deBruijn64tab)
  let h6 := put h5 0 rowsL.toArray
  { w0 with heap := h6 }
theorem laid_met (os : Os) (args : Array Value) : laidMet Tryz.prog L ((laidWorld os).forCall (fun _ _ => 0) ⟨#[], args, []⟩).memory := by
  have : ∀ a, laidMet Tryz.prog L ((laidWorld os).forCall (fun _ _ => 0) ⟨#[], a, []⟩).memory := fun a => laidMet_of_run' 10 (by kernel_rfl) (by kernel_rfl)
  exact this args
end Go.Proofs.YtdobaililmkkcaaGreatDoor.Card6

/- The law CheckExprs of culpritlaw08 holds: for any tree with any names and types the call returns true; the condition: the listed tables are as the program's text lays them (the card ties them to it). -/
namespace Go.Proofs.YtdobaililmkkcaaGreatDoor.CheckExprsPf
open Go.ChangeShapes Go.WideShapes Go.ChangeAt Go.RowKit Culp Card6

set_option maxRecDepth 100000 in
theorem contract (H : Type) (enc : TypeId × Value → H) (W : World) (base : Nat) (args : Array Value) (ds gs : List (DataW H)) (before : List MemPlace)
    (hval : ∀ (j : Nat) t v, Tryz.f4.params[j]? = some t → args[j]? = some v → Value.okWide Tryz.prog W .any base t v)
    (hW : DataW.Whole enc Tryz.prog Tryz.f4.params.toList Rows.checkExprsSpec.vars false W args.toList ds gs before) (hL : laidMetH Tryz.prog Rows.checkExprsRow.laid W)
    (hsz : (DataW.weightsEach Tryz.prog (Tryz.f4.params.toList ++ (OpenSpec.ofChange Rows.checkExprsSpec).bare.plain.varTypes Tryz.prog) (ds ++ gs)).all (· ≤ reachBytes) = true) :
    Calls Tryz.prog 4 args W fun e W' => ∃ v, e = .returned v ∧ Rows.checkExprsSpec.post enc Tryz.prog Tryz.f4 false true false false W args v W' := by
  have hW' := hW
  obtain ⟨p, q, hA0, hV, rfl, hfz, hnd⟩ := hW
  have hA : DataW.TrodAll enc Tryz.prog W 0 (fun _ => true) true Tryz.f4.params.toList args.toList ds p := hA0
  rw [Tryz.params4] at hA hval
  obtain ⟨v0, vs0, d0, ds0, p0, q0, hargs, rfl, rfl, h0, r0⟩ := trodAll_cons hA
  obtain ⟨rfl, rfl, rfl⟩ := trodAll_nil r0
  obtain rfl : args = #[v0] := by cases args; simp_all
  obtain ⟨rfl, rfl⟩ := trodVars_none hV
  obtain ⟨T, N, S, tv, nv, sv, dT, dN, dS, rfl, rfl, hn, hN, hS, hd, hdN, _, hkd⟩ := open_case (hval 0 25 v0 rfl rfl) h0
  have hsc := sized_case (j := 0) hsz rfl rfl
  have hzT : ∀ x ∈ T, x.s.size ≤ 140737488351232 := by
    rcases hd with ⟨_, rfl⟩ | ⟨more, rfl⟩
    · simp
    · exact fun x hx => ((sized_nodes2 (j := 0) hsc rfl rfl).2 x hx).1
  have hzN : ∀ s ∈ N, s.size ≤ 140737488351232 := by
    rcases hdN with ⟨_, rfl⟩ | ⟨more, rfl⟩
    · simp
    · exact (sized_texts (j := 1) hsc rfl rfl).2
  refine (exprs_law T N S tv nv sv W hn hN hS (table hL) (rows hL) (powers hL) hzN hzT hkd).mono fun e W' ⟨he, hb⟩ => ?_
  exact ⟨_, he, law_post Card.laidOut (by kernel_rfl) Tryz.underlying4 rfl rfl hW' rfl rfl rfl hb⟩
theorem reads (os : Os) {H : Type} (enc : TypeId × Value → H) : ∃ places, DataW.whole enc Tryz.prog ((laidWorld os).forCall (fun _ _ => 0) ⟨#[], #[.agg #[.slice none 0 0, .slice none 0 0, .slice none 0 0]], []⟩).memory Tryz.f4.params.toList Rows.checkExprsSpec.vars false #[Value.agg #[.slice none 0 0, .slice none 0 0, .slice none 0 0]].toList 8 = some ([.agg [.nil, .nil, .nil]], [], places) :=
  ⟨[], by kernel_rfl⟩
set_option maxRecDepth 100000 in
theorem lifted (os : Os) (started : os.Started) (H : Type) (enc : TypeId × Value → H) (F : Stop.Interp) :
    ReturnsInHanded {} Tryz.checked os 4 .any ((OpenSpec.ofChange Rows.checkExprsSpec).preRow enc Tryz.prog Tryz.f4 Rows.checkExprsRow.domain false Rows.checkExprsRow.laid) (((OpenSpec.ofChange Rows.checkExprsSpec).at F).post enc Tryz.prog Tryz.f4 false true false false) := by
  obtain ⟨places, hx⟩ := reads os enc
  refine returnsInHanded_of_row (C := Tryz.checked) (s := OpenSpec.ofChange Rows.checkExprsSpec) Card.own started (by kernel_rfl) Tryz.func4
    (witness_row_atRef (enc := enc) (C := Tryz.checked) false (laidWorld os) #[.agg #[.slice none 0 0, .slice none 0 0, .slice none 0 0]] rfl (by kernel_rfl) (by kernel_rfl) (by kernel_rfl)
      (OpenSpec.preRow_of_cond 8 hx (by kernel_rfl) (fun k hk => by cases hk) (by kernel_rfl) (laid_met os _))) ?_
  intro W base args ds gs before hval hW _ _ hsz hL _ _
  exact contract H enc W base args ds gs before hval hW hL hsz
theorem said : Rows.CheckExprsSaid :=
  OpenClaim.holds_of_cond 4 Tryz.f4 rfl rfl rfl rfl rfl rfl rfl ⟨rfl, rfl, rfl, rfl, rfl⟩ rfl rfl rfl rfl rfl (by kernel_rfl) Tryz.func4 (by kernel_rfl)
    (of_decide_eq_true (by kernel_rfl)) (by unfold Func.isWrapper; first | (rw [if_pos (by decide +kernel)]; kernel_rfl) | (rw [if_neg (by decide +kernel)]; exact ⟨rfl, rfl⟩))
    (fun os started H enc _ F => by rw [OpenClaim.pre_eq_preRow]; exact lifted os started H enc F)
theorem plain (f : FuncId) (fn : Func) (hf : Tryz.pinned.checked.prog.funcNamed "culprit/culpritlaw08.CheckExprs" = some f) (hfn : Tryz.pinned.checked.prog.funcs[f]? = some fn) :
    false = Tryz.pinned.checked.prog.looks [] ∧ ∀ (j : Nat) t, fn.params[j]? = some t → Tryz.pinned.checked.prog.wantsStandIn t = false := by
  obtain rfl : f = 4 := Option.some.inj ((show Tryz.prog.funcNamed "culprit/culpritlaw08.CheckExprs" = some 4 by kernel_rfl).symm.trans hf) |>.symm
  obtain rfl : fn = Tryz.f4 := (Option.some.inj (Tryz.func4.symm.trans hfn)).symm
  refine ⟨by kernel_rfl, fun j t ht => ?_⟩
  rw [Tryz.params4] at ht
  have hm : t ∈ (#[25] : Array TypeId) := Array.mem_of_getElem? ht
  have hall : ∀ t ∈ (#[25] : Array TypeId), Tryz.prog.wantsStandIn t = false := by
    intro t ht
    simp at ht
    subst ht; kernel_rfl
  exact hall t hm
theorem proved : Rows.CheckExprsCardSaid :=
  Claim7.holds_tied_plain_at .later [] _ _ _ _ said (fun _ h => by cases h) (by kernel_rfl) (fun _ h => by cases h) checkExprs_row_tie rfl ⟨rfl, rfl⟩ (by kernel_rfl) rfl plain (by kernel_rfl)
#print axioms proved
end Go.Proofs.YtdobaililmkkcaaGreatDoor.CheckExprsPf
