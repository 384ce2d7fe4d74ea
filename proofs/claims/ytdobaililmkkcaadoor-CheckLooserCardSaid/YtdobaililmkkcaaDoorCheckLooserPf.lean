
/- The law CheckLooser of culpritlaw08 holds: for any tree with any names and types, any list of nodes and any texts the call returns true; the condition: the listed tables are as the program's text lays them (the card ties them to it). -/
import Derived.Test.YtdobaililmkkcaaDoorCkCard
import Derived.Test.YtdobaililmkkcaaDoorLj
import Derived.Test.YtdobaililmkkcaaDoorOpenC
namespace Go.Proofs.YtdobaililmkkcaaDoor.CheckLooserPf
set_option linter.unusedSimpArgs false
set_option linter.unusedVariables false
open Go.ChangeShapes Go.WideShapes Go.ChangeAt Go.RowKit Culp Card

set_option maxRecDepth 100000 in
open Go.Deep in
theorem open_texts {H : Type} {enc : TypeId × Value → H} {w : World} {base : Nat} {spare : Nat → Bool} {held : Bool} {r : Reach} {b0 : Nat} {v : Value} {d : DataW H} {p : List MemPlace} (hv : Value.okWide Tryd.prog w r b0 22 v) (h : DataW.Trod enc Tryd.prog w base spare held 22 v d p) : ∃ L : List ByteArray, Txts w v L := by
  obtain ⟨A, len, cap, rfl⟩ := okWide_slice Tryd.underlying22 hv
  obtain ⟨n, hn⟩ := h
  obtain ⟨L, h1, _⟩ := open_texts1 (y := (d, p)) hn
  exact ⟨L, h1⟩
set_option maxRecDepth 100000 in
theorem contract (H : Type) (enc : TypeId × Value → H) (W : World) (base : Nat) (args : Array Value) (ds gs : List (DataW H)) (before : List MemPlace)
    (hval : ∀ (j : Nat) t v, Tryd.f4.params[j]? = some t → args[j]? = some v → Value.okWide Tryd.prog W .any base t v)
    (hW : DataW.Whole enc Tryd.prog Tryd.f4.params.toList Rows.checkLooserSpec.vars false W args.toList ds gs before) (hL : laidMetH Tryd.prog Rows.checkLooserRow.laid W)
    (hsz : (DataW.weightsEach Tryd.prog (Tryd.f4.params.toList ++ (OpenSpec.ofChange Rows.checkLooserSpec).bare.plain.varTypes Tryd.prog) (ds ++ gs)).all (· ≤ reachBytes) = true) :
    Calls Tryd.prog 4 args W fun e W' => ∃ v, e = .returned v ∧ Rows.checkLooserSpec.post enc Tryd.prog Tryd.f4 false true false false W args v W' := by
  have hW' := hW
  obtain ⟨p, q, hA0, hV, rfl, hfz, hnd⟩ := hW
  have hA : DataW.TrodAll enc Tryd.prog W 0 (fun _ => true) true Tryd.f4.params.toList args.toList ds p := hA0
  rw [Tryd.params4] at hA hval
  obtain ⟨v0, vs0, d0, ds0, p0, q0, hargs, rfl, rfl, h0, r0⟩ := trodAll_cons hA
  obtain ⟨v1, vs1, d1, ds1, p1, q1, hargs1, rfl, rfl, h1, r1⟩ := trodAll_cons r0
  obtain ⟨v2, vs2, d2, ds2, p2, q2, hargs2, rfl, rfl, h2, r2⟩ := trodAll_cons r1
  obtain ⟨rfl, rfl, rfl⟩ := trodAll_nil r2
  obtain rfl : args = #[v0, v1, v2] := by cases args; simp_all
  obtain ⟨rfl, rfl⟩ := trodVars_none hV
  obtain ⟨T, N, S, tv, nv, sv, dT, dN, dS, rfl, rfl, hn, hN, hS, hd, hdN, _, hkd⟩ := open_case (hval 0 35 v0 rfl rfl) h0
  obtain ⟨U, hu, _, hdu, _, hku⟩ := open_nodes (hval 1 26 v1 rfl rfl) h1
  obtain ⟨S', hS'⟩ := open_texts (hval 2 22 v2 rfl rfl) h2
  have hzU : ∀ x ∈ U, x.s.size ≤ 140737488351232 := by
    rcases hdu with ⟨_, rfl⟩ | ⟨more, rfl⟩
    · simp
    · exact fun x hx => ((sized_nodes2 (j := 1) hsz rfl rfl).2 x hx).1
  have hsc := sized_case (j := 0) hsz rfl rfl
  have hzT : ∀ x ∈ T, x.s.size ≤ 140737488351232 := by
    rcases hd with ⟨_, rfl⟩ | ⟨more, rfl⟩
    · simp
    · exact fun x hx => ((sized_nodes2 (j := 0) hsc rfl rfl).2 x hx).1
  have hzN : ∀ s ∈ N, s.size ≤ 140737488351232 := by
    rcases hdN with ⟨_, rfl⟩ | ⟨more, rfl⟩
    · simp
    · exact (sized_texts (j := 1) hsc rfl rfl).2
  refine (looser_law T U N S S' tv v1 nv sv v2 W hn hu hN hS hS' (table hL) (rows hL) hzN hzT hkd hzU hku).mono fun e W' ⟨he, hb⟩ => ?_
  exact ⟨_, he, law_post Card.laidOut (by kernel_rfl) Tryd.underlying4 rfl rfl hW' rfl rfl rfl hb⟩
theorem reads (os : Os) {H : Type} (enc : TypeId × Value → H) : ∃ places, DataW.whole enc Tryd.prog ((laidWorld os).forCall (fun _ _ => 0) ⟨#[], #[.agg #[.slice none 0 0, .slice none 0 0, .slice none 0 0], .slice none 0 0, .slice none 0 0], []⟩).memory Tryd.f4.params.toList Rows.checkLooserSpec.vars false #[Value.agg #[.slice none 0 0, .slice none 0 0, .slice none 0 0], Value.slice none 0 0, Value.slice none 0 0].toList 8 = some ([.agg [.nil, .nil, .nil], .nil, .nil], [], places) :=
  ⟨[], by kernel_rfl⟩
set_option maxRecDepth 100000 in
theorem lifted (os : Os) (started : os.Started) (H : Type) (enc : TypeId × Value → H) (F : Stop.Interp) :
    ReturnsInHanded {} Tryd.checked os 4 .any ((OpenSpec.ofChange Rows.checkLooserSpec).preRow enc Tryd.prog Tryd.f4 Rows.checkLooserRow.domain false Rows.checkLooserRow.laid) (((OpenSpec.ofChange Rows.checkLooserSpec).at F).post enc Tryd.prog Tryd.f4 false true false false) := by
  obtain ⟨places, hx⟩ := reads os enc
  refine returnsInHanded_of_row (C := Tryd.checked) (s := OpenSpec.ofChange Rows.checkLooserSpec) Card.own started (by kernel_rfl) Tryd.func4
    (witness_row_atRef (enc := enc) (C := Tryd.checked) false (laidWorld os) #[.agg #[.slice none 0 0, .slice none 0 0, .slice none 0 0], .slice none 0 0, .slice none 0 0] rfl (by kernel_rfl) (by kernel_rfl) (by kernel_rfl)
      (OpenSpec.preRow_of_cond 8 hx (by kernel_rfl) (fun k hk => by cases hk) (by kernel_rfl) (laid_met os _))) ?_
  intro W base args ds gs before hval hW _ _ hsz hL _ _
  exact contract H enc W base args ds gs before hval hW hL hsz
theorem said : Rows.CheckLooserSaid :=
  OpenClaim.holds_of_cond 4 Tryd.f4 rfl rfl rfl rfl rfl rfl rfl ⟨rfl, rfl, rfl, rfl, rfl⟩ rfl rfl rfl rfl rfl (by kernel_rfl) Tryd.func4 (by kernel_rfl)
    (of_decide_eq_true (by kernel_rfl)) (by unfold Func.isWrapper; first | (rw [if_pos (by decide +kernel)]; kernel_rfl) | (rw [if_neg (by decide +kernel)]; exact ⟨rfl, rfl⟩))
    (fun os started H enc _ F => by rw [OpenClaim.pre_eq_preRow]; exact lifted os started H enc F)
theorem plain (f : FuncId) (fn : Func) (hf : Tryd.pinned.checked.prog.funcNamed "culprit/culpritlaw08.CheckLooser" = some f) (hfn : Tryd.pinned.checked.prog.funcs[f]? = some fn) :
    false = Tryd.pinned.checked.prog.looks [] ∧ ∀ (j : Nat) t, fn.params[j]? = some t → Tryd.pinned.checked.prog.wantsStandIn t = false := by
  obtain rfl : f = 4 := Option.some.inj ((show Tryd.prog.funcNamed "culprit/culpritlaw08.CheckLooser" = some 4 by kernel_rfl).symm.trans hf) |>.symm
  obtain rfl : fn = Tryd.f4 := (Option.some.inj (Tryd.func4.symm.trans hfn)).symm
  refine ⟨by kernel_rfl, fun j t ht => ?_⟩
  rw [Tryd.params4] at ht
  have hm : t ∈ (#[35, 26, 22] : Array TypeId) := Array.mem_of_getElem? ht
  have hall : ∀ t ∈ (#[35, 26, 22] : Array TypeId), Tryd.prog.wantsStandIn t = false := by
    intro t ht
    simp at ht
    rcases ht with rfl | rfl | rfl <;> kernel_rfl
  exact hall t hm
theorem proved : Rows.CheckLooserCardSaid :=
  Claim7.holds_tied_plain_at .later [] _ _ _ _ said (fun _ h => by cases h) (by kernel_rfl) (fun _ h => by cases h) checkLooser_row_tie rfl ⟨rfl, rfl⟩ (by kernel_rfl) rfl plain (by kernel_rfl)
#print axioms proved
end Go.Proofs.YtdobaililmkkcaaDoor.CheckLooserPf
