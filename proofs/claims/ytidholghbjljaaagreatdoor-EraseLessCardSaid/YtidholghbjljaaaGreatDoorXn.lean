
/- The walk of the statement EraseLess. -/
import Derived.Test.YtidholghbjljaaaGreatDoorXm
import Derived.Test.YtidholghbjljaaaGreatDoorWy
import Derived.Test.YtidholghbjljaaaGreatDoorXa
import Derived.Test.YtidholghbjljaaaGreatDoorVg
import Derived.Test.YtidholghbjljaaaGreatDoorVh
import Derived.Test.YtidholghbjljaaaGreatDoorVk
namespace Go.Proofs.YtidholghbjljaaaGreatDoor
set_option linter.unusedSimpArgs false
set_option linter.unusedVariables false
open Go.RowKit Go.Maps Culp Culp.Er
theorem lens_le {L : List Md} (h : Mo.ModsLe 4000 L) : Lens L :=
  ⟨by have := h.1; omega, fun md hm => by have := (h.2 md hm).1; omega, fun md hm => by have := (h.2 md hm).2.1; omega, fun md hm d hd => by have := (h.2 md hm).2.2 d hd; omega⟩
theorem two_same {z1 z2 : Bool} {L L' : List Md} (h1 : z1 = true ↔ lessP L L') (h2 : z2 = true ↔ rlessP L L') : (z1 == z2) = true :=
  beq_iff_eq.2 (Bool.eq_iff_iff.2 (h1.trans ((less_iff L L').trans h2.symm)))
set_option maxRecDepth 100000 in
set_option maxHeartbeats 12800000 in
theorem eraseless_walk (L L' : List Md) (u v : Value) (w : World) (hn : Mods w u L) (hn' : Mods w v L') (hS : Sp w) (hP : Pw w) (hl : L.length ≤ 1000000000000000) (hl' : L'.length ≤ 1000000000000000) (hz : ∀ m ∈ L, MdSz m) (hz' : ∀ m ∈ L', MdSz m) :
    Calls Tryz.prog 5 #[u, v] w (Makes (.bool true) w) := by
  have HN := Lib.hid hn
  have HN' := Lib.hid hn'
  have HS := Lib.hid hS
  have HP := Lib.hid hP
  have HZ := Lib.hid hz
  have HZ' := Lib.hid hz'
  obtain ⟨A, c, rfl⟩ := hn.form
  obtain ⟨A', c', rfl⟩ := hn'.form
  clear hn hn' hS hP hz hz'
  go_enter Tryz.func5, Tryz.ntmps5
  go_wp2_with fail
  refine (eworks_any _ HS.out).mono ?_
  rintro e w1 ⟨rfl, hb1⟩
  have HB1 := Lib.hid hb1
  clear hb1
  go_wp2_with fail
  refine (SizeModules_up L _ _ (HN.out.later HB1.out) hl HZ.out).mono ?_
  rintro e w2 ⟨z, ⟨z0, z1⟩, rfl, hb2, hle⟩
  have HB2 := Lib.hid (below_later hb2 HB1.out)
  have HLE := Lib.hid hle
  clear hb2 HB1 hle
  go_wp2_with fail
  refine (SizeModules_up L' _ _ (HN'.out.later HB2.out) hl' HZ'.out).mono ?_
  rintro e w3 ⟨y, ⟨y0, y1⟩, rfl, hb3, hle⟩
  have HB3 := Lib.hid (below_later hb3 HB2.out)
  have HLE' := Lib.hid hle
  have r1 : IntKind.i64.wrap (z + y) = z + y := IntWalk.i64_in _ (by omega)
  clear hb3 HB2 hle
  by_cases hbig : 4000 < z + y
  · go_wp2_with fail
    go_ret
    exact Makes.mk rfl HB3.out
  have HML := Lib.hid (HLE.out 4000 (by omega) (by omega))
  have HML' := Lib.hid (HLE'.out 4000 (by omega) (by omega))
  have hL2 : L.length ≤ 4000 := HML.out.1
  have hL2' : L'.length ≤ 4000 := HML'.out.1
  have HZ1 : Hid (∀ m ∈ L, m.imps.length ≤ 100000000000 ∧ m.defs.length ≤ 100000000000 ∧ ∀ d ∈ m.defs, d.tree.length ≤ 100000000000) := Lib.hid fun m hm => by
    obtain ⟨a, b, d⟩ := HML.out.2 m hm
    exact ⟨by omega, by omega, fun x hx => by have := d x hx; omega⟩
  have HZ2 : Hid (∀ m ∈ L, m.imps.length ≤ 1000000000000000 ∧ m.defs.length ≤ 1000000000000000 ∧ ∀ d ∈ m.defs, d.tree.length ≤ 100000000000) := Lib.hid fun m hm => by
    obtain ⟨a, b, d⟩ := HML.out.2 m hm
    exact ⟨by omega, by omega, fun x hx => by have := d x hx; omega⟩
  have HZ1' : Hid (∀ m ∈ L', m.imps.length ≤ 100000000000 ∧ m.defs.length ≤ 100000000000 ∧ ∀ d ∈ m.defs, d.tree.length ≤ 100000000000) := Lib.hid fun m hm => by
    obtain ⟨a, b, d⟩ := HML'.out.2 m hm
    exact ⟨by omega, by omega, fun x hx => by have := d x hx; omega⟩
  have HZ2' : Hid (∀ m ∈ L', m.imps.length ≤ 1000000000000000 ∧ m.defs.length ≤ 1000000000000000 ∧ ∀ d ∈ m.defs, d.tree.length ≤ 100000000000) := Lib.hid fun m hm => by
    obtain ⟨a, b, d⟩ := HML'.out.2 m hm
    exact ⟨by omega, by omega, fun x hx => by have := d x hx; omega⟩
  have HLN := Lib.hid (lens_le HML.out)
  have HLN' := Lib.hid (lens_le HML'.out)
  clear HLE HLE' HML HML'
  go_wp2_with fail
  clear hbig r1
  refine (WideModules_any L _ _ (HN.out.later HB3.out) (by omega) HZ1.out (HP.out.later HB3.out HP.out.lt)).mono ?_
  rintro e w4 ⟨g, hg, rfl, hw4, hb4⟩
  have HB4 := Lib.hid (below_later hb4 HB3.out)
  have HW4 := Lib.hid hw4
  clear hw4 hb4 hg HB3
  go_wp2_with fail
  refine (WideModules_any L' _ _ (HN'.out.later HB4.out) (by omega) HZ1'.out (HP.out.later HB4.out HP.out.lt)).mono ?_
  rintro e w5 ⟨g', hg', rfl, hw5, hb5⟩
  have HB5 := Lib.hid (below_later hb5 HB4.out)
  have HX5 := Lib.hid (HW4.out.later hb5)
  have HY5 := Lib.hid hw5
  clear hw5 hb5 hg' HB4 HW4
  go_wp2_with fail
  refine (Less_any L L' _ _ _ HX5.out.mods HY5.out.mods (HS.out.later HB5.out) HLN.out HLN'.out HZ.out HZ'.out).mono ?_
  rintro e w6 ⟨⟨b1, rfl, h1⟩, hb6⟩
  have HB6 := Lib.hid (below_later hb6 HB5.out)
  have HX6 := Lib.hid (HX5.out.later hb6)
  have HY6 := Lib.hid (HY5.out.later hb6)
  have H1 := Lib.hid h1
  clear hb6 h1 HB5 HX5 HY5
  go_wp2_with fail
  refine (rLess_any L L' _ _ _ (HN.out.later HB6.out) (HN'.out.later HB6.out) hl hl' HZ.out HZ'.out).mono ?_
  rintro e w7 ⟨⟨b2, rfl, h2⟩, hb7⟩
  have HB7 := Lib.hid (below_later hb7 HB6.out)
  have HX7 := Lib.hid (HX6.out.later hb7)
  have HY7 := Lib.hid (HY6.out.later hb7)
  have e1 := two_same H1.out h2
  clear hb7 h2 H1 HB6 HX6 HY6
  go_wp2_with fail
  clear e1
  refine (Less_any L' L _ _ _ HY7.out.mods HX7.out.mods (HS.out.later HB7.out) HLN'.out HLN.out HZ'.out HZ.out).mono ?_
  rintro e w8 ⟨⟨b3, rfl, h1⟩, hb8⟩
  have HB8 := Lib.hid (below_later hb8 HB7.out)
  have HX8 := Lib.hid (HX7.out.later hb8)
  have HY8 := Lib.hid (HY7.out.later hb8)
  have H1 := Lib.hid h1
  clear hb8 h1 HB7 HX7 HY7
  go_wp2_with fail
  refine (rLess_any L' L _ _ _ (HN'.out.later HB8.out) (HN.out.later HB8.out) hl' hl HZ'.out HZ.out).mono ?_
  rintro e w9 ⟨⟨b4, rfl, h2⟩, hb9⟩
  have HB9 := Lib.hid (below_later hb9 HB8.out)
  have HX9 := Lib.hid (HX8.out.later hb9)
  have HY9 := Lib.hid (HY8.out.later hb9)
  have e1 := two_same H1.out h2
  clear hb9 h2 H1 HB8 HX8 HY8
  go_wp2_with fail
  clear e1
  refine (Static_any L _ _ HX9.out.mods (HS.out.later HB9.out) hl HZ.out).mono ?_
  rintro e wa ⟨rfl, hba⟩
  have HBA := Lib.hid (below_later hba HB9.out)
  have HXA := Lib.hid (HX9.out.later hba)
  have HYA := Lib.hid (HY9.out.later hba)
  rw [static_eq]
  clear hba HB9 HX9 HY9
  have HRS := Lib.hid (rStaticM_any L (.slice A L.length c) wa (HN.out.later HBA.out) hl HZ.out)
  generalize rstatic L = bs at *
  have e1 : (bs == bs) = true := by simp
  go_wp2_with fail
  refine HRS.out.mono ?_
  rintro e wb ⟨rfl, hbb⟩
  have HBB := Lib.hid (below_later hbb HBA.out)
  have HXB := Lib.hid (HXA.out.later hbb)
  have HYB := Lib.hid (HYA.out.later hbb)
  clear hbb HBA HXA HYA HRS
  go_wp2_with fail
  clear e1
  refine (EqModules_same L _ _ _ HXB.out.mods (HN.out.later HBB.out) hl HZ2.out).mono ?_
  rintro e wc ⟨rfl, hbc⟩
  have HBC := Lib.hid (below_later hbc HBB.out)
  have HXC := Lib.hid (HXB.out.later hbc)
  have HYC := Lib.hid (HYB.out.later hbc)
  clear hbc HBB HXB HYB
  go_wp2_with fail
  refine (SpareModules_any L g _ HXC.out (by omega) HZ1.out (HP.out.later HBC.out HP.out.lt)).mono ?_
  rintro e wd ⟨rfl, hbd⟩
  have HBD := Lib.hid (below_later hbd HBC.out)
  have HYD := Lib.hid (HYC.out.later hbd)
  clear hbd HBC HXC HYC
  go_wp2_with fail
  refine (EqModules_same L' _ _ _ HYD.out.mods (HN'.out.later HBD.out) hl' HZ2'.out).mono ?_
  rintro e we ⟨rfl, hbe⟩
  have HBE := Lib.hid (below_later hbe HBD.out)
  have HYE := Lib.hid (HYD.out.later hbe)
  clear hbe HBD HYD
  go_wp2_with fail
  refine (SpareModules_any L' g' _ HYE.out (by omega) HZ1'.out (HP.out.later HBE.out HP.out.lt)).mono ?_
  rintro e wf ⟨rfl, hbf⟩
  have HBF := Lib.hid (below_later hbf HBE.out)
  clear hbf
  go_wp2_with fail
  go_ret
  exact Makes.mk rfl HBF.out
end Go.Proofs.YtidholghbjljaaaGreatDoor
