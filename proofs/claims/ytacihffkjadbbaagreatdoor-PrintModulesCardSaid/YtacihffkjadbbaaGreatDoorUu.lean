
/- The walk of the statement PrintModules. -/
import Derived.Test.YtacihffkjadbbaaGreatDoorUt
import Derived.Test.YtacihffkjadbbaaGreatDoorVf
import Derived.Test.YtacihffkjadbbaaGreatDoorVg
import Derived.Test.YtacihffkjadbbaaGreatDoorVh
import Derived.Test.YtacihffkjadbbaaGreatDoorVk
namespace Go.Proofs.YtacihffkjadbbaaGreatDoor
set_option linter.unusedSimpArgs false
set_option linter.unusedVariables false
open Go.RowKit Go.Maps Culp

set_option maxRecDepth 100000 in
set_option maxHeartbeats 6400000 in
theorem printmodules_walk (L : List Md) (v : Value) (w : World) (hn : Mods w v L) (hS : Sp w) (hP : Pw w) (hl : L.length ≤ 1000000000000000) (hz : ∀ m ∈ L, MdSz m) :
    Calls Tryz.prog 5 #[v] w (Makes (.bool true) w) := by
  obtain ⟨a, en, hp, hr⟩ := mods_same L hl hz
  have HEP := Lib.hid hp
  have HER := Lib.hid hr
  have HN := Lib.hid hn
  have HS := Lib.hid hS
  have HP := Lib.hid hP
  have HZ := Lib.hid hz
  obtain ⟨A, c, rfl⟩ := hn.form
  clear hn hS hP hz hp hr
  go_enter Tryz.func5, Tryz.ntmps5
  go_wp2_with fail
  refine (pworks_any _ HS.out HP.out).mono ?_
  rintro e w1 ⟨rfl, hb1⟩
  have HB1 := Lib.hid hb1
  clear hb1
  go_wp2_with fail
  refine (SizeModules_any L _ _ (HN.out.later HB1.out) hl HZ.out).mono ?_
  rintro e w2 ⟨z, rfl, hb2, hle⟩
  have HB2 := Lib.hid (below_later hb2 HB1.out)
  clear hb2 HB1
  by_cases hbig : 5000 < z
  · go_wp2_with fail
    go_ret
    exact Makes.mk rfl HB2.out
  have HLE := Lib.hid (hle 5000 (by omega) (by omega))
  clear hle
  have hL2 : L.length ≤ 5000 := HLE.out.1
  have HZ1 : Hid (∀ m ∈ L, m.imps.length ≤ 100000000000 ∧ m.defs.length ≤ 100000000000 ∧ ∀ d ∈ m.defs, d.tree.length ≤ 100000000000) := Lib.hid fun m hm => by
    obtain ⟨a, b, d⟩ := HLE.out.2 m hm
    exact ⟨by omega, by omega, fun x hx => by have := d x hx; omega⟩
  have HZ2 : Hid (∀ m ∈ L, m.imps.length ≤ 1000000000000000 ∧ m.defs.length ≤ 1000000000000000 ∧ ∀ d ∈ m.defs, d.tree.length ≤ 100000000000) := Lib.hid fun m hm => by
    obtain ⟨a, b, d⟩ := HLE.out.2 m hm
    exact ⟨by omega, by omega, fun x hx => by have := d x hx; omega⟩
  clear HLE
  go_wp2_with fail
  refine (WideModules_any L _ _ (HN.out.later HB2.out) (by omega) HZ1.out (HP.out.later HB2.out HP.out.lt)).mono ?_
  rintro e w3 ⟨g, hg, rfl, hw3, hb3⟩
  have HB3 := Lib.hid (below_later hb3 HB2.out)
  have HW3 := Lib.hid hw3
  clear hw3 hb3 hg HB2
  go_wp2_with fail
  refine (HEP.out _ _ HW3.out.mods (HS.out.later HB3.out) (HP.out.later HB3.out HP.out.lt)).mono ?_
  rintro e w4 ⟨rfl, hb4⟩
  have HB4 := Lib.hid (below_later hb4 HB3.out)
  have HW4 := Lib.hid (HW3.out.later hb4)
  clear hb4 HB3 HW3
  go_wp2_with fail
  refine (HER.out _ _ (HN.out.later HB4.out)).mono ?_
  rintro e w5 ⟨rfl, hb5⟩
  have HB5 := Lib.hid (below_later hb5 HB4.out)
  have HW5 := Lib.hid (HW4.out.later hb5)
  clear hb5 HB4 HW4
  go_wp2_with fail
  refine (EqModules_same L _ _ _ HW5.out.mods (HN.out.later HB5.out) hl HZ2.out).mono ?_
  rintro e w6 ⟨rfl, hb6⟩
  have HB6 := Lib.hid (below_later hb6 HB5.out)
  have HW6 := Lib.hid (HW5.out.later hb6)
  clear hb6 HB5 HW5
  go_wp2_with fail
  refine (SpareModules_any L g _ HW6.out (by omega) HZ1.out (HP.out.later HB6.out HP.out.lt)).mono ?_
  rintro e w7 ⟨rfl, hb7⟩
  have HB7 := Lib.hid (below_later hb7 HB6.out)
  clear hb7
  go_wp2_with fail
  go_ret
  exact Makes.mk rfl HB7.out
end Go.Proofs.YtacihffkjadbbaaGreatDoor
