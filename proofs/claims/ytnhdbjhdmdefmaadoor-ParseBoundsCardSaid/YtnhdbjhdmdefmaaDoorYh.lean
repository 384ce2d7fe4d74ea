
/- Walks of the statements on parsing: known sources are read. -/
import Derived.Test.YtnhdbjhdmdefmaaDoorYg
import Derived.Test.YtnhdbjhdmdefmaaDoorTyD
namespace Culp.Gr
set_option linter.unusedSimpArgs false
set_option linter.unusedVariables false
open Culp Culp.Tr
def wk1 : List UInt8 := [49, 32, 45, 32, 50, 32, 45, 32, 120]
def wk2 : List UInt8 := [105, 110, 116, 32, 45, 62, 32, 91, 63, 93]
def wk3 : List UInt8 := [109, 111, 100, 117, 108, 101, 32, 109, 32, 123, 32, 108, 101, 116, 32, 120, 32, 61, 32, 49, 59, 32, 125]
def wk4 : List UInt8 := [102, 32, 49]
def wf1 : F := mk 11 (1, 7) (cat (mk 11 (1, 3) (cat (mk 1 (1, 1) .nil 1 [] [] []) (mk 1 (1, 5) .nil 2 [] [] [])) 0 [] [] []) (mk 4 (1, 9) .nil 0 [120] [] [])) 0 [] [] []
def wm3 : List Md := [⟨by_ [109], [], [⟨by_ [120], false, by_ [], (mk 1 (1, 20) .nil 1 [] [] []).flat, 1, 16⟩], 1, 8⟩]
theorem work1 : exprOf wk1 = .ok wf1 := by kernel_rfl
theorem work2 : readAll (fun L => whole L 0 []) wk2 = .ok [62, 105, 108, 63] := by kernel_rfl
theorem work3 : modsOf wk3 = .ok wm3 := by kernel_rfl
theorem work4 : exprOf wk4 = .error (15, (1, 3)) := by kernel_rfl
open Go in
theorem nodes_get {w : World} {A : Option Addr} {n c i : Nat} {T : List Nd} {x : Nd} (h : Nodes w (.slice A n c) T) (hx : T[i]? = some x) : ∃ b off, A = some ⟨b, off, none⟩ ∧ NodesAt w b off T := by
  obtain ⟨A', c', h1, h2, h3⟩ := h
  simp only [Value.slice.injEq] at h1
  obtain ⟨rfl, -, rfl⟩ := h1
  have := (List.getElem?_eq_some_iff.1 hx).1
  exact h3 (by omega)
end Culp.Gr
namespace Go.Proofs.YtnhdbjhdmdefmaaDoor
set_option linter.unusedSimpArgs false
set_option linter.unusedVariables false
open Go.RowKit Culp Culp.Tr Culp.Gr
theorem hconst (w : World) (C : Array Value) (n c : Nat) : (convert 31 31 (.slice (some ⟨w.heap.size, 0, none⟩) n c)).run Tryd.prog (w.alloc (.cells C 5)) = .ok (.slice (some ⟨w.heap.size, 0, none⟩) n c) (w.alloc (.cells C 5 (C.size, C.size + 1))) := Lib.run_convert_bytes_const w 31 5 C n c Tryd.underlying31 Tryd.underlying5
set_option maxRecDepth 100000 in
set_option maxHeartbeats 3200000 in
theorem pworks6_any (w : World) (hS : Sp w) : Calls Tryd.prog 9 #[] w (Makes (.bool true) w) := by
  have HS := Lib.hid hS
  clear hS
  go_enter Tryd.func9, Tryd.ntmps9
  have hcv := hconst w #[.int .u8 49, .int .u8 32, .int .u8 45, .int .u8 32, .int .u8 50, .int .u8 32, .int .u8 45, .int .u8 32, .int .u8 120] 9 9
  try rw [World.size_alloc] at hcv
  go_wp2_with fail
  clear hcv
  have hbv := lit_bytes w wk1 (by decide) (9, 9 + 1)
  try rw [World.size_alloc] at hbv
  have hb0 : Below w.heap.size w (w.alloc (.cells (wk1.map byteV).toArray 5 (9, 9 + 1))) := (Below.refl _ _).alloc (Nat.le_refl _) _
  have hcl := Lib.hid (readExpr_any (bs wk1) _ (w.alloc (.cells (wk1.map byteV).toArray 5 (9, 9 + 1))) hbv (by decide) (HS.out.later hb0))
  refine hcl.out.mono ?_
  clear hcl hbv
  rintro E w1 ⟨hb1, hr⟩
  rw [bs_list, work1] at hr
  obtain ⟨v, rfl, hown⟩ := hr
  rw [show wf1.flat.length = 5 from rfl] at hown
  obtain ⟨A1, c1, rfl⟩ := own_shape hown
  have hba : Below w1.heap.size w1 (w1.alloc (.cells #[.int .i64 0, .int .i64 0] 25)) := (Below.refl _ _).alloc (Nat.le_refl _) _
  have HO1 := Lib.hid (own_later hown hba)
  have HP1 := Lib.hid (pl2_alloc w1 0 0)
  have HB1 := Lib.hid (below_later hba (below_later hb1 hb0))
  clear hb1 hb0 hown hba
  have hcv := hconst (w1.alloc (.cells #[.int .i64 0, .int .i64 0] 25)) #[.int .u8 105, .int .u8 110, .int .u8 116, .int .u8 32, .int .u8 45, .int .u8 62, .int .u8 32, .int .u8 91, .int .u8 63, .int .u8 93] 10 10
  try rw [World.size_alloc] at hcv
  go_wp2_with fail
  clear hcv
  have hbv := lit_bytes (w1.alloc (.cells #[.int .i64 0, .int .i64 0] 25)) wk2 (by decide) (10, 10 + 1)
  try rw [World.size_alloc] at hbv
  have hb0 : Below (w1.alloc (.cells #[.int .i64 0, .int .i64 0] 25)).heap.size (w1.alloc (.cells #[.int .i64 0, .int .i64 0] 25)) ((w1.alloc (.cells #[.int .i64 0, .int .i64 0] 25)).alloc (.cells (wk2.map byteV).toArray 5 (10, 10 + 1))) := (Below.refl _ _).alloc (Nat.le_refl _) _
  have hcl := Lib.hid (type_any (bs wk2) _ ((w1.alloc (.cells #[.int .i64 0, .int .i64 0] 25)).alloc (.cells (wk2.map byteV).toArray 5 (10, 10 + 1))) hbv (by decide) (HS.out.later (below_later hb0 HB1.out)) (fun _ => Tx.toks_pos) (fun _ => Tx.toks_fine))
  refine hcl.out.mono ?_
  clear hcl hbv
  rintro E w2 ⟨hb2, hr⟩
  rw [bs_list, work2] at hr
  obtain rfl := hr
  rw [show by_ [62, 105, 108, 63] = { data := #[62, 105, 108, 63] } from rfl]
  have hba : Below w2.heap.size w2 (w2.alloc (.cells #[.int .i64 0, .int .i64 0] 25)) := (Below.refl _ _).alloc (Nat.le_refl _) _
  have hbb := below_later hba (below_later hb2 hb0)
  have HO2 := Lib.hid (own_later HO1.out hbb)
  have HP2 := Lib.hid (HP1.out.later hbb)
  have HB2 := Lib.hid (below_later hbb HB1.out)
  clear hb2 hb0 hba hbb HO1 HP1 HB1
  have hcv := hconst (w2.alloc (.cells #[.int .i64 0, .int .i64 0] 25)) #[.int .u8 109, .int .u8 111, .int .u8 100, .int .u8 117, .int .u8 108, .int .u8 101, .int .u8 32, .int .u8 109, .int .u8 32, .int .u8 123, .int .u8 32, .int .u8 108, .int .u8 101, .int .u8 116, .int .u8 32, .int .u8 120, .int .u8 32, .int .u8 61, .int .u8 32, .int .u8 49, .int .u8 59, .int .u8 32, .int .u8 125] 23 23
  try rw [World.size_alloc] at hcv
  go_wp2_with fail
  clear hcv
  have hbv := lit_bytes (w2.alloc (.cells #[.int .i64 0, .int .i64 0] 25)) wk3 (by decide) (23, 23 + 1)
  try rw [World.size_alloc] at hbv
  have hb0 : Below (w2.alloc (.cells #[.int .i64 0, .int .i64 0] 25)).heap.size (w2.alloc (.cells #[.int .i64 0, .int .i64 0] 25)) ((w2.alloc (.cells #[.int .i64 0, .int .i64 0] 25)).alloc (.cells (wk3.map byteV).toArray 5 (23, 23 + 1))) := (Below.refl _ _).alloc (Nat.le_refl _) _
  have hcl := Lib.hid (readMods_any (bs wk3) _ ((w2.alloc (.cells #[.int .i64 0, .int .i64 0] 25)).alloc (.cells (wk3.map byteV).toArray 5 (23, 23 + 1))) hbv (by decide) (HS.out.later (below_later hb0 HB2.out)))
  refine hcl.out.mono ?_
  clear hcl hbv
  rintro E w3 ⟨hb3, hr⟩
  rw [bs_list, work3] at hr
  obtain ⟨v3, ps3, rfl, hmd⟩ := hr
  have hmods := hmd.mods
  have hrow := hmd.row
  rw [show wm3.length = 1 from rfl] at hrow
  obtain ⟨A3, c3, rfl⟩ := own_shape hrow
  have hba : Below w3.heap.size w3 (w3.alloc (.cells #[.int .i64 0, .int .i64 0] 25)) := (Below.refl _ _).alloc (Nat.le_refl _) _
  have hbb := below_later hba (below_later hb3 hb0)
  have HO3 := Lib.hid (own_later HO2.out hbb)
  have HP3 := Lib.hid (HP2.out.later hbb)
  have HM3 := Lib.hid (hmods.later hba)
  have HB3 := Lib.hid (below_later hbb HB2.out)
  clear hb3 hb0 hba hbb HO2 HP2 HB2 hmods hmd hrow
  have hcv := hconst (w3.alloc (.cells #[.int .i64 0, .int .i64 0] 25)) #[.int .u8 102, .int .u8 32, .int .u8 49] 3 3
  try rw [World.size_alloc] at hcv
  go_wp2_with fail
  clear hcv
  have hbv := lit_bytes (w3.alloc (.cells #[.int .i64 0, .int .i64 0] 25)) wk4 (by decide) (3, 3 + 1)
  try rw [World.size_alloc] at hbv
  have hb0 : Below (w3.alloc (.cells #[.int .i64 0, .int .i64 0] 25)).heap.size (w3.alloc (.cells #[.int .i64 0, .int .i64 0] 25)) ((w3.alloc (.cells #[.int .i64 0, .int .i64 0] 25)).alloc (.cells (wk4.map byteV).toArray 5 (3, 3 + 1))) := (Below.refl _ _).alloc (Nat.le_refl _) _
  have hcl := Lib.hid (readExpr_any (bs wk4) _ ((w3.alloc (.cells #[.int .i64 0, .int .i64 0] 25)).alloc (.cells (wk4.map byteV).toArray 5 (3, 3 + 1))) hbv (by decide) (HS.out.later (below_later hb0 HB3.out)))
  refine hcl.out.mono ?_
  clear hcl hbv
  rintro E w4 ⟨hb4, hr⟩
  rw [bs_list, work4] at hr
  simp only at hr
  subst hr
  have hba : Below w4.heap.size w4 (w4.alloc (.cells #[.int .i64 1, .int .i64 3] 25)) := (Below.refl _ _).alloc (Nat.le_refl _) _
  have hbb := below_later hba (below_later hb4 hb0)
  have hown := own_later HO3.out hbb
  have hp4 := HP3.out.later hbb
  have hm4 := HM3.out.later hbb
  have hp5 := pl2_alloc w4 1 3
  have HB4 := Lib.hid (below_later hbb HB3.out)
  have p0 := hp4.c0
  have p1 := hp4.c1
  obtain ⟨b, off, iv, dv, rfl, ⟨-, -, m2, -, -⟩, -, hd⟩ := hm4.at_ (i := 0) (by decide)
  obtain ⟨Ad, cd, rfl⟩ := hd.form
  have hx0 : wf1.flat[0]? = some (mkNd 11 (1, 7) 2 0 [] [] []) := rfl
  obtain ⟨b5, off5, rfl, hat⟩ := nodes_get (own_nds hown rfl) hx0
  obtain ⟨k0, k1, k2, k3, k4, k5, k6, k7⟩ := hat.at_ hx0
  rw [Nat.zero_mul, Nat.add_zero] at k0 k1 k2 k3 k4 k5 k6 k7
  rw [Nat.zero_mul, Nat.add_zero] at m2
  replace k0 : _ = some (Value.int .i8 11) := k0
  replace k1 : _ = some (Value.int .i64 2) := k1
  replace k2 : _ = some (Value.int .i64 0) := k2
  replace k3 : _ = some (Value.string { data := #[] }) := k3
  replace k4 : _ = some (Value.string { data := #[] }) := k4
  replace k5 : _ = some (Value.string { data := #[] }) := k5
  replace k6 : _ = some (Value.int .i64 1) := k6
  replace k7 : _ = some (Value.int .i64 7) := k7
  replace m2 : _ = some (Value.slice Ad 1 cd) := m2
  have z0 := hp5.c0
  have z1 := hp5.c1
  clear hb4 hb0 hba hbb HO3 HP3 HB3 hown hp4 hm4 hd HM3 hat hx0 hp5
  go_wp2_with fail
  go_ret
  exact Makes.mk rfl HB4.out
end Go.Proofs.YtnhdbjhdmdefmaaDoor
