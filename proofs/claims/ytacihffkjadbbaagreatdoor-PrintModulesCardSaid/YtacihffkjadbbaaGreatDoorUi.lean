
/- Walks of the printer: parts that stand in no brackets of their own. -/
import Derived.Test.YtacihffkjadbbaaGreatDoorUh
namespace Go.Proofs.YtacihffkjadbbaaGreatDoor
set_option linter.unusedSimpArgs false
set_option linter.unusedVariables false
open Go.RowKit Culp
theorem build_s4 (w : World) (a b c d : ByteArray) : (Instr.buildSlice 48 4 #[(0, .string a), (1, .string b), (2, .string c), (3, .string d)]).run Tryz.prog w = .ok (.slice (some ⟨w.heap.size, 0, none⟩) 4 4) (w.alloc (.cells #[.string a, .string b, .string c, .string d] 9)) := by
  simp [go_sem, Instr.buildSlice, run_underlying Tryz.underlying48]
theorem build_s6 (w : World) (a b c d e f : ByteArray) : (Instr.buildSlice 48 6 #[(0, .string a), (1, .string b), (2, .string c), (3, .string d), (4, .string e), (5, .string f)]).run Tryz.prog w = .ok (.slice (some ⟨w.heap.size, 0, none⟩) 6 6) (w.alloc (.cells #[.string a, .string b, .string c, .string d, .string e, .string f] 9)) := by
  simp [go_sem, Instr.buildSlice, run_underlying Tryz.underlying48]
theorem build_s8 (w : World) (a b c d e f g h : ByteArray) : (Instr.buildSlice 48 8 #[(0, .string a), (1, .string b), (2, .string c), (3, .string d), (4, .string e), (5, .string f), (6, .string g), (7, .string h)]).run Tryz.prog w = .ok (.slice (some ⟨w.heap.size, 0, none⟩) 8 8) (w.alloc (.cells #[.string a, .string b, .string c, .string d, .string e, .string f, .string g, .string h] 9)) := by
  simp [go_sem, Instr.buildSlice, run_underlying Tryz.underlying48]
theorem put_at (S : List ByteArray) (tid : TypeId) (g : Nat) {w0 w1 w : World} {lv p v : Value} {b i : Nat} {o : Option Nat} {bs : List Value} {l : List UInt8} (h : PS w0 lv b o bs w1 l i p v w) (hg : w.heap.size = g) (hl : bs.length + l.length + (cat S).length ≤ 140737488355328) (hn : S.length ≤ 100) (hn0 : S.length ≠ 0) :
    Calls Tryz.prog 44 #[.pointer (some ⟨b, 0, none⟩), .slice (some ⟨g, 0, none⟩) S.length S.length] (w.alloc (.cells (S.map Value.string).toArray tid)) (Goes w0 lv b o bs w1 (l ++ cat S) i) := by
  subst hg
  exact put_lit S tid h hl hn hn0
/-- What wide does with a part, whose node is taken already. -/
def WideP (w0 : World) (lv : Value) (L : List Nd) (x : Nd) (ks : Tr.F) : Prop := ∀ (b : Nat) (o : Option Nat) (bs : List Value) (w1 : World) (l : List UInt8) (i : Nat) (p v : Value) (w : World), PS w0 lv b o bs w1 l i p v w →
  (∃ R, L.drop i = ks.flat ++ R) → bs.length + l.length + (Pt.part x ks).length ≤ 140737488355328 → Calls Tryz.prog 76 #[.pointer (some ⟨b, 0, none⟩), x.val] w (Goes w0 lv b o bs w1 (l ++ Pt.part x ks) (i + ks.flat.length))
section
variable (w0 : World) (lv : Value) (L : List Nd) (hN : Nodes w0 lv L)
include hN
set_option maxRecDepth 100000 in
set_option maxHeartbeats 3200000 in
theorem wide_set (x y z : Nd) (ky kz : Tr.F) (hk : x.kind = 28) (hY : NodeP w0 lv L y ky) (hZ : NodeP w0 lv L z kz) : WideP w0 lv L x (.cons y ky (.cons z kz .nil)) := by
  intro b o bs w1 l i p v w h hR hl
  have hb1 : Below w.heap.size w (w.alloc (.cells x.cells.toArray 41)) := (Below.refl _ _).alloc (Nat.le_refl _) _
  rw [part_set hk] at hl ⊢
  have HT := Lib.hid (two_pr w0 lv L 1 0 ⟨#[58, 61]⟩ y z ky kz (kid_any w0 lv L hN 1 y ky hY) (kid_any w0 lv L hN 0 z kz hZ) b o bs w1 l i p v _ (h.later hb1) (by obtain ⟨R, hR⟩ := hR; exact ⟨R, by rw [hR]; simp [Tr.F.flat]⟩) hl)
  unfold Nd.val
  unfold Nd.cells at *
  rw [hk] at *
  clear h hR hl hb1 hN hY hZ hk
  go_enter Tryz.func76, Tryz.ntmps76
  go_wp2_with fail
  refine HT.out.mono ?_
  rintro e w2 ⟨rfl, v2, h2⟩
  go_wp2_with fail
  go_end0
  refine ⟨rfl, v2, ?_⟩
  simp only [Tr.F.flat, List.append_nil, List.length_cons, List.length_append]
  have e : i + (1 + ky.flat.length) + (1 + kz.flat.length) = i + (ky.flat.length + (kz.flat.length + 1) + 1) := by omega
  rw [← e]
  exact h2
set_option maxRecDepth 100000 in
set_option maxHeartbeats 3200000 in
theorem wide_eq (x y z : Nd) (ky kz : Tr.F) (hk : x.kind = 14) (hY : NodeP w0 lv L y ky) (hZ : NodeP w0 lv L z kz) : WideP w0 lv L x (.cons y ky (.cons z kz .nil)) := by
  intro b o bs w1 l i p v w h hR hl
  have hb1 : Below w.heap.size w (w.alloc (.cells x.cells.toArray 41)) := (Below.refl _ _).alloc (Nat.le_refl _) _
  rw [part_eq hk] at hl ⊢
  have HT := Lib.hid (two_pr w0 lv L 2 2 ⟨#[61, 61]⟩ y z ky kz (kid_any w0 lv L hN 2 y ky hY) (kid_any w0 lv L hN 2 z kz hZ) b o bs w1 l i p v _ (h.later hb1) (by obtain ⟨R, hR⟩ := hR; exact ⟨R, by rw [hR]; simp [Tr.F.flat]⟩) hl)
  unfold Nd.val
  unfold Nd.cells at *
  rw [hk] at *
  clear h hR hl hb1 hN hY hZ hk
  go_enter Tryz.func76, Tryz.ntmps76
  go_wp2_with fail
  refine HT.out.mono ?_
  rintro e w2 ⟨rfl, v2, h2⟩
  go_wp2_with fail
  go_end0
  refine ⟨rfl, v2, ?_⟩
  simp only [Tr.F.flat, List.append_nil, List.length_cons, List.length_append]
  have e : i + (1 + ky.flat.length) + (1 + kz.flat.length) = i + (ky.flat.length + (kz.flat.length + 1) + 1) := by omega
  rw [← e]
  exact h2
set_option maxRecDepth 100000 in
set_option maxHeartbeats 3200000 in
theorem wide_less (x y z : Nd) (ky kz : Tr.F) (hk : x.kind = 15) (hY : NodeP w0 lv L y ky) (hZ : NodeP w0 lv L z kz) : WideP w0 lv L x (.cons y ky (.cons z kz .nil)) := by
  intro b o bs w1 l i p v w h hR hl
  have hb1 : Below w.heap.size w (w.alloc (.cells x.cells.toArray 41)) := (Below.refl _ _).alloc (Nat.le_refl _) _
  rw [part_less hk] at hl ⊢
  have HT := Lib.hid (two_pr w0 lv L 2 2 ⟨#[60]⟩ y z ky kz (kid_any w0 lv L hN 2 y ky hY) (kid_any w0 lv L hN 2 z kz hZ) b o bs w1 l i p v _ (h.later hb1) (by obtain ⟨R, hR⟩ := hR; exact ⟨R, by rw [hR]; simp [Tr.F.flat]⟩) hl)
  unfold Nd.val
  unfold Nd.cells at *
  rw [hk] at *
  clear h hR hl hb1 hN hY hZ hk
  go_enter Tryz.func76, Tryz.ntmps76
  go_wp2_with fail
  refine HT.out.mono ?_
  rintro e w2 ⟨rfl, v2, h2⟩
  go_wp2_with fail
  go_end0
  refine ⟨rfl, v2, ?_⟩
  simp only [Tr.F.flat, List.append_nil, List.length_cons, List.length_append]
  have e : i + (1 + ky.flat.length) + (1 + kz.flat.length) = i + (ky.flat.length + (kz.flat.length + 1) + 1) := by omega
  rw [← e]
  exact h2
set_option maxRecDepth 100000 in
set_option maxHeartbeats 3200000 in
theorem wide_add (x y z : Nd) (ky kz : Tr.F) (hk : x.kind = 10) (hY : NodeP w0 lv L y ky) (hZ : NodeP w0 lv L z kz) : WideP w0 lv L x (.cons y ky (.cons z kz .nil)) := by
  intro b o bs w1 l i p v w h hR hl
  have hb1 : Below w.heap.size w (w.alloc (.cells x.cells.toArray 41)) := (Below.refl _ _).alloc (Nat.le_refl _) _
  rw [part_add hk] at hl ⊢
  have HT := Lib.hid (two_pr w0 lv L 2 3 ⟨#[43]⟩ y z ky kz (kid_any w0 lv L hN 2 y ky hY) (kid_any w0 lv L hN 3 z kz hZ) b o bs w1 l i p v _ (h.later hb1) (by obtain ⟨R, hR⟩ := hR; exact ⟨R, by rw [hR]; simp [Tr.F.flat]⟩) hl)
  unfold Nd.val
  unfold Nd.cells at *
  rw [hk] at *
  clear h hR hl hb1 hN hY hZ hk
  go_enter Tryz.func76, Tryz.ntmps76
  go_wp2_with fail
  refine HT.out.mono ?_
  rintro e w2 ⟨rfl, v2, h2⟩
  go_wp2_with fail
  go_end0
  refine ⟨rfl, v2, ?_⟩
  simp only [Tr.F.flat, List.append_nil, List.length_cons, List.length_append]
  have e : i + (1 + ky.flat.length) + (1 + kz.flat.length) = i + (ky.flat.length + (kz.flat.length + 1) + 1) := by omega
  rw [← e]
  exact h2
set_option maxRecDepth 100000 in
set_option maxHeartbeats 3200000 in
theorem wide_sub (x y z : Nd) (ky kz : Tr.F) (hk : x.kind = 11) (hY : NodeP w0 lv L y ky) (hZ : NodeP w0 lv L z kz) : WideP w0 lv L x (.cons y ky (.cons z kz .nil)) := by
  intro b o bs w1 l i p v w h hR hl
  have hb1 : Below w.heap.size w (w.alloc (.cells x.cells.toArray 41)) := (Below.refl _ _).alloc (Nat.le_refl _) _
  rw [part_sub hk] at hl ⊢
  have HT := Lib.hid (two_pr w0 lv L 2 3 ⟨#[45]⟩ y z ky kz (kid_any w0 lv L hN 2 y ky hY) (kid_any w0 lv L hN 3 z kz hZ) b o bs w1 l i p v _ (h.later hb1) (by obtain ⟨R, hR⟩ := hR; exact ⟨R, by rw [hR]; simp [Tr.F.flat]⟩) hl)
  unfold Nd.val
  unfold Nd.cells at *
  rw [hk] at *
  clear h hR hl hb1 hN hY hZ hk
  go_enter Tryz.func76, Tryz.ntmps76
  go_wp2_with fail
  refine HT.out.mono ?_
  rintro e w2 ⟨rfl, v2, h2⟩
  go_wp2_with fail
  go_end0
  refine ⟨rfl, v2, ?_⟩
  simp only [Tr.F.flat, List.append_nil, List.length_cons, List.length_append]
  have e : i + (1 + ky.flat.length) + (1 + kz.flat.length) = i + (ky.flat.length + (kz.flat.length + 1) + 1) := by omega
  rw [← e]
  exact h2
set_option maxRecDepth 100000 in
set_option maxHeartbeats 3200000 in
theorem wide_join (x y z : Nd) (ky kz : Tr.F) (hk : x.kind = 13) (hY : NodeP w0 lv L y ky) (hZ : NodeP w0 lv L z kz) : WideP w0 lv L x (.cons y ky (.cons z kz .nil)) := by
  intro b o bs w1 l i p v w h hR hl
  have hb1 : Below w.heap.size w (w.alloc (.cells x.cells.toArray 41)) := (Below.refl _ _).alloc (Nat.le_refl _) _
  rw [part_join hk] at hl ⊢
  have HT := Lib.hid (two_pr w0 lv L 2 3 ⟨#[43, 43]⟩ y z ky kz (kid_any w0 lv L hN 2 y ky hY) (kid_any w0 lv L hN 3 z kz hZ) b o bs w1 l i p v _ (h.later hb1) (by obtain ⟨R, hR⟩ := hR; exact ⟨R, by rw [hR]; simp [Tr.F.flat]⟩) hl)
  unfold Nd.val
  unfold Nd.cells at *
  rw [hk] at *
  clear h hR hl hb1 hN hY hZ hk
  go_enter Tryz.func76, Tryz.ntmps76
  go_wp2_with fail
  refine HT.out.mono ?_
  rintro e w2 ⟨rfl, v2, h2⟩
  go_wp2_with fail
  go_end0
  refine ⟨rfl, v2, ?_⟩
  simp only [Tr.F.flat, List.append_nil, List.length_cons, List.length_append]
  have e : i + (1 + ky.flat.length) + (1 + kz.flat.length) = i + (ky.flat.length + (kz.flat.length + 1) + 1) := by omega
  rw [← e]
  exact h2
set_option maxRecDepth 100000 in
set_option maxHeartbeats 3200000 in
theorem wide_mul (x y z : Nd) (ky kz : Tr.F) (hk : x.kind = 12) (hY : NodeP w0 lv L y ky) (hZ : NodeP w0 lv L z kz) : WideP w0 lv L x (.cons y ky (.cons z kz .nil)) := by
  intro b o bs w1 l i p v w h hR hl
  have hb1 : Below w.heap.size w (w.alloc (.cells x.cells.toArray 41)) := (Below.refl _ _).alloc (Nat.le_refl _) _
  rw [part_mul hk] at hl ⊢
  have HT := Lib.hid (two_pr w0 lv L 3 4 ⟨#[42]⟩ y z ky kz (kid_any w0 lv L hN 3 y ky hY) (kid_any w0 lv L hN 4 z kz hZ) b o bs w1 l i p v _ (h.later hb1) (by obtain ⟨R, hR⟩ := hR; exact ⟨R, by rw [hR]; simp [Tr.F.flat]⟩) hl)
  unfold Nd.val
  unfold Nd.cells at *
  rw [hk] at *
  clear h hR hl hb1 hN hY hZ hk
  go_enter Tryz.func76, Tryz.ntmps76
  go_wp2_with fail
  refine HT.out.mono ?_
  rintro e w2 ⟨rfl, v2, h2⟩
  go_wp2_with fail
  go_end0
  refine ⟨rfl, v2, ?_⟩
  simp only [Tr.F.flat, List.append_nil, List.length_cons, List.length_append]
  have e : i + (1 + ky.flat.length) + (1 + kz.flat.length) = i + (ky.flat.length + (kz.flat.length + 1) + 1) := by omega
  rw [← e]
  exact h2
set_option maxRecDepth 100000 in
set_option maxHeartbeats 3200000 in
theorem wide_neg (x y : Nd) (ky : Tr.F) (hk : x.kind = 16) (hY : NodeP w0 lv L y ky) : WideP w0 lv L x (.cons y ky .nil) := by
  intro b o bs w1 l i p v w h hR hl
  have hb1 : Below w.heap.size w (w.alloc (.cells x.cells.toArray 41)) := (Below.refl _ _).alloc (Nat.le_refl _) _
  rw [part_neg hk] at hl ⊢
  simp only [List.length_append, List.length_cons, List.length_nil] at hl
  have HP := Lib.hid (h.later hb1)
  have HK := Lib.hid (kid_any w0 lv L hN 4 y ky hY)
  have HR1 : Hid (∃ R, L.drop i = (y :: ky.flat) ++ R) := Lib.hid (by obtain ⟨R, hR⟩ := hR; exact ⟨R, by rw [hR]; simp [Tr.F.flat]⟩)
  unfold Nd.val
  unfold Nd.cells at *
  rw [hk] at *
  clear h hR hb1 hN hY hk
  go_enter Tryz.func76, Tryz.ntmps76
  go_wp2_with fail
  refine (put_at [⟨#[45]⟩] _ _ HP.out (by simp) (by simp [cat]; omega) (by decide) (by decide)).mono ?_
  rintro e w2 ⟨rfl, v2, h2⟩
  have HP2 := Lib.hid h2
  clear h2 HP
  go_wp2_with fail
  refine (HK.out _ _ _ _ _ _ _ _ _ HP2.out HR1.out (by simp [cat]; omega)).mono ?_
  rintro e w3 ⟨rfl, v3, h3⟩
  go_wp2_with fail
  go_end0
  refine ⟨rfl, v3, ?_⟩
  simp only [Tr.F.flat, List.append_nil, List.length_cons]
  rw [Nat.add_comm ky.flat.length 1]
  simpa [cat] using h3
set_option maxRecDepth 100000 in
set_option maxHeartbeats 3200000 in
theorem wide_get (x y : Nd) (ky : Tr.F) (hk : x.kind = 27) (hY : NodeP w0 lv L y ky) : WideP w0 lv L x (.cons y ky .nil) := by
  intro b o bs w1 l i p v w h hR hl
  have hb1 : Below w.heap.size w (w.alloc (.cells x.cells.toArray 41)) := (Below.refl _ _).alloc (Nat.le_refl _) _
  rw [part_get hk] at hl ⊢
  simp only [List.length_append, List.length_cons, List.length_nil] at hl
  have HP := Lib.hid (h.later hb1)
  have HK := Lib.hid (kid_any w0 lv L hN 4 y ky hY)
  have HR1 : Hid (∃ R, L.drop i = (y :: ky.flat) ++ R) := Lib.hid (by obtain ⟨R, hR⟩ := hR; exact ⟨R, by rw [hR]; simp [Tr.F.flat]⟩)
  unfold Nd.val
  unfold Nd.cells at *
  rw [hk] at *
  clear h hR hb1 hN hY hk
  go_enter Tryz.func76, Tryz.ntmps76
  go_wp2_with fail
  refine (put_at [⟨#[33]⟩] _ _ HP.out (by simp) (by simp [cat]; omega) (by decide) (by decide)).mono ?_
  rintro e w2 ⟨rfl, v2, h2⟩
  have HP2 := Lib.hid h2
  clear h2 HP
  go_wp2_with fail
  refine (HK.out _ _ _ _ _ _ _ _ _ HP2.out HR1.out (by simp [cat]; omega)).mono ?_
  rintro e w3 ⟨rfl, v3, h3⟩
  go_wp2_with fail
  go_end0
  refine ⟨rfl, v3, ?_⟩
  simp only [Tr.F.flat, List.append_nil, List.length_cons]
  rw [Nat.add_comm ky.flat.length 1]
  simpa [cat] using h3
set_option maxRecDepth 100000 in
set_option maxHeartbeats 3200000 in
theorem wide_if (x y z u : Nd) (ky kz ku : Tr.F) (hk : x.kind = 9) (hY : NodeP w0 lv L y ky) (hZ : NodeP w0 lv L z kz) (hU : NodeP w0 lv L u ku) : WideP w0 lv L x (.cons y ky (.cons z kz (.cons u ku .nil))) := by
  intro b o bs w1 l i p v w h hR hl
  have hb1 : Below w.heap.size w (w.alloc (.cells x.cells.toArray 41)) := (Below.refl _ _).alloc (Nat.le_refl _) _
  rw [part_if hk] at hl ⊢
  simp only [List.length_append, List.length_cons, List.length_nil] at hl
  have HP := Lib.hid (h.later hb1)
  have HK := Lib.hid (kid_any w0 lv L hN 0 y ky hY)
  have HK2 := Lib.hid (kid_any w0 lv L hN 0 z kz hZ)
  have HK3 := Lib.hid (kid_any w0 lv L hN 0 u ku hU)
  have HR1 : Hid (∃ R, L.drop i = (y :: ky.flat) ++ R) := Lib.hid (by obtain ⟨R, hR⟩ := hR; exact ⟨(z :: kz.flat) ++ ((u :: ku.flat) ++ R), by rw [hR]; simp [Tr.F.flat]⟩)
  have HR2 : Hid (∃ R, L.drop (i + (1 + ky.flat.length)) = (z :: kz.flat) ++ R) := Lib.hid (by
    obtain ⟨R, hR⟩ := hR
    obtain ⟨R, h⟩ := drop_step (L := L) (i := i) (y := y) (z := z) (ky := ky) (kz := kz) (r := .cons z kz (.cons u ku .nil)) ⟨R, by rw [hR]; simp [Tr.F.flat]⟩
    exact ⟨(u :: ku.flat) ++ R, by rw [h]; simp [Tr.F.flat]⟩)
  have HR3 : Hid (∃ R, L.drop (i + (1 + ky.flat.length) + (1 + kz.flat.length)) = (u :: ku.flat) ++ R) := Lib.hid (by
    obtain ⟨R, hR⟩ := hR
    obtain ⟨R, h⟩ := drop_step (L := L) (i := i) (y := y) (z := z) (ky := ky) (kz := kz) (r := .cons z kz (.cons u ku .nil)) ⟨R, by rw [hR]; simp [Tr.F.flat]⟩
    obtain ⟨R, h⟩ := drop_step (L := L) (i := i + (1 + ky.flat.length)) (y := z) (z := u) (ky := kz) (kz := ku) (r := .cons u ku .nil) ⟨R, by rw [h]; simp [Tr.F.flat]⟩
    exact ⟨R, by rw [h]; simp [Tr.F.flat]⟩)
  unfold Nd.val
  unfold Nd.cells at *
  rw [hk] at *
  clear h hR hb1 hN hY hZ hU hk
  go_enter Tryz.func76, Tryz.ntmps76
  go_wp2_with fail
  refine (put_at [⟨#[105, 102, 32]⟩] _ _ HP.out (by simp) (by simp [cat]; omega) (by decide) (by decide)).mono ?_
  rintro e w2 ⟨rfl, v2, h2⟩
  have HP2 := Lib.hid h2
  clear h2 HP
  go_wp2_with fail
  refine (HK.out _ _ _ _ _ _ _ _ _ HP2.out HR1.out (by simp [cat]; omega)).mono ?_
  rintro e w3 ⟨rfl, v3, h3⟩
  have HP3 := Lib.hid h3
  clear h3 HP2
  go_wp2_with fail
  refine (put_lit [⟨#[32, 116, 104, 101, 110, 32]⟩] _ HP3.out (by simp [cat]; omega) (by decide) (by decide)).mono ?_
  rintro e w4 ⟨rfl, v4, h4⟩
  have HP4 := Lib.hid h4
  clear h4 HP3
  go_wp2_with fail
  refine (HK2.out _ _ _ _ _ _ _ _ _ HP4.out HR2.out (by simp [cat]; omega)).mono ?_
  rintro e w5 ⟨rfl, v5, h5⟩
  have HP5 := Lib.hid h5
  clear h5 HP4
  go_wp2_with fail
  refine (put_lit [⟨#[32, 101, 108, 115, 101, 32]⟩] _ HP5.out (by simp [cat]; omega) (by decide) (by decide)).mono ?_
  rintro e w6 ⟨rfl, v6, h6⟩
  have HP6 := Lib.hid h6
  clear h6 HP5
  go_wp2_with fail
  refine (HK3.out _ _ _ _ _ _ _ _ _ HP6.out HR3.out (by simp [cat]; omega)).mono ?_
  rintro e w7 ⟨rfl, v7, h7⟩
  go_wp2_with fail
  go_end0
  refine ⟨rfl, v7, ?_⟩
  simp only [Tr.F.flat, List.append_nil, List.length_cons, List.length_append]
  have e : i + (1 + ky.flat.length) + (1 + kz.flat.length) + (1 + ku.flat.length) = i + (ky.flat.length + (kz.flat.length + (ku.flat.length + 1) + 1) + 1) := by omega
  rw [← e]
  simpa [cat] using h7
end
end Go.Proofs.YtacihffkjadbbaaGreatDoor
