/- The walk of the statement TextBounds. -/
import Derived.Test.YtenbecjnlgmkeaaDoorTyD
import Derived.Test.YtenbecjnlgmkeaaDoorTxT
namespace Culp.Tx
set_option linter.unusedSimpArgs false
set_option linter.unusedVariables false
/-- A case of the statement: a source, how many tokens, the fault, its place. -/
structure Cs where
  s : ByteArray
  n : Nat
  e : Nat
  l : Nat
  c : Nat
def Cs.Good (x : Cs) : Prop := x.s.size ≤ 70000 ∧ match toks x.s.data.toList with
  | .ok T => x.n = T.length ∧ x.e = 0 ∧ x.l = 0 ∧ x.c = 0
  | .error (e, p) => x.n = 0 ∧ x.e = e ∧ x.l = p.1 ∧ x.c = p.2
theorem newlines_succ (n : Nat) : newlines (n + 1) = newlines n ++ [92, 110] := by
  unfold newlines; rw [List.replicate_succ', List.flatten_append]; simp
theorem newlines_len (n : Nat) : (newlines n).length = 2 * n := by
  unfold newlines; simp; omega
theorem newlines_two (n : Nat) : newlines n ++ newlines n = newlines (n + n) := by
  unfold newlines; rw [← List.flatten_append, ← List.replicate_append_replicate]
def cs9 (sa sb sc : ByteArray) : List Cs := [⟨sa, 1, 0, 0, 0⟩, ⟨sa ++ ⟨#[97]⟩, 0, 12, 1, 1⟩, ⟨⟨#[57, 50, 50, 51, 51, 55, 50, 48, 51, 54, 56, 53, 52, 55, 55, 53, 56, 48, 55]⟩, 1, 0, 0, 0⟩, ⟨⟨#[57, 50, 50, 51, 51, 55, 50, 48, 51, 54, 56, 53, 52, 55, 55, 53, 56, 48, 56]⟩, 0, 13, 1, 1⟩, ⟨⟨#[57, 50, 50, 51, 51, 55, 50, 48, 51, 54, 56, 53, 52, 55, 55, 53, 56, 48, 55, 48]⟩, 0, 13, 1, 1⟩, ⟨⟨#[34]⟩ ++ sb ++ sb ++ ⟨#[34]⟩, 1, 0, 0, 0⟩, ⟨⟨#[34]⟩ ++ sb ++ sb ++ ⟨#[120, 34]⟩, 0, 14, 1, 1⟩, ⟨sc, 0, 0, 0, 0⟩, ⟨sc ++ ⟨#[32]⟩, 0, 10, 0, 0⟩]
def ccells (x : Cs) : List Go.Value := [.string x.s, .int .i64 x.n, .int .i64 x.e, .int .i64 x.l, .int .i64 x.c]
theorem ccells_len (x : Cs) : (ccells x).length = 5 := rfl
end Culp.Tx
namespace Go.Proofs.YtenbecjnlgmkeaaDoor
open Go.RowKit Go.Maps Culp

theorem good_of {s : ByteArray} {l : List UInt8} {T : List (Tx.Tk × (Nat × Nat))} (h : s = bs l) (hl : l.length ≤ 70000) (ht : Tx.toks l = .ok T) : (Tx.Cs.mk s T.length 0 0 0).Good := by
  subst h
  refine ⟨hl, ?_⟩
  show match Tx.toks l with | .ok T' => _ | .error (e, p) => _
  rw [ht]; exact ⟨rfl, rfl, rfl, rfl⟩
theorem good_no {s : ByteArray} {l : List UInt8} {e : Nat} {p : Nat × Nat} (h : s = bs l) (hl : l.length ≤ 70000) (ht : Tx.toks l = .error (e, p)) : (Tx.Cs.mk s 0 e p.1 p.2).Good := by
  subst h
  refine ⟨hl, ?_⟩
  show match Tx.toks l with | .ok T' => _ | .error (e, p) => _
  rw [ht]; exact ⟨rfl, rfl, rfl, rfl⟩
theorem good9 {sa sb sc : ByteArray} (ha : sa = bs (List.replicate 32 97)) (hb : sb = bs (Tx.newlines 32)) (hc : sc = bs (List.replicate 65536 32)) : ∀ x ∈ Tx.cs9 sa sb sc, x.Good := by
  have h2 : sa ++ ⟨#[97]⟩ = bs (List.replicate 33 97) := bs_more (b := [97]) ha rfl
  have h6 : ∀ e, (⟨#[34]⟩ : ByteArray) ++ sb ++ sb ++ bs e = bs (34 :: Tx.newlines 64 ++ e) := fun e => by
    have h1 : (⟨#[34]⟩ : ByteArray) ++ sb = bs ([34] ++ Tx.newlines 32) := bs_more (a := [34]) rfl hb
    have h2 := bs_more h1 hb
    rw [List.append_assoc, Tx.newlines_two] at h2
    exact bs_more h2 rfl
  have h9 : sc ++ ⟨#[32]⟩ = bs (List.replicate (65536 + 1) 32) := by rw [List.replicate_succ']; exact bs_more (b := [32]) hc rfl
  have nl := Tx.newlines_len 64
  intro x hx
  unfold Tx.cs9 at hx
  simp only [List.mem_cons, List.not_mem_nil, or_false] at hx
  rcases hx with rfl | rfl | rfl | rfl | rfl | rfl | rfl | rfl | rfl
  · exact good_of ha (by simp) Tx.lim1
  · exact good_no h2 (by simp) Tx.lim2
  · exact good_of (l := [57,50,50,51,51,55,50,48,51,54,56,53,52,55,55,53,56,48,55]) rfl (by simp) Tx.lim3
  · exact good_no (l := [57,50,50,51,51,55,50,48,51,54,56,53,52,55,55,53,56,48,56]) rfl (by simp) Tx.lim4
  · exact good_no (l := [57,50,50,51,51,55,50,48,51,54,56,53,52,55,55,53,56,48,55,48]) rfl (by simp) Tx.lim5
  · exact good_of (h6 [34]) (by simp [nl]) Tx.lim6
  · exact good_no (h6 [120, 34]) (by simp [nl]) Tx.lim7
  · exact good_of hc (by rw [List.length_replicate]; omega) (Tx.blanks_toks 65536 (Nat.le_refl _))
  · exact good_no h9 (by rw [List.length_replicate]; omega) (Tx.long_toks (by rw [List.length_replicate]; omega))
theorem names9 {sa : ByteArray} (ha : sa = bs (List.replicate 32 97)) : Tx.isName sa.data.toList = true ∧ Tx.isName (sa ++ ⟨#[97]⟩ : ByteArray).data.toList = false := by
  have h2 : sa ++ ⟨#[97]⟩ = bs (List.replicate 33 97) := bs_more (b := [97]) ha rfl
  rw [h2, ha]
  exact ⟨(by decide : Tx.isName (List.replicate 32 97) = true), (by decide : Tx.isName (List.replicate 33 97) = false)⟩
theorem sz_le {s : ByteArray} {n : Nat} (h : s.size = n) (hn : n ≤ 100000) : s.size ≤ 140737488351232 := by omega
theorem sz33 {s : ByteArray} (h : s.size = 32) : (s ++ ⟨#[97]⟩ : ByteArray).size ≤ 140737488351232 := sz_le (n := 33) (by rw [ByteArray.size_append, h]; rfl) (by decide)
theorem toks_good {x : Tx.Cs} {w : World} {e : Ending} {w' : World} (hx : x.Good) (h : ToksRes x.s.data.toList w e w') : Below w.heap.size w w' ∧ ∃ A c, e = .returned (.tuple #[.slice A x.n c, .int .i64 x.e, .agg #[.int .i64 x.l, .int .i64 x.c]]) := by
  obtain ⟨hb, h⟩ := h
  refine ⟨hb, ?_⟩
  have hx := hx.2
  split at h
  · rename_i T ht
    rw [ht] at hx
    obtain ⟨hn, he, hl, hc⟩ := hx
    obtain ⟨v, rfl, hown⟩ := h
    obtain ⟨A, c, rfl, _⟩ := own_structs tcells_len hown
    rw [hn, he, hl, hc]
    exact ⟨A, c, rfl⟩
  · rename_i c p ht
    rw [ht] at hx
    obtain ⟨hn, he, hl, hc⟩ := hx
    rw [hn, he, hl, hc]
    exact ⟨none, 0, h⟩
theorem lit_structs {α : Type} {f : α → List Value} {n : Nat} (hf : ∀ x, (f x).length = n) (L : List α) (w : World) (t : TypeId) (g : Nat) (hg : w.heap.size = g) : Structs f n (w.alloc (.cells (L.flatMap f).toArray t)) (.slice (some ⟨g, 0, none⟩) L.length L.length) L := by
  subst hg
  refine ⟨_, _, rfl, fun _ => ⟨w.heap.size, 0, rfl, fun i x hx j u hu => ?_⟩⟩
  rw [Nat.zero_add]
  rw [World.cell?_alloc_at _ _ _ _ rfl]
  have := flat_get f n hf L i x j u hx hu
  simpa using this
theorem structs_at {α : Type} {f : α → List Value} {n m c g : Nat} {w : World} {L : List α} (h : Structs f n w (.slice (some ⟨g, 0, none⟩) m c) L) {i : Nat} {x : α} (hx : L[i]? = some x) {j : Nat} {u : Value} (hu : (f x)[j]? = some u) : w.cell? ⟨g, i * n + j, none⟩ = some u := by
  obtain ⟨A, c', hv, h⟩ := h
  cases hv
  obtain ⟨g', o', hg, hc⟩ := h (Nat.lt_of_le_of_lt (Nat.zero_le i) (List.getElem?_eq_some_iff.1 hx).1)
  cases hg
  have := hc i x hx j u hu
  rwa [Nat.zero_add] at this
set_option maxRecDepth 100000 in
set_option maxHeartbeats 6400000 in
theorem TextBounds_any (w : World) (hS : Sp w) : Calls Tryd.prog 7 #[] w (Makes (.bool true) w) := by
  have HS := Lib.hid hS
  clear hS
  go_enter Tryd.func7, Tryd.ntmps7
  go_wp2_with fail
  go_loop [1, 2, 3] (fun u v i => ∃ (k : Nat) (a b : ByteArray), k ≤ 32 ∧ i = .int .i64 k ∧ u = .string a ∧ v = .string b ∧ Hid (a = bs (List.replicate k 97)) ∧ Hid (b = bs (Tx.newlines k)) ∧ a.size = k ∧ b.size = 2 * k) (fun _ _ i => 32 - (intOf i).toNat)
  case atStart => exact ⟨0, _, _, Nat.zero_le _, rfl, rfl, rfl, Lib.hid rfl, Lib.hid rfl, rfl, rfl⟩
  case round =>
    obtain ⟨k, sa, sb, hk, rfl, rfl, rfl, HA, HB, ha, hb⟩ := hrel
    by_cases hlt : k < 32
    · go_wp2_with fail
      go_round
      case rel => exact ⟨k + 1, _, _, by omega, by go_num, rfl, rfl, Lib.hid (by rw [List.replicate_succ']; exact bs_more (b := [97]) HA.out rfl), Lib.hid (by rw [Tx.newlines_succ]; exact bs_more (b := [92, 110]) HB.out rfl), by rw [ByteArray.size_append, ha]; rfl, by rw [ByteArray.size_append, hb]; rfl⟩
      case measure => simp [intOf]; omega
    obtain rfl : k = 32 := by omega
    clear hk hlt
    go_wp2_with fail
    go_loopw [4, 5] (fun v i wr => ∃ (k : Nat) (u : Value), k ≤ 65536 ∧ i = .int .i64 k ∧ v = u ∧ wr.ownsRow w.heap.size 5 1 u (List.replicate k (32 : UInt8)).length ((List.replicate k (32 : UInt8)).map byteV) ∧ Below w.heap.size w wr) (fun _ i _ => 65536 - (intOf i).toNat)
    case atStart => exact ⟨0, _, Nat.zero_le _, rfl, rfl, World.ownsRow_nil _ _ _ _, Below.refl _ _⟩
    case round =>
      obtain ⟨k, u, hk, rfl, rfl, hown, hbel⟩ := hrel
      by_cases hlt : k < 65536
      · have hi : (k : Int) < 65536 := by omega
        clear hk hlt
        go_wp2_with (at_builtin; refine append_one rfl (.tmp 25) (.tmp 26) 22 5 rfl w.heap.size _ 1 Tryd.underlying22 u8_info rfl _ _ _ rfl hown _ rfl rfl ?_ ?_ ?_ ?_)
        · simp; omega
        · simp; omega
        · exact hbel.size
        intro v' w2 hown' hg hb'
        have hb2 := hbel.trans hb'
        have hown2 : w2.ownsRow w.heap.size 5 1 v' (List.replicate (k + 1) (32 : UInt8)).length ((List.replicate (k + 1) (32 : UInt8)).map byteV) := by rw [List.replicate_succ']; simpa [byteV] using hown'
        clear hown hbel hg hb' hown'
        go_wp2_with fail
        go_roundw
        case rel => exact ⟨k + 1, v', by omega, by go_num, rfl, hown2, hb2⟩
        case measure => simp [intOf]; omega
      have hk2 : k = 65536 := by omega
      have hi : ¬ (k : Int) < 65536 := by omega
      clear hk hlt
      have hcv := own_text ((hown.alloc (.cells #[.int .i64 0, .int .i64 0] 29)).alloc (.cells #[.int .i64 1, .int .i64 1] 29))
      obtain ⟨sc, hsc⟩ : ∃ x, x = bs (List.replicate k 32) := ⟨_, rfl⟩
      rw [← hsc] at hcv
      have hcs : sc.size = 65536 := by rw [hsc, bs_size, List.length_replicate, hk2]
      have HC : Hid (sc = bs (List.replicate 65536 32)) := Lib.hid (by rw [hsc, hk2])
      clear hk2
      have HBE := Lib.hid hbel
      clear hown hbel hsc
      go_wp2_with fail
      have HNM := Lib.hid (names9 HA.out)
      have HGOOD := Lib.hid (good9 HA.out HB.out HC.out)
      have hg : wr.heap.size + 1 + 1 = wr.heap.size + 2 := rfl
      have hst := lit_structs Tx.ccells_len (Tx.cs9 sa sb sc) ((wr.alloc (.cells #[.int .i64 0, .int .i64 0] 29)).alloc (.cells #[.int .i64 1, .int .i64 1] 29)) 51 (wr.heap.size + 1 + 1) (by simp)
      have hb4 : Below w.heap.size w ((((wr.alloc (.cells #[.int .i64 0, .int .i64 0] 29)).alloc (.cells #[.int .i64 1, .int .i64 1] 29))).alloc (.cells ((Tx.cs9 sa sb sc).flatMap Tx.ccells).toArray 51)) := ((HBE.out.alloc HBE.out.size _).alloc (by have := HBE.out.size; simp; omega) _).alloc (by have := HBE.out.size; simp; omega) _
      have HST0 := Lib.hid hst
      have HB40 := Lib.hid hb4
      clear hst hb4 hg
      generalize wr.heap.size + 1 + 1 = g3 at *
      go_loopw [9] (fun i wx => ∃ k : Nat, k ≤ 9 ∧ i = .int .i64 k ∧ Hid (Structs Tx.ccells 5 wx (.slice (some ⟨g3, 0, none⟩) 9 9) (Tx.cs9 sa sb sc)) ∧ Hid (Below w.heap.size w wx)) (fun i _ => 9 - (intOf i).toNat)
      case atStart => exact ⟨0, Nat.zero_le _, rfl, HST0, HB40⟩
      case round =>
        clear HST0 HB40
        obtain ⟨k, hk, rfl, HST, HBX⟩ := hrel
        by_cases hlt : k < 9
        · obtain ⟨x, hx⟩ : ∃ x, (Tx.cs9 sa sb sc)[k]? = some x := ⟨_, List.getElem?_eq_getElem (show k < (Tx.cs9 sa sb sc).length from hlt)⟩
          have HG := Lib.hid (HGOOD.out x (List.mem_of_getElem? hx))
          have HX := Lib.hid hx
          have c0 : wr.cell? ⟨g3, k * 5, none⟩ = some (.string x.s) := structs_at HST.out hx (j := 0) rfl
          have hcv := conv_bytes wr x.s
          obtain ⟨hbv, hb6⟩ := bytes_of wr x.s
          have HBV := Lib.hid hbv
          have HST2 := Lib.hid (HST.out.later hb6)
          have HB6 := Lib.hid (below_later hb6 HBX.out)
          clear hbv hb6 hx
          go_wp2_with fail
          clear hcv c0
          refine (tTokens_any x.s _ _ HBV.out (Nat.le_trans HG.out.1 (by decide)) (HS.out.later HB6.out)).mono ?_
          rintro e w6 hres
          obtain ⟨hb7, A, c, rfl⟩ := toks_good HG.out hres
          have hb8 : Below w6.heap.size w6 (w6.alloc (.cells #[.int .i64 x.l, .int .i64 x.c] 29)) := (Below.refl _ _).alloc (Nat.le_refl _) _
          have HST3 := Lib.hid ((HST2.out.later hb7).later hb8)
          have HB8 := Lib.hid (below_later hb8 (below_later hb7 HB6.out))
          have c1 : (w6.alloc (.cells #[.int .i64 x.l, .int .i64 x.c] 29)).cell? ⟨g3, k * 5 + 1, none⟩ = some (.int .i64 x.n) := structs_at HST3.out HX.out (j := 1) rfl
          have c2 : (w6.alloc (.cells #[.int .i64 x.l, .int .i64 x.c] 29)).cell? ⟨g3, k * 5 + 2, none⟩ = some (.int .i64 x.e) := structs_at HST3.out HX.out (j := 2) rfl
          have c3 : (w6.alloc (.cells #[.int .i64 x.l, .int .i64 x.c] 29)).cell? ⟨g3, k * 5 + 3, none⟩ = some (.int .i64 x.l) := structs_at HST3.out HX.out (j := 3) rfl
          have c4 : (w6.alloc (.cells #[.int .i64 x.l, .int .i64 x.c] 29)).cell? ⟨g3, k * 5 + 4, none⟩ = some (.int .i64 x.c) := structs_at HST3.out HX.out (j := 4) rfl
          clear hres hb7 hb8
          go_wp2_with fail
          refine wp_region_plan (S := fun w' => (w'.cell? ⟨g3, k * 5 + 1, none⟩ = some (.int .i64 x.n) ∧ w'.cell? ⟨g3, k * 5 + 2, none⟩ = some (.int .i64 x.e) ∧ w'.cell? ⟨g3, k * 5 + 3, none⟩ = some (.int .i64 x.l) ∧ w'.cell? ⟨g3, k * 5 + 4, none⟩ = some (.int .i64 x.c)) ∧ (w'.cell? ⟨w6.heap.size, 0, none⟩ = some (.int .i64 x.l) ∧ w'.cell? ⟨w6.heap.size, 1, none⟩ = some (.int .i64 x.c)))
            [(0, true), (1, true), (2, true), (3, true), (4, true), (5, true), (6, true), (7, true), (8, true), (9, true), (10, true), (11, true), (12, true), (13, true), (14, true), (15, true), (16, true), (17, true), (18, true), (19, true), (20, true), (21, true), (22, true), (23, true), (24, true), (25, true)] (by kernel_rfl) (by kernel_rfl) (by kernel_rfl) (fun _ _ _ _ _ h => h) ⟨⟨c1, c2, c3, c4⟩, ⟨World.cell?_alloc_at _ _ _ _ rfl, World.cell?_alloc_at _ _ _ _ rfl⟩⟩ ?_
          clear c1 c2 c3 c4
          intro HP
          repeat (first | (apply wpPlan_look; rfl; rfl; (intro wq hq; (try dsimp only at hq); go_split_ands; go_simp; (try rw [if_neg (by omega)]); (try rw [if_pos (by omega)]); try with_reducible rfl); simp only [Act.put, List.setIfInBounds_toArray, List.set_cons_zero, List.set_cons_succ]) | (apply wpPlan_skip; rfl; rfl; simp only [Act.put, List.setIfInBounds_toArray, List.set_cons_zero, List.set_cons_succ]) | (apply wpPlan_pass; rfl; rfl; assumption; simp only [Act.put, List.setIfInBounds_toArray, List.set_cons_zero, List.set_cons_succ]))
          apply wpPlan_done
          go_wp2_with fail
          go_roundw
          case rel => exact ⟨k + 1, by omega, by go_num, Lib.hid (HST3.out.later (Below.refl _ _).drew), Lib.hid HB8.out.drew⟩
          case measure => simp [intOf]; omega
        · obtain rfl : k = 9 := by omega
          clear hk hlt
          go_wp2_with fail
          refine (works_any _ (HS.out.later HBX.out)).mono ?_
          rintro e w2 ⟨rfl, hb2⟩
          have HB2 := Lib.hid (below_later hb2 HBX.out)
          clear hb2
          go_wp2_with fail
          refine (tIsName_any sa _ (sz_le ha (by decide)) (HS.out.later HB2.out)).mono ?_
          rintro e w3 ⟨rfl, hb3⟩
          have HB3 := Lib.hid (below_later hb3 HB2.out)
          rw [HNM.out.1]
          clear hb3
          go_wp2_with fail
          refine (tIsName_any _ _ (sz33 ha) (HS.out.later HB3.out)).mono ?_
          rintro e w4 ⟨rfl, hb4⟩
          have HB4 := Lib.hid (below_later hb4 HB3.out)
          rw [HNM.out.2]
          clear hb4
          go_wp2_with fail
          go_ret
          exact Makes.mk rfl HB4.out
end Go.Proofs.YtenbecjnlgmkeaaDoor
