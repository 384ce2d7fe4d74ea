
/- The walk of the statement ParseTypes. -/
import Derived.Test.YtnhdbjhdmdefmaaDoorYj
import Derived.Test.YtnhdbjhdmdefmaaDoorYh
import Derived.ArgAppend
import Derived.Lib.AppendStr
import Derived.Deep.DeepCutAuto
import Derived.Deep.CutBlock
namespace Culp.Gr
set_option linter.unusedSimpArgs false
set_option linter.unusedVariables false
open Go Go.RowKit Culp Culp.Tr Go.Proofs.YtnhdbjhdmdefmaaDoor
theorem readAll_pos {α : Type} {spec : List Tok → Except Nat (α × Nat × List Nat)} {l : List UInt8} {x : Nat × (Nat × Nat)} (h : readAll spec l = .error x) : 0 < x.1 := by
  unfold readAll at h
  split at h
  · rename_i e he
    injection h with h; subst h
    exact Tx.toks_pos he
  · exact fin_pos h
theorem lit_cell (w : World) (C : List Value) (e : TypeId) (z : Nat × Nat) (j : Nat) (u : Value) (h : C[j]? = some u) : (w.alloc (.cells C.toArray e z)).cell? ((⟨w.heap.size, 0, none⟩ : Addr).add j) = some u := by
  have hh := (MapKept.heap_alloc w (.cells C.toArray e z)).1
  rw [Addr.add_lit, Nat.zero_add]
  simp only [World.cell?, hh]
  simpa using h
theorem bytes_news {w : World} {b o : Nat} {s : ByteArray} (h : Lib.Bytes w b o s) (j : Nat) (u : Value) (hj : (s.data.toList.map byteV)[j]? = some u) : w.cell? ((⟨b, o, none⟩ : Addr).add j) = some u := by
  rw [Addr.add_lit]
  rw [List.getElem?_map, Option.map_eq_some_iff] at hj
  obtain ⟨x, hx, rfl⟩ := hj
  obtain ⟨h1, h2⟩ := List.getElem?_eq_some_iff.1 hx
  have h1' : j < s.size := h1
  rw [h j h1', ← h2]
  rfl
theorem byteV_one (l : List UInt8) : ∀ u ∈ l.map byteV, u.oneCell' = true := fun u hu => by
  obtain ⟨x, _, rfl⟩ := List.mem_map.1 hu
  rfl
theorem own_bytesV {w : World} {base n : Nat} {v : Value} {l : List UInt8} (h : w.ownsRow base 5 1 v n (l.map byteV)) (hn : n = l.length) : BytesV w v (bs l) := by
  subst hn
  rcases h.2 with ⟨rfl, h0⟩ | ⟨g, cap, cur, rfl, hb, hh, hc, _, hsz, htk⟩
  · have : l = [] := List.eq_nil_of_length_eq_zero h0
    subst this
    exact ⟨none, 0, rfl, Nat.le_refl _, fun h => absurd h (Nat.lt_irrefl _)⟩
  · refine ⟨_, cap, rfl, hc, fun _ => ⟨g, 0, rfl, fun i hi => ?_⟩⟩
    have hi' : i < l.length := hi
    rw [Nat.zero_add, h.cellAt i (by omega), List.getElem?_map, List.getElem?_eq_getElem hi']
    rfl
theorem strCells_map (l : List UInt8) : Lib.strCells (bs l) = l.map byteV := rfl
theorem grown_from {w w1 w2 : World} {v : Value} {base n : Nat} {ty : TypeId} {xs : List Value} (h : Below w.heap.size w w1) (hr : w1.ownsRow base ty 1 v n xs) (hb : w.heap.size ≤ base) (hg : w1.grownBy w2 v.ownBlock) : Below w.heap.size w w2 := h.grown hg h.size fun k hk => by
  have := (own_has hr hk).2
  omega
end Culp.Gr
namespace Go.Proofs.YtnhdbjhdmdefmaaDoor
set_option linter.unusedSimpArgs false
set_option linter.unusedVariables false
open Go.RowKit Culp Culp.Tr Culp.Gr
theorem u8_infop : (Tryd.prog.info? 5).map (fun i => (i.zero, i.size, i.bytes)) = some (some (.int .u8 0), 1, 1) := by kernel_rfl
set_option maxRecDepth 100000 in
set_option maxHeartbeats 6400000 in
theorem ParseTypes_any (s : ByteArray) (v : Value) (w : World) (hb : BytesV w v s) (hS : Sp w) : Calls Tryd.prog 4 #[v] w (Makes (.bool true) w) := by
  obtain ⟨ui, e1, e2, e3, e4⟩ := info_parts u8_infop
  have hsl := size_list s
  have HS := Lib.hid hS
  have HBV := Lib.hid hb
  have HWK := Lib.hid (pworks6_any w hS)
  obtain ⟨A, c, rfl, hc, hA⟩ := hb
  clear hS
  go_enter Tryd.func4, Tryd.ntmps4
  go_wp2_with fail
  refine HWK.out.mono ?_
  rintro E w1 ⟨rfl, hb1⟩
  have HB1 := Lib.hid hb1
  clear HWK hb1
  by_cases hl : s.size ≤ 4096
  · have HT := Lib.hid (type_any s _ w1 (HBV.out.later HB1.out) (by omega) (HS.out.later HB1.out) (fun _ => Tx.toks_pos) (fun _ => Tx.toks_fine))
    have hq : ¬ (4096 : Int) < (s.size : Int) := by omega
    go_wp2_with fail
    refine HT.out.mono ?_
    clear HT
    rintro E w2 ⟨hb2, hr⟩
    cases ho : readAll (fun L => whole L 0 []) s.data.toList with
    | error x =>
      obtain ⟨x, p⟩ := x
      rw [ho] at hr
      simp only at hr
      subst hr
      have hx := readAll_pos ho
      simp only at hx
      have ex : (((x : Nat) : Int) != 0) = true := bne_iff_ne.2 (by omega)
      have HBE : Hid (∀ o, Below w.heap.size w (w2.alloc o)) := Lib.hid fun o => below_later ((Below.refl _ _).alloc (Nat.le_refl _) _) (below_later hb2 HB1.out)
      clear ho hx hb2 HBV hA HB1
      go_wp2_with fail
      go_ret
      exact Makes.mk rfl (HBE.out _)
    | ok t =>
      rw [ho] at hr
      simp only at hr
      subst hr
      obtain ⟨L, hL, hw, ht⟩ := read_type ho
      have hLl := (whole_bound hw).1
      have hLf := (Tx.toks_fineF _ _ _ _ (Nat.le_refl _) (Tx.toks_inv hL).2).1
      have hpos : 0 < s.size := by simp only at hLl; omega
      obtain ⟨b, o, rfl, hB⟩ := hA hpos
      have HBY := Lib.hid hB
      obtain ⟨law1, f, fa, fb, law2, hfl, hat⟩ := types_law (by rw [hsl]; exact hl) ho
      have hTt : ∃ T : Ty, by_ t = T.str ∧ T.fits := by
        obtain ⟨q, hty, hq0⟩ := bnd_inv hw
        obtain ⟨T, hT⟩ := ty_enc _ _ _ _ hty
        injection hq0 with hq0
        have h1 : q.1 = t := congrArg Prod.fst hq0
        refine ⟨T, by rw [← h1, hT]; rfl, ?_⟩
        show T.enc.length ≤ 64
        rw [← hT, h1]; exact ht
      obtain ⟨T, hTs, hTf⟩ := hTt
      have hba : Below w2.heap.size w2 (w2.alloc (.cells #[.int .i64 0, .int .i64 0] 25)) := (Below.refl _ _).alloc (Nat.le_refl _) _
      have HBW := Lib.hid (below_later hba (below_later hb2 HB1.out))
      have HL1 := Lib.hid law1
      have HL2 := Lib.hid law2
      have HFL := Lib.hid hfl
      rw [hTs] at hat ⊢
      have HAT := Lib.hid hat
      clear hLl hLf hw hL ho hB hat hfl law1 law2 hA HBV HB1 hb2 hba ht
      have HTS := Lib.hid hTs
      clear hTs
      have hts : T.str.size ≤ 64 := by rw [str_size]; exact hTf
      go_wp2_with fail
      refine (Check_yes T hTf _).mono ?_
      rintro E w' ⟨rfl, rfl⟩
      generalize w2.alloc (.cells #[.int .i64 0, .int .i64 0] 25) = W1 at *
      have hcv := hconst W1 #[.int .u8 40, .int .u8 40] 2 2
      have hBW : Lib.Bytes (W1.alloc (.cells #[.int .u8 40, .int .u8 40] 5 (2, 2 + 1))) b o s := bytes_later HBY.out (HBW.out.trans (((Below.refl W1.heap.size W1).alloc (Nat.le_refl _) _).mono HBW.out.size))
      go_wp2_with (at_builtin; refine wpList_append_grows _ rfl (.tmp 41) (.tmp 42) 31 rfl 5 ui (.int .u8 0) 1 1 Tryd.underlying31 e1 e2 e3 e4 rfl (by decide) (some ⟨W1.heap.size, 0, none⟩) 2 2 [.int .u8 40, .int .u8 40] rfl (fun h => by cases h) rfl ?_ ⟨b, o, none⟩ s.size c (s.data.toList.map byteV) rfl ?_ (bytes_news hBW) (byteV_one _) ?_ ?_ ?_ ?_)
      · intro b' hb' j u hj
        cases hb'
        exact lit_cell W1 [.int .u8 40, .int .u8 40] _ _ j u hj
      · rw [List.length_map]; show s.data.size = s.size * 1; rw [Nat.mul_one]; rfl
      · omega
      · unfold maxLen; omega
      · omega
      intro v1 w3 hown hg
      obtain ⟨A1, c1, rfl⟩ := own_shape hown
      have hba : Below W1.heap.size W1 (W1.alloc (.cells #[.int .u8 40, .int .u8 40] 5 (2, 2 + 1))) := (Below.refl _ _).alloc (Nat.le_refl _) _
      have HBX : Hid (Below W1.heap.size W1 w3) := Lib.hid (below_later (grown_below hg) hba)
      have hsz3 : W1.heap.size ≤ w3.heap.size := HBX.out.size
      have hsy : W1.heap.size + 1 ≤ w3.heap.size := by have h9 := hg.size; simp only [World.size_alloc] at h9; exact h9
      try rw [World.size_alloc] at hown
      clear hcv hBW hg hba
      go_wp2_with (at_builtin; refine Lib.wpList_append_own_string _ rfl (.tmp 44) (.const (.string { data := #[10, 41, 32, 41] })) 31 9 rfl (W1.heap.size + 1) 5 ui Tryd.underlying31 Tryd.underlying9 e1 e2 e3 e4 _ _ _ rfl hown _ rfl ?_ ?_ hsy ?_)
      · show 2 + s.size + 4 ≤ maxLen; unfold maxLen; omega
      · show 2 + s.size + 4 ≤ 140737488355328; omega
      rintro v2 w4 hown2 hg2 -
      have HBZ : Hid (Below W1.heap.size W1 w4) := Lib.hid (grown_from HBX.out hown (by omega) hg2)
      have ec : (40 :: 40 :: (s.data.toList ++ 10 :: [41, 32, 41])).map byteV = [.int .u8 40, .int .u8 40] ++ (s.data.toList.map byteV ++ Lib.strCells { data := #[10, 41, 32, 41] }) := by rw [show Lib.strCells { data := #[10, 41, 32, 41] } = ([10, 41, 32, 41] : List UInt8).map byteV from rfl]; simp [byteV]
      have hby : BytesV w4 v2 (bs (40 :: 40 :: (s.data.toList ++ 10 :: [41, 32, 41]))) := own_bytesV (n := 2 + s.size + 4) (by rw [ec]; exact hown2) (by simp; omega)
      clear hown hown2 hg2 HBX ec
      have HBW4 := Lib.hid (below_later HBZ.out HBW.out)
      have HT := Lib.hid (type_any (bs (40 :: 40 :: (s.data.toList ++ 10 :: [41, 32, 41]))) v2 w4 hby (by rw [bs_size]; simp; omega) (HS.out.later HBW4.out) (fun _ => Tx.toks_pos) (fun _ => Tx.toks_fine))
      clear hby HBZ HBW
      go_wp2_with fail
      refine HT.out.mono ?_
      clear HT
      rintro E w5 ⟨hb5, hr⟩
      rw [bs_list, HL1.out] at hr
      simp only at hr
      rw [HTS.out] at hr
      subst hr
      have hba : Below w5.heap.size w5 (w5.alloc (.cells #[.int .i64 0, .int .i64 0] 25)) := (Below.refl _ _).alloc (Nat.le_refl _) _
      have HBW := Lib.hid (below_later hba (below_later hb5 HBW4.out))
      clear hba hb5 HBW4
      go_upto_region 11 with fail
      generalize w5.alloc (.cells #[.int .i64 0, .int .i64 0] 25) = W5 at *
      have hcv := hconst W5 #[.int .u8 40, .int .u8 120, .int .u8 58] 3 3
      have hBW : Lib.Bytes (W5.alloc (.cells #[.int .u8 40, .int .u8 120, .int .u8 58] 5 (3, 3 + 1))) b o s := bytes_later HBY.out (HBW.out.trans (((Below.refl W5.heap.size W5).alloc (Nat.le_refl _) _).mono HBW.out.size))
      go_wp2_with (at_builtin; refine wpList_append_grows _ rfl (.tmp 53) (.tmp 54) 31 rfl 5 ui (.int .u8 0) 1 1 Tryd.underlying31 e1 e2 e3 e4 rfl (by decide) (some ⟨W5.heap.size, 0, none⟩) 3 3 [.int .u8 40, .int .u8 120, .int .u8 58] rfl (fun h => by cases h) rfl ?_ ⟨b, o, none⟩ s.size c (s.data.toList.map byteV) rfl ?_ (bytes_news hBW) (byteV_one _) ?_ ?_ ?_ ?_)
      · intro b' hb' j u hj
        cases hb'
        exact lit_cell W5 [.int .u8 40, .int .u8 120, .int .u8 58] _ _ j u hj
      · rw [List.length_map]; show s.data.size = s.size * 1; rw [Nat.mul_one]; rfl
      · omega
      · unfold maxLen; omega
      · omega
      intro v1 w6 hown hg
      obtain ⟨A1, c1, rfl⟩ := own_shape hown
      have hba : Below W5.heap.size W5 (W5.alloc (.cells #[.int .u8 40, .int .u8 120, .int .u8 58] 5 (3, 3 + 1))) := (Below.refl _ _).alloc (Nat.le_refl _) _
      have HBX : Hid (Below W5.heap.size W5 w6) := Lib.hid (below_later (grown_below hg) hba)
      have hsz6 : W5.heap.size ≤ w6.heap.size := HBX.out.size
      have hsy : W5.heap.size + 1 ≤ w6.heap.size := by have h9 := hg.size; simp only [World.size_alloc] at h9; exact h9
      try rw [World.size_alloc] at hown
      clear hcv hBW hg hba
      go_wp2_with (at_builtin; refine Lib.wpList_append_own_string _ rfl (.tmp 56) (.const (.string { data := #[10, 41] })) 31 9 rfl (W5.heap.size + 1) 5 ui Tryd.underlying31 Tryd.underlying9 e1 e2 e3 e4 _ _ _ rfl hown _ rfl ?_ ?_ hsy ?_)
      · show 3 + s.size + 2 ≤ maxLen; unfold maxLen; omega
      · show 3 + s.size + 2 ≤ 140737488355328; omega
      rintro v2 w7 hown2 hg2 -
      have HBZ : Hid (Below W5.heap.size W5 w7) := Lib.hid (grown_from HBX.out hown (by omega) hg2)
      have ec : (40 :: 120 :: 58 :: (s.data.toList ++ 10 :: [41])).map byteV = [.int .u8 40, .int .u8 120, .int .u8 58] ++ (s.data.toList.map byteV ++ Lib.strCells { data := #[10, 41] }) := by rw [show Lib.strCells { data := #[10, 41] } = ([10, 41] : List UInt8).map byteV from rfl]; simp [byteV]
      have hby : BytesV w7 v2 (bs (40 :: 120 :: 58 :: (s.data.toList ++ 10 :: [41]))) := own_bytesV (n := 3 + s.size + 2) (by rw [ec]; exact hown2) (by simp; omega)
      clear hown hown2 hg2 HBX ec
      have HBW7 := Lib.hid (below_later HBZ.out HBW.out)
      have HT := Lib.hid (readExpr_any (bs (40 :: 120 :: 58 :: (s.data.toList ++ 10 :: [41]))) v2 w7 hby (by rw [bs_size]; simp; omega) (HS.out.later HBW7.out))
      clear hby HBZ HBW
      go_wp2_with fail
      refine HT.out.mono ?_
      clear HT
      rintro E w8 ⟨hb8, hr⟩
      rw [bs_list, HL2.out] at hr
      obtain ⟨v8, rfl, hown8⟩ := hr
      rw [HFL.out] at hown8
      have hba : Below w8.heap.size w8 (w8.alloc (.cells #[.int .i64 0, .int .i64 0] 25)) := (Below.refl _ _).alloc (Nat.le_refl _) _
      have HBE := Lib.hid (below_later hba (below_later hb8 HBW7.out))
      have hN := own_nds (own_later hown8 hba) rfl
      obtain ⟨A8, c8, rfl⟩ := own_shape hown8
      obtain ⟨b8, o8, rfl, hat8⟩ := nodes_get (i := 0) hN rfl
      obtain ⟨-, -, -, -, k4, -, -, -⟩ := hat8.at_ (i := 0) rfl
      rw [HAT.out, Nat.zero_mul, Nat.add_zero] at k4
      simp only [List.length_cons, List.length_nil] at *
      clear hown8 hba hb8 hN hat8 HBW7
      go_wp2_with fail
      go_ret
      exact Makes.mk rfl HBE.out
  · have hq : (4096 : Int) < (s.size : Int) := by omega
    clear HBV hA
    go_wp2_with fail
    go_ret
    exact Makes.mk rfl HB1.out
end Go.Proofs.YtnhdbjhdmdefmaaDoor
