
/- The walk of the statement ParseAround. -/
import Derived.Test.YtnhdbjhdmdefmaaDoorYm
import Derived.Test.YtnhdbjhdmdefmaaDoorYk
import Derived.Test.YtnhdbjhdmdefmaaDoorHa
namespace Go.Proofs.YtnhdbjhdmdefmaaDoor
set_option linter.unusedSimpArgs false
set_option linter.unusedVariables false
open Go.RowKit Culp Culp.Tr Culp.Gr
theorem exprOf_pos {l : List UInt8} {x : Nat × (Nat × Nat)} (h : exprOf l = .error x) : 0 < x.1 := by
  unfold exprOf at h
  split at h
  · rename_i e he
    injection h with h; subst h
    exact readAll_pos he
  · split at h
    · injection h with h; subst h; exact Nat.succ_pos _
    · split at h
      · injection h with h; subst h; exact Nat.succ_pos _
      · cases h
theorem two_sum : ∀ (s a b : List UInt8), two s = some (a, b) → s.length = a.length + 1 + b.length
  | [], a, b, h => by cases h
  | c :: s, a, b, h => by
    rw [two] at h
    split at h
    · injection h with h
      injection h with h1 h2
      subst h1 h2
      simp; omega
    · simp only [Option.map_eq_some_iff] at h
      obtain ⟨⟨x, y⟩, h1, h2⟩ := h
      injection h2 with h2 h3
      subst h2 h3
      have := two_sum s x y h1
      simp; omega
theorem name_len {s : List UInt8} (h : Tx.isName s = true) : s.length ≤ 32 := by
  unfold Tx.isName at h
  simp only [Bool.and_eq_true, decide_eq_true_eq] at h
  exact h.1.1.1.2
theorem may_s {x : Nd} (h : may x = true) : x.s.size ≤ 70 := by
  have hl := size_list x.s
  unfold may at h
  simp only [Bool.and_eq_true] at h
  have h := h.1.1.2
  unfold sOk at h
  split at h
  · unfold Tx.quote at h
    split at h
    · cases h
    · omega
  split at h
  · have := name_len h; omega
  split at h
  · unfold twoOk at h
    split at h
    · cases h
    · rename_i a b hab
      simp only [Bool.and_eq_true] at h
      have h1 := name_len h.1
      have h2 := name_len h.2
      have h3 := two_sum _ _ _ hab
      omega
  · simp only [decide_eq_true_eq] at h
    rw [h] at hl
    simp at hl
    omega
theorem ok_kids : ∀ f : F, f.Ok → ∀ x ∈ f.flat, x.kids ≤ (f.flat.length : Int)
  | .nil, _, x, hx => by cases hx
  | .cons y ks r, h, x, hx => by
    have h1 := F.cnt_le ks
    have hx : x ∈ y :: (ks.flat ++ r.flat) := hx
    have hlen : (F.cons y ks r).flat.length = 1 + (ks.flat.length + r.flat.length) := by simp [F.flat]; omega
    rw [List.mem_cons, List.mem_append] at hx
    rcases hx with rfl | hx | hx
    · have := h.1; omega
    · have := ok_kids ks h.2.1 x hx; omega
    · have := ok_kids r h.2.2 x hx; omega
theorem like_all {f g : F} (h : un g = un f) : likeAll f.flat g.flat := un_like h
set_option maxRecDepth 100000 in
set_option maxHeartbeats 6400000 in
theorem ParseAround_any (s : ByteArray) (v : Value) (w : World) (hb : BytesV w v s) (hS : Sp w) : Calls Tryd.prog 5 #[v] w (Makes (.bool true) w) := by
  obtain ⟨ui, e1, e2, e3, e4⟩ := info_parts u8_infop
  have hsl := size_list s
  have HS := Lib.hid hS
  have HBV := Lib.hid hb
  have HWK := Lib.hid (pworks6_any w hS)
  obtain ⟨A, c, rfl, hc, hA⟩ := hb
  clear hS
  go_enter Tryd.func5, Tryd.ntmps5
  go_wp2_with fail
  refine HWK.out.mono ?_
  rintro E w1 ⟨rfl, hb1⟩
  have HB1 := Lib.hid hb1
  clear HWK hb1
  by_cases hl : s.size ≤ 4096
  · have HT := Lib.hid (readExpr_any s _ w1 (HBV.out.later HB1.out) (by omega) (HS.out.later HB1.out))
    have hq : ¬ (4096 : Int) < (s.size : Int) := by omega
    go_wp2_with fail
    refine HT.out.mono ?_
    clear HT
    rintro E w2 ⟨hb2, hr⟩
    cases ho : exprOf s.data.toList with
    | error x =>
      obtain ⟨x, p⟩ := x
      rw [ho] at hr
      simp only at hr
      subst hr
      have hx := exprOf_pos ho
      simp only at hx
      have ex : (((x : Nat) : Int) != 0) = true := bne_iff_ne.2 (by omega)
      have HBE : Hid (∀ o, Below w.heap.size w (w2.alloc o)) := Lib.hid fun o => below_later ((Below.refl _ _).alloc (Nat.le_refl _) _) (below_later hb2 HB1.out)
      clear ho hx hb2 HBV hA HB1
      go_wp2_with fail
      go_ret
      exact Makes.mk rfl (HBE.out _)
    | ok f =>
      rw [ho] at hr
      obtain ⟨v2, rfl, hown⟩ := hr
      obtain ⟨L, hL, hx, hf1, hf2⟩ := read_whole ho
      have hLl := (expr_bound hx (Nat.zero_le _)).2.1
      have hon := (expr_bound hx (Nat.zero_le _)).2.2.pos
      have hLf := (Tx.toks_fineF _ _ _ _ (Nat.le_refl _) (Tx.toks_inv hL).2).1
      have hpos : 0 < s.size := by simp only at hLl hon; omega
      obtain ⟨b, o, rfl, hB⟩ := hA hpos
      have HBY := Lib.hid hB
      obtain ⟨f1, law1, like1⟩ := around_expr (by rw [hsl]; exact hl) ho
      obtain ⟨f2, df, md, law2, hdf, htr, like2⟩ := around_mods (by rw [hsl]; exact hl) ho
      have HCH := Lib.hid (around_check ho)
      have HFINE := Lib.hid ((px_fine (Tx.toks_tkOk hL) _ _ _ _ _ hx (Nat.zero_le _) trivial).2 rfl fine_nil)
      have hba : Below w2.heap.size w2 (w2.alloc (.cells #[.int .i64 0, .int .i64 0] 25)) := (Below.refl _ _).alloc (Nat.le_refl _) _
      have HBW := Lib.hid (below_later hba (below_later hb2 HB1.out))
      have HN1 := Lib.hid (own_nds (own_later hown hba) rfl)
      have HL1 := Lib.hid law1
      have HL2 := Lib.hid law2
      have HK1 := Lib.hid (like_all like1)
      have HK2 := Lib.hid (like_all like2)
      have HDF := Lib.hid hdf
      have HTR := Lib.hid htr
      obtain ⟨A2, c2, rfl⟩ := own_shape hown
      clear hLl hLf hon hx hL ho hB hdf htr law1 law2 like1 like2 hA HBV HB1 hb2 hba hown
      go_upto_region 7 with fail
      generalize w2.alloc (.cells #[.int .i64 0, .int .i64 0] 25) = W1 at *
      have hcv := hconst W1 #[.int .u8 40, .int .u8 32, .int .u8 35, .int .u8 32, .int .u8 40, .int .u8 10, .int .u8 9] 7 7
      have hBW : Lib.Bytes (W1.alloc (.cells #[.int .u8 40, .int .u8 32, .int .u8 35, .int .u8 32, .int .u8 40, .int .u8 10, .int .u8 9] 5 (7, 7 + 1))) b o s := bytes_later HBY.out (HBW.out.trans (((Below.refl W1.heap.size W1).alloc (Nat.le_refl _) _).mono HBW.out.size))
      go_wp2_with (at_builtin; refine wpList_append_grows _ rfl (.tmp 37) (.tmp 38) 31 rfl 5 ui (.int .u8 0) 1 1 Tryd.underlying31 e1 e2 e3 e4 rfl (by decide) (some ⟨W1.heap.size, 0, none⟩) 7 7 [.int .u8 40, .int .u8 32, .int .u8 35, .int .u8 32, .int .u8 40, .int .u8 10, .int .u8 9] rfl (fun h => by cases h) rfl ?_ ⟨b, o, none⟩ s.size c (s.data.toList.map byteV) rfl ?_ (bytes_news hBW) (byteV_one _) ?_ ?_ ?_ ?_)
      · intro b' hb' j u hj
        cases hb'
        exact lit_cell W1 [.int .u8 40, .int .u8 32, .int .u8 35, .int .u8 32, .int .u8 40, .int .u8 10, .int .u8 9] _ _ j u hj
      · rw [List.length_map]; show s.data.size = s.size * 1; rw [Nat.mul_one]; rfl
      · omega
      · unfold maxLen; omega
      · omega
      intro v1 w3 hown hg
      obtain ⟨A1, c1, rfl⟩ := own_shape hown
      have hba : Below W1.heap.size W1 (W1.alloc (.cells #[.int .u8 40, .int .u8 32, .int .u8 35, .int .u8 32, .int .u8 40, .int .u8 10, .int .u8 9] 5 (7, 7 + 1))) := (Below.refl _ _).alloc (Nat.le_refl _) _
      have HBX : Hid (Below W1.heap.size W1 w3) := Lib.hid (below_later (grown_below hg) hba)
      have hsz3 : W1.heap.size ≤ w3.heap.size := HBX.out.size
      have hsy : W1.heap.size + 1 ≤ w3.heap.size := by have h9 := hg.size; simp only [World.size_alloc] at h9; exact h9
      try rw [World.size_alloc] at hown
      clear hcv hBW hg hba
      go_wp2_with (at_builtin; refine Lib.wpList_append_own_string _ rfl (.tmp 40) (.const (.string { data := #[10, 41] })) 31 9 rfl (W1.heap.size + 1) 5 ui Tryd.underlying31 Tryd.underlying9 e1 e2 e3 e4 _ _ _ rfl hown _ rfl ?_ ?_ hsy ?_)
      · show 7 + s.size + 2 ≤ maxLen; unfold maxLen; omega
      · show 7 + s.size + 2 ≤ 140737488355328; omega
      rintro v2 w4 hown2 hg2 -
      have HBZ : Hid (Below W1.heap.size W1 w4) := Lib.hid (grown_from HBX.out hown (by omega) hg2)
      have ec : (40 :: 32 :: 35 :: 32 :: 40 :: 10 :: 9 :: (s.data.toList ++ 10 :: [41])).map byteV = [.int .u8 40, .int .u8 32, .int .u8 35, .int .u8 32, .int .u8 40, .int .u8 10, .int .u8 9] ++ (s.data.toList.map byteV ++ Lib.strCells { data := #[10, 41] }) := by rw [show Lib.strCells { data := #[10, 41] } = ([10, 41] : List UInt8).map byteV from rfl]; simp [byteV]
      have hby : BytesV w4 v2 (bs (40 :: 32 :: 35 :: 32 :: 40 :: 10 :: 9 :: (s.data.toList ++ 10 :: [41]))) := own_bytesV (n := 7 + s.size + 2) (by rw [ec]; exact hown2) (by simp; omega)
      clear hown hown2 hg2 HBX ec
      have HBW4 := Lib.hid (below_later HBZ.out HBW.out)
      have HN4 := Lib.hid (HN1.out.later HBZ.out)
      have HT := Lib.hid (readExpr_any (bs (40 :: 32 :: 35 :: 32 :: 40 :: 10 :: 9 :: (s.data.toList ++ 10 :: [41]))) v2 w4 hby (by rw [bs_size]; simp; omega) (HS.out.later HBW4.out))
      clear hby HBZ HBW HN1
      go_wp2_with fail
      refine HT.out.mono ?_
      clear HT
      rintro E w5 ⟨hb5, hr⟩
      rw [bs_list, HL1.out] at hr
      obtain ⟨v5, rfl, hown5⟩ := hr
      have hba : Below w5.heap.size w5 (w5.alloc (.cells #[.int .i64 0, .int .i64 0] 25)) := (Below.refl _ _).alloc (Nat.le_refl _) _
      have HBW := Lib.hid (below_later hba (below_later hb5 HBW4.out))
      have HN5 := Lib.hid ((HN4.out.later hb5).later hba)
      have HM5 := Lib.hid (own_nds (own_later hown5 hba) rfl)
      obtain ⟨A5, c5, rfl⟩ := own_shape hown5
      clear hba hb5 HBW4 HN4 hown5
      go_upto_region 10 with fail
      generalize w5.alloc (.cells #[.int .i64 0, .int .i64 0] 25) = W5 at *
      have hcv := hconst W5 #[.int .u8 109, .int .u8 111, .int .u8 100, .int .u8 117, .int .u8 108, .int .u8 101, .int .u8 32, .int .u8 109, .int .u8 32, .int .u8 123, .int .u8 32, .int .u8 108, .int .u8 101, .int .u8 116, .int .u8 32, .int .u8 120, .int .u8 32, .int .u8 61, .int .u8 32] 19 19
      have hBW : Lib.Bytes (W5.alloc (.cells #[.int .u8 109, .int .u8 111, .int .u8 100, .int .u8 117, .int .u8 108, .int .u8 101, .int .u8 32, .int .u8 109, .int .u8 32, .int .u8 123, .int .u8 32, .int .u8 108, .int .u8 101, .int .u8 116, .int .u8 32, .int .u8 120, .int .u8 32, .int .u8 61, .int .u8 32] 5 (19, 19 + 1))) b o s := bytes_later HBY.out (HBW.out.trans (((Below.refl W5.heap.size W5).alloc (Nat.le_refl _) _).mono HBW.out.size))
      go_wp2_with (at_builtin; refine wpList_append_grows _ rfl (.tmp 49) (.tmp 50) 31 rfl 5 ui (.int .u8 0) 1 1 Tryd.underlying31 e1 e2 e3 e4 rfl (by decide) (some ⟨W5.heap.size, 0, none⟩) 19 19 [.int .u8 109, .int .u8 111, .int .u8 100, .int .u8 117, .int .u8 108, .int .u8 101, .int .u8 32, .int .u8 109, .int .u8 32, .int .u8 123, .int .u8 32, .int .u8 108, .int .u8 101, .int .u8 116, .int .u8 32, .int .u8 120, .int .u8 32, .int .u8 61, .int .u8 32] rfl (fun h => by cases h) rfl ?_ ⟨b, o, none⟩ s.size c (s.data.toList.map byteV) rfl ?_ (bytes_news hBW) (byteV_one _) ?_ ?_ ?_ ?_)
      · intro b' hb' j u hj
        cases hb'
        exact lit_cell W5 [.int .u8 109, .int .u8 111, .int .u8 100, .int .u8 117, .int .u8 108, .int .u8 101, .int .u8 32, .int .u8 109, .int .u8 32, .int .u8 123, .int .u8 32, .int .u8 108, .int .u8 101, .int .u8 116, .int .u8 32, .int .u8 120, .int .u8 32, .int .u8 61, .int .u8 32] _ _ j u hj
      · rw [List.length_map]; show s.data.size = s.size * 1; rw [Nat.mul_one]; rfl
      · omega
      · unfold maxLen; omega
      · omega
      intro v1 w6 hown hg
      obtain ⟨A1, c1, rfl⟩ := own_shape hown
      have hba : Below W5.heap.size W5 (W5.alloc (.cells #[.int .u8 109, .int .u8 111, .int .u8 100, .int .u8 117, .int .u8 108, .int .u8 101, .int .u8 32, .int .u8 109, .int .u8 32, .int .u8 123, .int .u8 32, .int .u8 108, .int .u8 101, .int .u8 116, .int .u8 32, .int .u8 120, .int .u8 32, .int .u8 61, .int .u8 32] 5 (19, 19 + 1))) := (Below.refl _ _).alloc (Nat.le_refl _) _
      have HBX : Hid (Below W5.heap.size W5 w6) := Lib.hid (below_later (grown_below hg) hba)
      have hsz6 : W5.heap.size ≤ w6.heap.size := HBX.out.size
      have hsy : W5.heap.size + 1 ≤ w6.heap.size := by have h9 := hg.size; simp only [World.size_alloc] at h9; exact h9
      try rw [World.size_alloc] at hown
      clear hcv hBW hg hba
      go_wp2_with (at_builtin; refine Lib.wpList_append_own_string _ rfl (.tmp 52) (.const (.string { data := #[10, 59, 32, 125] })) 31 9 rfl (W5.heap.size + 1) 5 ui Tryd.underlying31 Tryd.underlying9 e1 e2 e3 e4 _ _ _ rfl hown _ rfl ?_ ?_ hsy ?_)
      · show 19 + s.size + 4 ≤ maxLen; unfold maxLen; omega
      · show 19 + s.size + 4 ≤ 140737488355328; omega
      rintro v2 w7 hown2 hg2 -
      have HBZ : Hid (Below W5.heap.size W5 w7) := Lib.hid (grown_from HBX.out hown (by omega) hg2)
      have ec : (109 :: 111 :: 100 :: 117 :: 108 :: 101 :: 32 :: 109 :: 32 :: 123 :: 32 :: 108 :: 101 :: 116 :: 32 :: 120 :: 32 :: 61 :: 32 :: (s.data.toList ++ 10 :: [59, 32, 125])).map byteV = [.int .u8 109, .int .u8 111, .int .u8 100, .int .u8 117, .int .u8 108, .int .u8 101, .int .u8 32, .int .u8 109, .int .u8 32, .int .u8 123, .int .u8 32, .int .u8 108, .int .u8 101, .int .u8 116, .int .u8 32, .int .u8 120, .int .u8 32, .int .u8 61, .int .u8 32] ++ (s.data.toList.map byteV ++ Lib.strCells { data := #[10, 59, 32, 125] }) := by rw [show Lib.strCells { data := #[10, 59, 32, 125] } = ([10, 59, 32, 125] : List UInt8).map byteV from rfl]; simp [byteV]
      have hby : BytesV w7 v2 (bs (109 :: 111 :: 100 :: 117 :: 108 :: 101 :: 32 :: 109 :: 32 :: 123 :: 32 :: 108 :: 101 :: 116 :: 32 :: 120 :: 32 :: 61 :: 32 :: (s.data.toList ++ 10 :: [59, 32, 125]))) := own_bytesV (n := 19 + s.size + 4) (by rw [ec]; exact hown2) (by simp; omega)
      clear hown hown2 hg2 HBX ec
      have HBW7 := Lib.hid (below_later HBZ.out HBW.out)
      have HN7 := Lib.hid (HN5.out.later HBZ.out)
      have HM7 := Lib.hid (HM5.out.later HBZ.out)
      have HT := Lib.hid (readMods_any (bs (109 :: 111 :: 100 :: 117 :: 108 :: 101 :: 32 :: 109 :: 32 :: 123 :: 32 :: 108 :: 101 :: 116 :: 32 :: 120 :: 32 :: 61 :: 32 :: (s.data.toList ++ 10 :: [59, 32, 125]))) v2 w7 hby (by rw [bs_size]; simp; omega) (HS.out.later HBW7.out))
      clear hby HBZ HBW HN5 HM5
      go_wp2_with fail
      refine HT.out.mono ?_
      clear HT
      rintro E w8 ⟨hb8, hr⟩
      rw [bs_list, HL2.out] at hr
      obtain ⟨v8, ps8, rfl, hmd⟩ := hr
      have hmods := hmd.mods
      have hba : Below w8.heap.size w8 (w8.alloc (.cells #[.int .i64 0, .int .i64 0] 25)) := (Below.refl _ _).alloc (Nat.le_refl _) _
      have hrow := hmd.row
      rw [show ([md] : List Md).length = 1 from rfl] at hrow
      obtain ⟨A8, c8, rfl⟩ := own_shape hrow
      have HBW8 := Lib.hid (below_later hba (below_later hb8 HBW7.out))
      have HN8 := Lib.hid ((HN7.out.later hb8).later hba)
      have HM8 := Lib.hid ((HM7.out.later hb8).later hba)
      have HD8 := Lib.hid (hmods.later hba)
      have HCK := Lib.hid (tCheck_any f.flat _ _ HN8.out (HS.out.later HBW8.out) (fun x hx => by
        have := may_s (HFINE.out.2 x hx)
        omega) (fun x hx => by
        have := ok_kids _ HFINE.out.1 x hx
        omega))
      clear hba hb8 HBW7 HN7 HM7 hmods hmd hrow
      go_wp2_with fail
      refine HCK.out.mono ?_
      rintro E w9 ⟨rfl, hb9⟩
      rw [HCH.out]
      have HBW9 := Lib.hid (below_later hb9 HBW8.out)
      have hD9 := HD8.out.later hb9
      have HE1 := Lib.hid (tEqual_any f.flat f1.flat _ _ _ (HN8.out.later hb9) (HM8.out.later hb9) (by omega) (by rw [← HK1.out.1]; omega))
      obtain ⟨b8, o8, iv, dv, rfl, ⟨-, -, m2, -, -⟩, -, hdd⟩ := hD9.at_ (i := 0) (by simp)
      rw [Nat.zero_mul, Nat.add_zero] at m2
      rw [show ([md] : List Md)[0] = md from rfl, HDF.out] at hdd
      obtain ⟨Ad, cd, rfl⟩ := hdd.form
      replace m2 : _ = some (Value.slice Ad 1 cd) := m2
      obtain ⟨b7, o7, tv, rfl, ⟨-, -, -, q3, -, -⟩, htn⟩ := hdd.at_ (i := 0) (by simp)
      rw [Nat.zero_mul, Nat.add_zero] at q3
      rw [show ([df] : List Df)[0] = df from rfl, HTR.out] at htn
      replace q3 : _ = some tv := q3
      obtain ⟨At, ct, rfl⟩ := htn.form
      have HN9 := Lib.hid (HN8.out.later hb9)
      have HTN := Lib.hid htn
      have hlf2 : f2.flat.length ≤ 100000000000 := by rw [← HK2.out.1]; omega
      clear hb9 HCK HCH HFINE HBW8 HN8 HM8 HD8 hD9 hdd htn
      go_wp2_with fail
      refine HE1.out.mono ?_
      rintro E w10 ⟨⟨bb, rfl, hbb⟩, hb10⟩
      obtain rfl := hbb.2 HK1.out
      have m2 := cell_later hb10 m2
      have q3 := cell_later hb10 q3
      have HBW10 := Lib.hid (below_later hb10 HBW9.out)
      have HE2 := Lib.hid (tEqual_any f.flat f2.flat _ _ _ (HN9.out.later hb10) (HTN.out.later hb10) (by omega) hlf2)
      clear hbb hb10 HE1 HBW9 HN9 HTN
      go_wp2_with fail
      refine HE2.out.mono ?_
      rintro E w11 ⟨⟨bb, rfl, hbb⟩, hb11⟩
      obtain rfl := hbb.2 HK2.out
      have HBE := Lib.hid (below_later hb11 HBW10.out)
      clear hbb hb11 HE2 HBW10 m2 q3
      go_wp2_with fail
      go_ret
      exact Makes.mk rfl HBE.out
  · have hq : (4096 : Int) < (s.size : Int) := by omega
    clear HBV hA
    go_wp2_with fail
    go_ret
    exact Makes.mk rfl HB1.out
end Go.Proofs.YtnhdbjhdmdefmaaDoor
