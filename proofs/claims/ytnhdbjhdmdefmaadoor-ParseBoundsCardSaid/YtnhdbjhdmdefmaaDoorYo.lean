
/- Plain: the limits, source by source. No program in sight. -/
import Derived.Test.YtnhdbjhdmdefmaaDoorYm
namespace Culp.Gr
set_option linter.unusedSimpArgs false
set_option linter.unusedVariables false
open Culp Culp.Tr
def repB (s : List UInt8) (n : Nat) : List UInt8 := (List.replicate n s).flatten
/-- What is told of a source read as an expression; as modules. -/
def outE (l : List UInt8) : Nat × (Int × Int) := match exprOf l with
  | .ok _ => (0, (0, 0))
  | .error (e, p) => (e, (p.1, p.2))
def outM (l : List UInt8) : Nat × (Int × Int) := match modsOf l with
  | .ok _ => (0, (0, 0))
  | .error (e, p) => (e, p)
def modB : List UInt8 := [109, 111, 100, 117, 108, 101, 32, 109, 32, 123, 125]
def impB : List UInt8 := [105, 109, 112, 111, 114, 116, 32, 97, 46, 98, 59]
def boxB : List UInt8 := [98, 111, 120, 32]
def headB : List UInt8 := [109, 111, 100, 117, 108, 101, 32, 109, 32, 123]
def letB : List UInt8 := [109, 111, 100, 117, 108, 101, 32, 109, 32, 123, 108, 101, 116, 32, 120, 61]
theorem bound1 : outE (repB [45] 63 ++ [49]) = (0, (0, 0)) := by kernel_rfl
theorem bound2 : outE (32 :: (repB [45] 64 ++ [49])) = (16, (1, 2)) := by kernel_rfl
theorem bound5 : outE ([40, 120, 32, 58, 32] ++ (repB boxB 63 ++ [105, 110, 116, 41])) = (0, (0, 0)) := by kernel_rfl
theorem bound6 : outE ([40, 120, 32, 58, 32] ++ (repB boxB 64 ++ [105, 110, 116, 41])) = (21, (1, 6)) := by kernel_rfl
theorem bound7 : outM (repB modB 8) = (0, (0, 0)) := by kernel_rfl
theorem bound8 : outM (repB modB 9) = (17, (1, 96)) := by kernel_rfl
theorem bound9 : outM (headB ++ (repB impB 63 ++ [108, 101, 116, 32, 120, 61, 49, 59, 125])) = (0, (0, 0)) := by kernel_rfl
theorem bound10 : outM (headB ++ (repB impB 64 ++ [108, 101, 116, 32, 120, 61, 49, 59, 125])) = (17, (1, 719)) := by kernel_rfl
theorem bound12 : outM (letB ++ (repB [45] 64 ++ [49, 59, 125])) = (16, (1, 15)) := by kernel_rfl
/-- A list of noughts. -/
def zs (c : Nat) : Nat → List Tok
  | 0 => [(⟨5, 0, [93]⟩, (1, c))]
  | n + 1 => (⟨5, 0, [44]⟩, (1, c)) :: (⟨3, 0, []⟩, (1, c + 1)) :: zs (c + 2) n
def wd (c n : Nat) : List Tok := (⟨5, 0, [91]⟩, (1, c)) :: (⟨3, 0, []⟩, (1, c + 1)) :: zs (c + 2) n
theorem zs_len : ∀ n c, (zs c n).length = 2 * n + 1
  | 0, c => rfl
  | n + 1, c => by simp only [zs, List.length_cons, zs_len n]; omega
theorem zs_head : ∀ n c, ∃ s : List UInt8, (s = [44] ∨ s = [93]) ∧ (zs c n)[0]? = some (⟨5, 0, s⟩, (1, c))
  | 0, c => ⟨[93], .inr rfl, rfl⟩
  | n + 1, c => ⟨[44], .inl rfl, rfl⟩
theorem repB_succ (s : List UInt8) (n : Nat) : repB s (n + 1) = s ++ repB s n := by
  unfold repB
  rw [List.replicate_succ, List.flatten_cons]
theorem one_close (z : List UInt8) : Tx.one (93 :: z) = .ok (⟨5, 0, [93]⟩, 1) := by
  cases z with
  | nil => rfl
  | cons d z =>
    have hm : Tx.mark (93 :: d :: z) = [93] := by
      rw [Tx.mark, if_neg (by simp [Tx.marks2]), if_pos (by decide)]
    rw [Tx.one, if_neg (by decide), if_neg (by decide), if_neg (by decide), hm, if_neg (by decide)]
    rfl
theorem one_zero {z : List UInt8} {d : UInt8} (hd : d = 44 ∨ d = 93) : Tx.one (48 :: d :: z) = .ok (⟨3, 0, []⟩, 1) := by
  rcases hd with rfl | rfl <;> rfl
theorem rep_head (n : Nat) (R : List UInt8) : ∃ d z, repB [44, 48] n ++ 93 :: R = d :: z ∧ (d = 44 ∨ d = 93) := by
  cases n with
  | zero => exact ⟨93, R, rfl, .inr rfl⟩
  | succ n => exact ⟨44, _, by rw [repB_succ]; rfl, .inl rfl⟩
theorem zs_toks : ∀ (n c : Nat) (R : List UInt8) (M : List Tok), Tx.toksAt (1, c + 2 * n + 1) R = .ok M → Tx.toksAt (1, c) (repB [44, 48] n ++ 93 :: R) = .ok (zs c n ++ M)
  | 0, c, R, M, h => Tx.toksAt_at (p := (1, c)) (l := 93 :: R) (k := 0) (n := 1) rfl (one_close R) rfl (by simp) rfl h
  | n + 1, c, R, M, h => by
    have h1 := zs_toks n (c + 2) R M (by rw [show c + 2 + 2 * n + 1 = c + 2 * (n + 1) + 1 by omega]; exact h)
    obtain ⟨d, z, hz, hd⟩ := rep_head n R
    rw [repB_succ]
    show Tx.toksAt (1, c) (44 :: 48 :: (repB [44, 48] n ++ 93 :: R)) = _
    have h2 := Tx.toksAt_at (p := (1, c + 1)) (l := 48 :: (repB [44, 48] n ++ 93 :: R)) (t := ⟨3, 0, []⟩) (k := 0) (n := 1) rfl (by rw [hz]; exact one_zero hd) rfl (by simp) rfl h1
    exact Tx.toksAt_at (p := (1, c)) (l := 44 :: 48 :: (repB [44, 48] n ++ 93 :: R)) (t := ⟨5, 0, [44]⟩) (k := 0) (n := 1) rfl rfl rfl (by simp) rfl h2
theorem wd_toks (n c : Nat) (R : List UInt8) (M : List Tok) (h : Tx.toksAt (1, c + 2 + 2 * n + 1) R = .ok M) : Tx.toksAt (1, c) (91 :: 48 :: (repB [44, 48] n ++ 93 :: R)) = .ok (wd c n ++ M) := by
  have h1 := zs_toks n (c + 2) R M h
  obtain ⟨d, z, hz, hd⟩ := rep_head n R
  have h2 := Tx.toksAt_at (p := (1, c + 1)) (l := 48 :: (repB [44, 48] n ++ 93 :: R)) (t := ⟨3, 0, []⟩) (k := 0) (n := 1) rfl (by rw [hz]; exact one_zero hd) rfl (by simp) rfl h1
  exact Tx.toksAt_at (p := (1, c)) (l := 91 :: 48 :: (repB [44, 48] n ++ 93 :: R)) (t := ⟨5, 0, [91]⟩) (k := 0) (n := 1) rfl rfl rfl (by simp) rfl h2
/-- Numbers, one behind the other. -/
def nums (c : Nat) : Nat → F
  | 0 => .nil
  | n + 1 => .cons (mkNd 1 (1, c) 0 0 [] [] []) .nil (nums (c + 2) n)
theorem nums_len : ∀ n c, (nums c n).flat.length = n ∧ (nums c n).cnt = n ∧ (nums c n).Ok ∧ (nums c n).hgt ≤ 1
  | 0, c => ⟨rfl, rfl, trivial, Nat.zero_le _⟩
  | n + 1, c => by
    obtain ⟨h1, h2, h3, h4⟩ := nums_len n (c + 2)
    refine ⟨?_, by simp only [nums, F.cnt, h2], ⟨rfl, trivial, h3⟩, ?_⟩
    · simp only [nums, F.flat, List.length_cons, List.nil_append, h1]
    · simp only [nums, F.hgt]; omega
theorem cat_nil : ∀ f : F, cat f .nil = f
  | .nil => rfl
  | .cons x ks r => by rw [cat, cat_nil r]
theorem cat_assoc : ∀ f g h : F, cat (cat f g) h = cat f (cat g h)
  | .nil, g, h => rfl
  | .cons x ks r, g, h => by simp only [cat, cat_assoc r g h]
section
variable {L : List Tok} {i k n : Nat} {lg lg' : List Nat} {f : F} {t : List UInt8} {p : Nat × Nat}
theorem bin1_atom (h2 : isM L [45] i = false) (h3 : isM L [33] i = false) (ha : px L (n + 1) .atom i lg = .ok (f, k, lg')) (h4 : isM L [40] k = false) (h6 : isK L 5 k = false ∨ (ranked (txt L k)).2 = 0) : px L (n + 5) (.bin 1) i lg = .ok (f, k, lg') := by
  have hbl : ∀ (q : Nat) (m : Nat), px L (m + 1) (.binl q f) k lg' = .ok (f, k, lg') := fun q m => by
    rw [px, if_neg]
    intro h
    simp only [Bool.and_eq_true, beq_iff_eq] at h
    rcases h6 with h6 | h6
    · rw [h6] at h; cases h.1
    · rw [h6] at h; exact absurd h.2 (by omega)
  have hf : px L (n + 2) .factor i lg = .ok (f, k, lg') := by
    rw [px, if_neg (by rw [h2]; decide), if_neg (by rw [h3]; decide), ha, bnd_ok]
    rw [px, if_neg (by rw [h4]; decide)]
  have b3 : px L (n + 3) (.bin 3) i lg = .ok (f, k, lg') := by rw [px, if_pos rfl, hf]
  have b2 : px L (n + 4) (.bin 2) i lg = .ok (f, k, lg') := by rw [px, if_neg (by decide), b3, bnd_ok]; exact hbl _ _
  rw [px, if_neg (by decide), b2, bnd_ok]; exact hbl _ _
/-- A number alone. -/
theorem num_expr (n : Nat) {s : List UInt8} {q : Nat × Nat} {z : Nat} (h0 : L[i]? = some (⟨3, z, []⟩, p)) (h1 : L[i + 1]? = some (⟨5, 0, s⟩, q)) (hs : s = [44] ∨ s = [93] ∨ s = [59]) : px L (n + 7) .expr i lg = .ok (mk 1 p .nil z [] [] [], i + 1, lg) := by
  refine expr_atom (n := n) (by rw [isK_at h0]; rfl) (by rw [isM_at h0]; rfl) (by rw [isM_at h0]; rfl) ?_ ?_ ?_ ?_
  · rw [px, isK_at h0, if_pos (by rfl), pl_at h0]
    have : num L i = z := by unfold num; rw [h0]
    rw [this]
  · rw [isM_at h1]; rcases hs with rfl | rfl | rfl <;> rfl
  · rw [isM_at h1]; rcases hs with rfl | rfl | rfl <;> rfl
  · right
    rw [txt_at h1]; rcases hs with rfl | rfl | rfl <;> rfl
theorem zs_items : ∀ (n c i m : Nat) (l : F), (∀ k t, (zs c n)[k]? = some t → L[i + k]? = some t) → px L (m + n + 9) (.items l) i lg = .ok (cat l (nums (c + 1) n), i + 2 * n + 1, lg)
  | 0, c, i, m, l, h => by
    have h0 : L[i]? = some (⟨5, 0, [93]⟩, (1, c)) := h 0 _ rfl
    rw [show m + 0 + 9 = m + 8 + 1 by omega, px, isM_at h0, if_neg (by decide), want_at h0, bnd_ok]
    show Except.ok (l, i + 1, lg) = .ok (cat l .nil, i + 1, lg)
    rw [cat_nil]
  | n + 1, c, i, m, l, h => by
    have h0 : L[i]? = some (⟨5, 0, [44]⟩, (1, c)) := h 0 _ rfl
    have h1 : L[i + 1]? = some (⟨3, 0, []⟩, (1, c + 1)) := h 1 _ rfl
    obtain ⟨s, hs, hz⟩ := zs_head n (c + 2)
    have h2 : L[i + 1 + 1]? = some (⟨5, 0, s⟩, (1, c + 2)) := h 2 _ (by rw [zs]; exact hz)
    have hr := zs_items n (c + 2) (i + 2) m (cat l (mk 1 (1, c + 1) .nil 0 [] [] [])) (fun k t ht => by
      have := h (k + 2) t (by rw [zs]; exact ht)
      rw [show i + 2 + k = i + (k + 2) by omega]; exact this)
    rw [show m + (n + 1) + 9 = (m + n + 2 + 7) + 1 by omega, px, isM_at h0, if_pos (by decide), num_expr (m + n + 2) h1 h2 (by rcases hs with rfl | rfl <;> simp), bnd_ok]
    simp only
    rw [show m + n + 2 + 7 = m + n + 9 by omega, show i + 1 + 1 = i + 2 by omega, hr, cat_assoc]
    show Except.ok (cat l (.cons (mkNd 1 (1, c + 1) 0 0 [] [] []) .nil (nums (c + 2 + 1) n)), i + 2 + 2 * n + 1, lg) = _
    rw [show i + 2 + 2 * n + 1 = i + 2 * (n + 1) + 1 by omega]
    rfl
theorem wd_atom (n c i m : Nat) (h : ∀ k t, (wd c n)[k]? = some t → L[i + k]? = some t) : px L (m + n + 9 + 1) .atom i lg = .ok (mk 21 (1, c) (nums (c + 1) (n + 1)) 0 [] [] [], i + 2 * n + 3, lg) := by
  have h0 : L[i]? = some (⟨5, 0, [91]⟩, (1, c)) := h 0 _ rfl
  have h1 : L[i + 1]? = some (⟨3, 0, []⟩, (1, c + 1)) := h 1 _ rfl
  obtain ⟨s, hs, hz⟩ := zs_head n (c + 2)
  have h2 : L[i + 1 + 1]? = some (⟨5, 0, s⟩, (1, c + 2)) := h 2 _ (by rw [wd]; exact hz)
  have hr := zs_items (lg := lg) n (c + 2) (i + 2) m (mk 1 (1, c + 1) .nil 0 [] [] []) (fun k t ht => by
    have := h (k + 2) t (by rw [wd]; exact ht)
    rw [show i + 2 + k = i + (k + 2) by omega]; exact this)
  rw [px, isK_at h0, isK_at h0, isK_at h0, isK_at h0, isK_at h0, txt_at h0, if_neg (by decide), if_neg (by decide), if_neg (by decide), if_neg (by decide), if_neg (by decide), if_pos (by decide), isM_at h1, if_neg (by decide)]
  rw [show m + n + 9 = m + n + 2 + 7 by omega, num_expr (m + n + 2) h1 h2 (by rcases hs with rfl | rfl <;> simp), bnd_ok]
  simp only
  rw [show m + n + 2 + 7 = m + n + 9 by omega, show i + 1 + 1 = i + 2 by omega, hr, bnd_ok, pl_at h0]
  show Except.ok (mk 21 (1, c) (nums (c + 1) (n + 1)) 0 [] [] [], i + 2 + 2 * n + 1, lg) = _
  rw [show i + 2 + 2 * n + 1 = i + 2 * n + 3 by omega]
end
def wideB : List UInt8 := 91 :: 48 :: (repB [44, 48] 4094 ++ [93])
theorem wd_len (c n : Nat) : (wd c n).length = 2 * n + 3 := by simp only [wd, List.length_cons, zs_len]
theorem repB_len (s : List UInt8) (n : Nat) : (repB s n).length = n * s.length := by
  unfold repB
  rw [List.length_flatten, List.map_replicate, List.sum_replicate_nat]
theorem wide_len : wideB.length = 8191 := by
  unfold wideB
  simp only [List.length_cons, List.length_append, repB_len, List.length_nil]
theorem wide_size (n c : Nat) (p : Nat × Nat) : (mk 21 p (nums c n) 0 [] [] []).flat.length = n + 1 := by rw [mk_flat, (nums_len n c).1]
theorem wide_deep (n c : Nat) (p : Nat × Nat) : deepOf (mk 21 p (nums c n) 0 [] [] []).flat ≤ 64 := by
  obtain ⟨h1, h2, h3, h4⟩ := nums_len n c
  have hk : (F.cons (mkNd 21 p (nums c n).cnt 0 [] [] []) (nums c n) .nil).Ok := ⟨rfl, h3, trivial⟩
  have e : (mk 21 p (nums c n) 0 [] [] []).flat = mkNd 21 p (nums c n).cnt 0 [] [] [] :: (nums c n).flat := by simp [mk, F.flat]
  rw [e, F.one_deep hk]
  omega
theorem wide_toks (c : Nat) : Tx.toksAt (1, c) wideB = .ok (wd c 4094) := by
  have h := wd_toks 4094 c [] [] (by rfl)
  rw [List.append_nil] at h
  exact h
theorem wide_toks1 : Tx.toks wideB = .ok (wd 1 4094) := Tx.toks_mk (by rw [wide_len]; decide) (wide_toks 1)
theorem list_expr {L : List Tok} {n c : Nat} (hs : ∀ k t, (wd c n)[k]? = some t → L[0 + k]? = some t) (hl : L.length = 2 * n + 3) : expr L 0 [] = .ok (mk 21 (1, c) (nums (c + 1) (n + 1)) 0 [] [] [], L.length, []) := by
  have e0 : L[0]? = some (⟨5, 0, [91]⟩, (1, c)) := hs 0 _ rfl
  have hw := wd_atom (L := L) (lg := []) n c 0 (15 * n + 24) hs
  have hend : L.length ≤ 0 + 2 * n + 3 := by omega
  unfold expr fuel
  rw [show 8 * L.length + 16 = 15 * n + 24 + n + 9 + 7 by omega, show L.length = 0 + 2 * n + 3 by omega]
  exact expr_atom (by rw [isK_at e0]; rfl) (by rw [isM_at e0]; rfl) (by rw [isM_at e0]; rfl) hw (isM_end hend) (isM_end hend) (.inl (isK_end hend))
theorem wide_ok {l : List UInt8} {L : List Tok} {n c : Nat} (ht : Tx.toks l = .ok L) (hx : expr L 0 [] = .ok (mk 21 (1, c) (nums (c + 1) (n + 1)) 0 [] [] [], L.length, [])) (hn : n + 2 ≤ 4096) : outE l = (0, (0, 0)) := by
  unfold outE exprOf
  rw [readAll_ok ht hx]
  simp only
  rw [if_neg (by rw [wide_size]; omega), if_neg (by have := wide_deep (n + 1) (c + 1) (1, c); omega)]
theorem bound3 : outE wideB = (0, (0, 0)) := wide_ok wide_toks1 (list_expr (n := 4094) (fun k t h => by rw [Nat.zero_add]; exact h) (wd_len 1 4094)) (by decide)
theorem eq_expr {L : List Tok} {n c : Nat} {p q : Nat × Nat} (e0 : L[0]? = some (⟨3, 1, []⟩, p)) (e1 : L[0 + 1]? = some (⟨5, 0, [61, 61]⟩, q)) (e2 : ∀ k t, (wd c n)[k]? = some t → L[2 + k]? = some t) (hl : L.length = 2 * n + 5) : expr L 0 [] = .ok (mk 14 q (cat (mk 1 p .nil 1 [] [] []) (mk 21 (1, c) (nums (c + 1) (n + 1)) 0 [] [] [])) 0 [] [] [], L.length, []) := by
  have ew : L[2]? = some (⟨5, 0, [91]⟩, (1, c)) := e2 0 _ rfl
  have hw := fun m => wd_atom (lg := []) n c 2 m e2
  have hend : L.length ≤ 2 + 2 * n + 3 := by omega
  have hb1 : ∀ m, px L (m + n + 9 + 5) (.bin 1) 2 [] = .ok (mk 21 (1, c) (nums (c + 1) (n + 1)) 0 [] [] [], 2 + 2 * n + 3, []) := fun m => bin1_atom (by rw [isM_at ew]; rfl) (by rw [isM_at ew]; rfl) (hw m) (isM_end hend) (.inl (isK_end hend))
  have ha : ∀ m, px L (m + 1) .atom 0 [] = .ok (mk 1 p .nil 1 [] [] [], 0 + 1, []) := fun m => by
    rw [px, isK_at e0, if_pos (by decide), pl_at e0]
    have : num L 0 = 1 := by unfold num; rw [e0]
    rw [this]
  have hf : ∀ m, px L (m + 2) .factor 0 [] = .ok (mk 1 p .nil 1 [] [] [], 0 + 1, []) := fun m => by
    rw [px, isM_at e0, if_neg (by decide), isM_at e0, if_neg (by decide), ha, bnd_ok]
    simp only
    rw [px, isM_at e1, if_neg (by decide)]
  have hbl : ∀ m q', q' ≠ 0 → px L (m + 1) (.binl q' (mk 1 p .nil 1 [] [] [])) (0 + 1) [] = .ok (mk 1 p .nil 1 [] [] [], 0 + 1, []) := fun m q' hq => by
    rw [px, if_neg]
    rw [isK_at e1, txt_at e1]
    intro h
    simp only [Bool.and_eq_true, beq_iff_eq] at h
    have h2 : (1 : Nat) = q' + 1 := h.2
    omega
  have b3 : ∀ m, px L (m + 3) (.bin 3) 0 [] = .ok (mk 1 p .nil 1 [] [] [], 0 + 1, []) := fun m => by rw [px, if_pos rfl, hf]
  have b2 : ∀ m, px L (m + 4) (.bin 2) 0 [] = .ok (mk 1 p .nil 1 [] [] [], 0 + 1, []) := fun m => by rw [px, if_neg (by decide), b3, bnd_ok]; exact hbl _ _ (by decide)
  have b1 : ∀ m, px L (m + 5) (.bin 1) 0 [] = .ok (mk 1 p .nil 1 [] [] [], 0 + 1, []) := fun m => by rw [px, if_neg (by decide), b2, bnd_ok]; exact hbl _ _ (by decide)
  have b0 : ∀ m, px L (m + n + 9 + 7) (.bin 0) 0 [] = .ok (mk 14 q (cat (mk 1 p .nil 1 [] [] []) (mk 21 (1, c) (nums (c + 1) (n + 1)) 0 [] [] [])) 0 [] [] [], 2 + 2 * n + 3, []) := fun m => by
    rw [show m + n + 9 + 7 = m + n + 9 + 1 + 5 + 1 by omega, px, if_neg (by decide), b1, bnd_ok]
    simp only
    rw [show m + n + 9 + 1 + 5 = m + n + 9 + 5 + 1 by omega, px, isK_at e1, txt_at e1, if_pos (by decide), hb1, bnd_ok]
    simp only
    rw [if_pos trivial, pl_at e1]
    rfl
  have hk : ∀ s, ¬ (isK L 1 0 && txt L 0 == s) = true := fun s h => by rw [isK_at e0] at h; cases h
  unfold expr fuel
  rw [show 8 * L.length + 16 = 15 * n + 39 + n + 9 + 7 + 1 by omega, px, if_neg (hk _), if_neg (hk _), if_neg (hk _), if_neg (hk _), b0, bnd_ok]
  simp only
  rw [isM_end hend, if_neg (by decide), hl, show 2 + 2 * n + 3 = 2 * n + 5 by omega]
theorem many_out {l : List UInt8} {L : List Tok} {f : F} {p : Nat × Nat} {tk : Tx.Tk} (ht : Tx.toks l = .ok L) (hx : expr L 0 [] = .ok (f, L.length, [])) (hf : 4096 < f.flat.length) (h0 : L[0]? = some (tk, p)) : outE l = (17, ((p.1 : Int), (p.2 : Int))) := by
  unfold outE exprOf
  rw [readAll_ok ht hx]
  simp only
  rw [if_pos hf]
  unfold firstOf
  rw [ht]
  simp only
  rw [pl_at h0]
theorem bound4 : outE (49 :: 32 :: 61 :: 61 :: 32 :: wideB) = (17, (1, 1)) := by
  have h2 : Tx.toksAt (1, 5) (32 :: wideB) = .ok (wd 6 4094) := Tx.behind_drop (k := 1) rfl (by simp) (wide_toks 6)
  have h3 := Tx.toksAt_at (p := (1, 2)) (l := 32 :: 61 :: 61 :: 32 :: wideB) (t := ⟨5, 0, [61, 61]⟩) (k := 1) (n := 2) rfl rfl rfl (by simp) rfl h2
  have h4 := Tx.toksAt_at (p := (1, 1)) (l := 49 :: 32 :: 61 :: 61 :: 32 :: wideB) (t := ⟨3, 1, []⟩) (k := 0) (n := 1) rfl rfl rfl (by simp) rfl h3
  obtain ⟨q, ht⟩ : ∃ q, Tx.toks (49 :: 32 :: 61 :: 61 :: 32 :: wideB) = .ok ((⟨3, 1, []⟩, (1, 1)) :: (⟨5, 0, [61, 61]⟩, q) :: wd 6 4094) := ⟨_, Tx.toks_mk (by simp only [List.length_cons, wide_len]; decide) h4⟩
  obtain ⟨L, hLd⟩ : ∃ L, L = ((⟨3, 1, []⟩, (1, 1)) :: (⟨5, 0, [61, 61]⟩, q) :: wd 6 4094 : List Tok) := ⟨_, rfl⟩
  rw [← hLd] at ht
  have e0 : L[0]? = some (⟨3, 1, []⟩, (1, 1)) := by rw [hLd]; rfl
  have e1 : L[0 + 1]? = some (⟨5, 0, [61, 61]⟩, q) := by rw [hLd]; rfl
  have e2 : ∀ k t, (wd 6 4094)[k]? = some t → L[2 + k]? = some t := fun k t h => by rw [hLd, show 2 + k = k + 1 + 1 by omega, List.getElem?_cons_succ, List.getElem?_cons_succ]; exact h
  have hl : L.length = 2 * 4094 + 5 := by rw [hLd, List.length_cons, List.length_cons, wd_len]
  refine many_out ht (eq_expr e0 e1 e2 hl) ?_ e0
  rw [mk_flat, cat_flat, List.length_append, wide_size, mk_flat]
  show 4096 < 0 + 1 + (4094 + 1 + 1) + 1
  decide
end Culp.Gr
