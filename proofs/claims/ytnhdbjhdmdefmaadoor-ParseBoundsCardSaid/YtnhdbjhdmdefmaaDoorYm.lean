
/- Plain: the law on what stands around an expression. No program in sight. -/
import Derived.Test.YtnhdbjhdmdefmaaDoorYl
import Derived.Test.YtnhdbjhdmdefmaaDoorYj
import Derived.Test.YtnhdbjhdmdefmaaDoorYg
import Derived.Test.YtnhdbjhdmdefmaaDoorHa
namespace Culp.Gr
set_option linter.unusedSimpArgs false
set_option linter.unusedVariables false
open Culp Culp.Tr
def blankN (x : Nd) : Nd := { x with line := 0, col := 0 }
theorem un_flat : ∀ f : F, (un f).flat = f.flat.map blankN
  | .nil => rfl
  | .cons x ks r => by
    simp only [un, F.flat, un_flat ks, un_flat r, List.map_cons, List.map_append]
    rfl
theorem un_ok : ∀ f : F, (un f).Ok ↔ f.Ok
  | .nil => Iff.rfl
  | .cons x ks r => by
    simp only [un, F.Ok, un_cnt, un_ok ks, un_ok r]
theorem un_hgt : ∀ f : F, (un f).hgt = f.hgt
  | .nil => rfl
  | .cons x ks r => by simp only [un, F.hgt, un_hgt ks, un_hgt r]
theorem un_like {f g : F} (h : un g = un f) : f.flat.length = g.flat.length ∧ ∀ (i : Nat) x y, f.flat[i]? = some x → g.flat[i]? = some y → like x y := by
  have h1 : f.flat.map blankN = g.flat.map blankN := by rw [← un_flat, ← un_flat, h]
  refine ⟨by have := congrArg List.length h1; simpa using this, fun i x y hx hy => ?_⟩
  have h2 := congrArg (fun l => l[i]?) h1
  simp only [List.getElem?_map, hx, hy, Option.map_some, Option.some.injEq] at h2
  have e : ∀ a : Nd, (blankN a).kind = a.kind ∧ (blankN a).kids = a.kids ∧ (blankN a).n = a.n ∧ (blankN a).s = a.s ∧ (blankN a).t = a.t ∧ (blankN a).u = a.u := fun a => ⟨rfl, rfl, rfl, rfl, rfl, rfl⟩
  obtain ⟨a1, a2, a3, a4, a5, a6⟩ := e x
  obtain ⟨b1, b2, b3, b4, b5, b6⟩ := e y
  rw [h2] at a1 a2 a3 a4 a5 a6
  exact ⟨a1.symm.trans b1, a2.symm.trans b2, a3.symm.trans b3, a4.symm.trans b4, a5.symm.trans b5, a6.symm.trans b6⟩
theorem deep_un {f g : F} (h : un g = un f) (ho : One f) (hk : f.Ok) : deepOf g.flat = deepOf f.flat := by
  obtain ⟨x, ks, rfl⟩ := ho
  have hg : One g := by
    cases g with
    | nil => cases h
    | cons y js r =>
      simp only [un, F.cons.injEq] at h
      cases r with
      | nil => exact ⟨y, js, rfl⟩
      | cons _ _ _ => exact absurd h.2.2 (by intro e; cases e)
  obtain ⟨y, js, rfl⟩ := hg
  have hk2 : (F.cons y js .nil).Ok := by rw [← un_ok, h, un_ok]; exact hk
  have hh : js.hgt = ks.hgt := by
    simp only [un, F.cons.injEq] at h
    rw [← un_hgt, h.2.1, un_hgt]
  have e1 : (F.cons y js .nil).flat = y :: js.flat := by simp [F.flat]
  have e2 : (F.cons x ks .nil).flat = x :: ks.flat := by simp [F.flat]
  rw [e1, e2, F.one_deep hk2, F.one_deep hk, hh]
/-- An expression that was read whole. -/
theorem read_whole {l : List UInt8} {f : F} (h : exprOf l = .ok f) : ∃ L, Tx.toks l = .ok L ∧ expr L 0 [] = .ok (f, L.length, []) ∧ f.flat.length ≤ 4096 ∧ deepOf f.flat ≤ 64 := by
  unfold exprOf at h
  split at h
  · cases h
  · rename_i g hg
    split at h
    · cases h
    · rename_i h1
      split at h
      · cases h
      · rename_i h2
        injection h with h
        subst h
        unfold readAll at hg
        split at hg
        · cases hg
        · rename_i L hL
          obtain ⟨k, hk, hn⟩ := fin_ok hg
          have hb := (expr_bound hk (Nat.zero_le _)).1
          simp only at hb
          obtain rfl : k = L.length := by omega
          exact ⟨L, hL, hk, by omega, by omega⟩
theorem around_check {l : List UInt8} {f : F} (h : exprOf l = .ok f) : check f.flat = (0, 0) := by
  obtain ⟨L, hL, hx, h1, h2⟩ := read_whole h
  have ho := (expr_bound hx (Nat.zero_le _)).2.2
  have hf := (px_fine (Tx.toks_tkOk hL) _ _ _ _ _ hx (Nat.zero_le _) trivial).2 rfl fine_nil
  simp only at ho hf
  obtain ⟨x, ks, rfl⟩ := ho
  have e2 : (F.cons x ks .nil).flat = x :: ks.flat := by simp [F.flat]
  rw [e2] at h1 h2 ⊢
  rw [F.one_deep hf.1] at h2
  exact F.check_one h1 hf.1 (fun y hy => hf.2 y (by rw [e2]; exact hy)) h2
theorem around_expr {l : List UInt8} {f : F} (hl : l.length ≤ 4096) (h : exprOf l = .ok f) : ∃ f1, exprOf (40 :: 32 :: 35 :: 32 :: 40 :: 10 :: 9 :: (l ++ 10 :: [41])) = .ok f1 ∧ un f1 = un f := by
  obtain ⟨L, hL, hx, hs, hd⟩ := read_whole h
  have hLt := (Tx.toks_inv hL).2
  have ho := (expr_bound hx (Nat.zero_le _)).2.2
  have hf := (px_fine (Tx.toks_tkOk hL) _ _ _ _ _ hx (Nat.zero_le _) trivial).2 rfl fine_nil
  simp only at ho hf
  obtain ⟨L2, hm1, hm2⟩ := Tx.toksAt_move (Tx.further (Tx.further (1, 1) [40]) [32, 35, 32, 40, 10, 9]) hLt
  obtain ⟨pa, hc⟩ : ∃ pa, Tx.toksAt (Tx.further (Tx.further (Tx.further (1, 1) [40]) [32, 35, 32, 40, 10, 9]) (l ++ [10])) [41] = .ok [(⟨5, 0, [41]⟩, pa)] := ⟨_, rfl⟩
  have hX := Tx.toksAt_app [41] l.length l _ L2 (Nat.le_refl _) hm1 hc
  have h1 : Tx.toksAt (Tx.further (1, 1) [40]) (32 :: 35 :: 32 :: 40 :: 10 :: 9 :: (l ++ 10 :: [41])) = .ok (L2 ++ [(⟨5, 0, [41]⟩, pa)]) := by
    refine Tx.behind_drop (k := 6) ?_ (by simp) hX
    show Tx.behind false (32 :: 35 :: 32 :: 40 :: 10 :: 9 :: (l ++ 10 :: [41])) = 6 + Tx.behind false (l ++ 10 :: [41])
    simp [Tx.behind, Tx.blank]
    omega
  have h2 := Tx.toksAt_at (p := (1, 1)) (l := 40 :: 32 :: 35 :: 32 :: 40 :: 10 :: 9 :: (l ++ 10 :: [41])) (k := 0) (n := 1) rfl (Tx.one_open _) rfl (by simp) rfl h1
  have h4 := Tx.toks_mk (by simp; omega) h2
  have hlen : L2.length = L.length := by have := congrArg List.length hm2; simpa using this
  obtain ⟨pc, hL'⟩ : ∃ pc, Tx.toks (40 :: 32 :: 35 :: 32 :: 40 :: 10 :: 9 :: (l ++ 10 :: [41])) = .ok ([(⟨5, 0, [40]⟩, pc)] ++ (L2 ++ [(⟨5, 0, [41]⟩, pa)])) := ⟨_, h4⟩
  have hin : Inside L ([(⟨5, 0, [40]⟩, pc)] ++ (L2 ++ [(⟨5, 0, [41]⟩, pa)])) 1 := inside_mk hm2 rfl rfl (.inl rfl)
  generalize hLL : [(⟨5, 0, [40]⟩, pc)] ++ (L2 ++ [(⟨5, 0, [41]⟩, pa)]) = L' at hL' hin
  have hl' : L'.length = L.length + 2 := by rw [← hLL]; simp; omega
  have e0 : L'[0]? = some (⟨5, 0, [40]⟩, pc) := by rw [← hLL]; rfl
  have e3 : L'[1 + L.length]? = some (⟨5, 0, [41]⟩, pa) := by
    rw [← hLL, List.getElem?_append_right (by simp), List.getElem?_append_right (by simp; omega)]
    rw [show 1 + L.length - [((⟨5, 0, [40]⟩ : Tx.Tk), pc)].length - L2.length = 0 by simp; omega]
    rfl
  obtain ⟨f1, d, u1, hd1, hd2⟩ := hin.px (fuel L) (8 * L.length + 25) .expr .expr 0 [] [] _ (by unfold fuel; omega) trivial (Nat.zero_le _) hx
  obtain rfl : d = [] := hd1.symm
  simp only [List.map_nil, List.append_nil, Nat.add_zero] at hd2
  simp only at u1
  have a0 : px L' (8 * L.length + 25 + 1) .atom 0 [] = .ok (f1, 1 + L.length + 1, []) := by
    rw [px, isK_at e0, isK_at e0, isK_at e0, isK_at e0, isK_at e0, txt_at e0, if_neg (by decide), if_neg (by decide), if_neg (by decide), if_neg (by decide), if_pos (by decide), Nat.zero_add, hd2, bnd_ok]
    simp only
    rw [isM_at e3, if_neg (by decide), isM_at e3, if_neg (by decide), want_at e3, bnd_ok]
  have hend : L'.length ≤ 1 + L.length + 1 := by omega
  have hex : expr L' 0 [] = .ok (f1, L'.length, []) := by
    unfold expr fuel
    rw [show 8 * L'.length + 16 = 8 * L.length + 25 + 7 by omega, show L'.length = 1 + L.length + 1 by omega]
    exact expr_atom (by rw [isK_at e0]; rfl) (by rw [isM_at e0]; rfl) (by rw [isM_at e0]; rfl) a0 (isM_end hend) (isM_end hend) (.inl (isK_end hend))
  refine ⟨f1, ?_, u1⟩
  unfold exprOf
  rw [readAll_ok hL' hex]
  simp only
  rw [if_neg (by rw [← (un_like u1).1]; omega), if_neg (by rw [deep_un u1 ho hf.1]; omega)]
theorem around_mods {l : List UInt8} {f : F} (hl : l.length ≤ 4096) (h : exprOf l = .ok f) : ∃ f2 d md, modsOf (109 :: 111 :: 100 :: 117 :: 108 :: 101 :: 32 :: 109 :: 32 :: 123 :: 32 :: 108 :: 101 :: 116 :: 32 :: 120 :: 32 :: 61 :: 32 :: (l ++ 10 :: [59, 32, 125])) = .ok [md] ∧ md.defs = [d] ∧ d.tree = f2.flat ∧ un f2 = un f := by
  obtain ⟨L, hL, hx, hs, hd⟩ := read_whole h
  have hLt := (Tx.toks_inv hL).2
  have ho := (expr_bound hx (Nat.zero_le _)).2.2
  have hf := (px_fine (Tx.toks_tkOk hL) _ _ _ _ _ hx (Nat.zero_le _) trivial).2 rfl fine_nil
  simp only at ho hf
  generalize hq1 : Tx.further (1, 1) [109, 111, 100, 117, 108, 101] = q1
  generalize hq2 : Tx.further q1 [32, 109] = q2
  generalize hq3 : Tx.further q2 [32, 123] = q3
  generalize hq4 : Tx.further q3 [32, 108, 101, 116] = q4
  generalize hq5 : Tx.further q4 [32, 120] = q5
  generalize hq6 : Tx.further q5 [32, 61] = q6
  obtain ⟨L2, hm1, hm2⟩ := Tx.toksAt_move (Tx.further q6 [32]) hLt
  obtain ⟨pa, pb, hc⟩ : ∃ pa pb, Tx.toksAt (Tx.further (Tx.further q6 [32]) (l ++ [10])) [59, 32, 125] = .ok [(⟨5, 0, [59]⟩, pa), (⟨5, 0, [125]⟩, pb)] := ⟨_, _, rfl⟩
  have hX := Tx.toksAt_app [59, 32, 125] l.length l _ L2 (Nat.le_refl _) hm1 hc
  have z7 : Tx.toksAt q6 (32 :: (l ++ 10 :: [59, 32, 125])) = .ok (L2 ++ [(⟨5, 0, [59]⟩, pa), (⟨5, 0, [125]⟩, pb)]) := by
    refine Tx.behind_drop (k := 1) ?_ (by simp) hX
    show Tx.behind false (32 :: (l ++ 10 :: [59, 32, 125])) = 1 + Tx.behind false (l ++ 10 :: [59, 32, 125])
    simp [Tx.behind, Tx.blank]
  have z6 := Tx.toksAt_at (p := q5) (l := 32 :: 61 :: 32 :: (l ++ 10 :: [59, 32, 125])) (t := ⟨5, 0, [61]⟩) (k := 1) (n := 1) rfl rfl rfl (by simp) hq6 z7
  have z5 := Tx.toksAt_at (p := q4) (l := 32 :: 120 :: 32 :: 61 :: 32 :: (l ++ 10 :: [59, 32, 125])) (t := ⟨2, 0, [120]⟩) (k := 1) (n := 1) rfl rfl rfl (by simp) hq5 z6
  have z4 := Tx.toksAt_at (p := q3) (l := 32 :: 108 :: 101 :: 116 :: 32 :: 120 :: 32 :: 61 :: 32 :: (l ++ 10 :: [59, 32, 125])) (t := ⟨1, 0, sLet⟩) (k := 1) (n := 3) rfl rfl rfl (by simp) hq4 z5
  have z3 := Tx.toksAt_at (p := q2) (l := 32 :: 123 :: 32 :: 108 :: 101 :: 116 :: 32 :: 120 :: 32 :: 61 :: 32 :: (l ++ 10 :: [59, 32, 125])) (t := ⟨5, 0, [123]⟩) (k := 1) (n := 1) rfl rfl rfl (by simp) hq3 z4
  have z2 := Tx.toksAt_at (p := q1) (l := 32 :: 109 :: 32 :: 123 :: 32 :: 108 :: 101 :: 116 :: 32 :: 120 :: 32 :: 61 :: 32 :: (l ++ 10 :: [59, 32, 125])) (t := ⟨2, 0, [109]⟩) (k := 1) (n := 1) rfl rfl rfl (by simp) hq2 z3
  have z1 := Tx.toksAt_at (p := (1, 1)) (l := 109 :: 111 :: 100 :: 117 :: 108 :: 101 :: 32 :: 109 :: 32 :: 123 :: 32 :: 108 :: 101 :: 116 :: 32 :: 120 :: 32 :: 61 :: 32 :: (l ++ 10 :: [59, 32, 125])) (t := ⟨1, 0, sModule⟩) (k := 0) (n := 6) rfl rfl rfl (by simp) hq1 z2
  have h4 := Tx.toks_mk (by simp; omega) z1
  clear z1 z2 z3 z4 z5 z6 z7 hX hc
  have hlen : L2.length = L.length := by have := congrArg List.length hm2; simpa using this
  obtain ⟨p0, p1, p2, p3, p4, p5, hL'⟩ : ∃ p0 p1 p2 p3 p4 p5, Tx.toks (109 :: 111 :: 100 :: 117 :: 108 :: 101 :: 32 :: 109 :: 32 :: 123 :: 32 :: 108 :: 101 :: 116 :: 32 :: 120 :: 32 :: 61 :: 32 :: (l ++ 10 :: [59, 32, 125])) = .ok ([(⟨1, 0, sModule⟩, p0), (⟨2, 0, [109]⟩, p1), (⟨5, 0, [123]⟩, p2), (⟨1, 0, sLet⟩, p3), (⟨2, 0, [120]⟩, p4), (⟨5, 0, [61]⟩, p5)] ++ (L2 ++ [(⟨5, 0, [59]⟩, pa), (⟨5, 0, [125]⟩, pb)])) := ⟨_, _, _, _, _, _, h4⟩
  have hin : Inside L ([(⟨1, 0, sModule⟩, p0), (⟨2, 0, [109]⟩, p1), (⟨5, 0, [123]⟩, p2), (⟨1, 0, sLet⟩, p3), (⟨2, 0, [120]⟩, p4), (⟨5, 0, [61]⟩, p5)] ++ (L2 ++ [(⟨5, 0, [59]⟩, pa), (⟨5, 0, [125]⟩, pb)])) 6 := inside_mk hm2 rfl rfl (.inr rfl)
  generalize hLL : [(⟨1, 0, sModule⟩, p0), (⟨2, 0, [109]⟩, p1), (⟨5, 0, [123]⟩, p2), (⟨1, 0, sLet⟩, p3), (⟨2, 0, [120]⟩, p4), (⟨5, 0, [61]⟩, p5)] ++ (L2 ++ [(⟨5, 0, [59]⟩, pa), (⟨5, 0, [125]⟩, pb)]) = L' at hL' hin
  have hl' : L'.length = L.length + 8 := by rw [← hLL]; simp; omega
  have e0 : L'[0]? = some (⟨1, 0, sModule⟩, p0) := by rw [← hLL]; rfl
  have e1 : L'[0 + 1]? = some (⟨2, 0, [109]⟩, p1) := by rw [← hLL]; rfl
  have e2 : L'[0 + 1 + 1]? = some (⟨5, 0, [123]⟩, p2) := by rw [← hLL]; rfl
  have e3 : L'[0 + 1 + 1 + 1]? = some (⟨1, 0, sLet⟩, p3) := by rw [← hLL]; rfl
  have e4 : L'[0 + 1 + 1 + 1 + 1]? = some (⟨2, 0, [120]⟩, p4) := by rw [← hLL]; rfl
  have e5 : L'[0 + 1 + 1 + 1 + 1 + 1]? = some (⟨5, 0, [61]⟩, p5) := by rw [← hLL]; rfl
  have e6 : L'[6 + L.length]? = some (⟨5, 0, [59]⟩, pa) := by
    rw [← hLL, List.getElem?_append_right (by simp), List.getElem?_append_right (by simp; omega)]
    rw [show 6 + L.length - [((⟨1, 0, sModule⟩ : Tx.Tk), p0), (⟨2, 0, [109]⟩, p1), (⟨5, 0, [123]⟩, p2), (⟨1, 0, sLet⟩, p3), (⟨2, 0, [120]⟩, p4), (⟨5, 0, [61]⟩, p5)].length - L2.length = 0 by simp; omega]
    rfl
  have e7 : L'[6 + L.length + 1]? = some (⟨5, 0, [125]⟩, pb) := by
    rw [← hLL, List.getElem?_append_right (by simp; omega), List.getElem?_append_right (by simp; omega)]
    rw [show 6 + L.length + 1 - [((⟨1, 0, sModule⟩ : Tx.Tk), p0), (⟨2, 0, [109]⟩, p1), (⟨5, 0, [123]⟩, p2), (⟨1, 0, sLet⟩, p3), (⟨2, 0, [120]⟩, p4), (⟨5, 0, [61]⟩, p5)].length - L2.length = 1 by simp; omega]
    rfl
  obtain ⟨f2, d, u2, hd1, hd2⟩ := hin.px (fuel L) (fuel L') .expr .expr 0 [] [] _ (by unfold fuel; omega) trivial (Nat.zero_le _) hx
  obtain rfl : d = [] := hd1.symm
  simp only [List.map_nil, List.append_nil, Nat.add_zero] at hd2
  simp only at u2
  have n1 : name L' (0 + 1) = .ok (0 + 1 + 1) := by unfold name; rw [isK_at e1, if_pos (by decide)]
  have n4 : name L' (0 + 1 + 1 + 1 + 1) = .ok (0 + 1 + 1 + 1 + 1 + 1) := by unfold name; rw [isK_at e4, if_pos (by decide)]
  have w0 : want L' sModule 0 = .ok (0 + 1) := by unfold want; rw [isM_at e0, if_pos (by decide)]
  have w3 : want L' sLet (0 + 1 + 1 + 1) = .ok (0 + 1 + 1 + 1 + 1) := by unfold want; rw [isM_at e3, if_pos (by decide)]
  have i3 : isM L' sImport (0 + 1 + 1 + 1) = false := by rw [isM_at e3]; decide
  have x3 : isM L' sExport (0 + 1 + 1 + 1) = false := by rw [isM_at e3]; decide
  have c3 : isM L' [125] (0 + 1 + 1 + 1) = false := by rw [isM_at e3]; decide
  have t5 : note L' (0 + 1 + 1 + 1 + 1 + 1) [] = .ok ([], 0 + 1 + 1 + 1 + 1 + 1, []) := by unfold note; rw [isM_at e5, if_neg (by decide)]
  have c7 : isM L' [125] (6 + L.length + 1) = true := by rw [isM_at e7]; decide
  have hdf : defs L' (L'.length + 1) (0 + 1 + 1 + 1) [] [] = .ok ([⟨by_ (txt L' (0 + 1 + 1 + 1 + 1)), false, by_ [], f2.flat, (pl L' (0 + 1 + 1 + 1 + 1)).1, (pl L' (0 + 1 + 1 + 1 + 1)).2⟩], 6 + L.length + 1 + 1, []) := by
    rw [defs, if_neg (by rw [c3]; decide), x3, if_neg (by decide), w3, bnd_ok, n4, bnd_ok, t5, bnd_ok]
    simp only
    rw [want_at e5, bnd_ok]
    have hxe : expr L' (0 + 1 + 1 + 1 + 1 + 1 + 1) [] = .ok (f2, 6 + L.length, []) := hd2
    rw [hxe, bnd_ok]
    simp only
    rw [want_at e6, bnd_ok, show L'.length = L.length + 7 + 1 by omega, defs, if_pos c7]
    rfl
  have hmd : module L' 0 [] = .ok (⟨by_ (txt L' (0 + 1)), [], [⟨by_ (txt L' (0 + 1 + 1 + 1 + 1)), false, by_ [], f2.flat, (pl L' (0 + 1 + 1 + 1 + 1)).1, (pl L' (0 + 1 + 1 + 1 + 1)).2⟩], (pl L' (0 + 1)).1, (pl L' (0 + 1)).2⟩, L'.length, []) := by
    unfold module
    rw [w0, bnd_ok, n1, bnd_ok, want_at e2, bnd_ok, imps, if_neg (by rw [i3]; decide), bnd_ok]
    simp only
    rw [hdf, bnd_ok, show 6 + L.length + 1 + 1 = L'.length by omega]
  have hms : mods L' (L'.length + 1) 0 [] [] = .ok ([⟨by_ (txt L' (0 + 1)), [], [⟨by_ (txt L' (0 + 1 + 1 + 1 + 1)), false, by_ [], f2.flat, (pl L' (0 + 1 + 1 + 1 + 1)).1, (pl L' (0 + 1 + 1 + 1 + 1)).2⟩], (pl L' (0 + 1)).1, (pl L' (0 + 1)).2⟩], L'.length, []) := by
    rw [mods, if_pos (by omega), hmd, bnd_ok]
    simp only
    have hend := fun acc => mods_end (L := L') (i := L'.length) (n := L.length + 7) (lg := []) (acc := acc) (Nat.lt_irrefl _)
    rw [show L.length + 7 + 1 = L'.length by omega] at hend
    exact hend _
  refine ⟨f2, ⟨by_ (txt L' (0 + 1 + 1 + 1 + 1)), false, by_ [], f2.flat, (pl L' (0 + 1 + 1 + 1 + 1)).1, (pl L' (0 + 1 + 1 + 1 + 1)).2⟩, ⟨by_ (txt L' (0 + 1)), [], [⟨by_ (txt L' (0 + 1 + 1 + 1 + 1)), false, by_ [], f2.flat, (pl L' (0 + 1 + 1 + 1 + 1)).1, (pl L' (0 + 1 + 1 + 1 + 1)).2⟩], (pl L' (0 + 1)).1, (pl L' (0 + 1)).2⟩, ?_, rfl, rfl, u2⟩
  unfold modsOf
  rw [readAll_ok hL' hms]
  simp only
  rw [if_pos]
  have hlen2 := (un_like u2).1
  have hdeep := deep_un u2 ho hf.1
  unfold limV limits
  simp only [List.getElem?_cons_succ, List.getElem?_nil, tooMany, List.length_nil, Nat.sub_zero, allDefs, List.flatMap_cons, List.flatMap_nil, List.append_nil]
  rw [tooLarge, if_neg (by show ¬ 4096 < 0 + f2.flat.length; omega), tooLarge]
  simp only
  rw [tooDeep, if_neg (by unfold dpI; show ¬ (64 : Int) < ((deepOf f2.flat : Nat) : Int); omega), tooDeep]
  rfl
end Culp.Gr
