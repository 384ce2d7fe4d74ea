
/- Plain: the law on types that are read. No program in sight. -/
import Derived.Test.YtnhdbjhdmdefmaaDoorYi
namespace Culp.Gr
set_option linter.unusedSimpArgs false
set_option linter.unusedVariables false
open Culp Culp.Tr
theorem readAll_ok {α : Type} {spec : List Tok → Except Nat (α × Nat × List Nat)} {l : List UInt8} {L : List Tok} {a : α} (hL : Tx.toks l = .ok L) (h : spec L = .ok (a, L.length, [])) : readAll spec l = .ok a := by
  unfold readAll
  rw [hL]
  simp only
  rw [h]
  unfold fin
  simp
theorem want_at {L : List Tok} {i : Nat} {s : List UInt8} {p : Nat × Nat} (h : L[i]? = some (⟨5, 0, s⟩, p)) : want L s i = .ok (i + 1) := by
  unfold want
  rw [isM_at h, if_pos (by simp)]
theorem types_law {l t : List UInt8} (hl : l.length ≤ 4096) (h : readAll (fun L => whole L 0 []) l = .ok t) :
    readAll (fun L => whole L 0 []) (40 :: 40 :: (l ++ 10 :: [41, 32, 41])) = .ok t ∧ ∃ f a b, exprOf (40 :: 120 :: 58 :: (l ++ 10 :: [41])) = .ok f ∧ f.flat = [a, b] ∧ a.t = by_ t := by
  obtain ⟨L, hL, hw, ht⟩ := read_type h
  have hLt := (Tx.toks_inv hL).2
  have hhead := type_head hw hL
  obtain ⟨q0, hty, hq0⟩ := bnd_inv hw
  have hty0 : ty L (2 * L.length + 4) true 0 = .ok (t, L.length) := by
    rw [hty]
    injection hq0 with hq0
    have h1 : q0.1 = t := congrArg Prod.fst hq0
    have h2 : q0.2 = L.length := congrArg (fun x => x.2.1) hq0
    rw [← h1, ← h2]
  constructor
  · obtain ⟨L2, hm1, hm2⟩ := Tx.toksAt_move (Tx.further (Tx.further (1, 1) [40]) [40]) hLt
    obtain ⟨pa, pb, hc⟩ : ∃ pa pb, Tx.toksAt (Tx.further (Tx.further (Tx.further (1, 1) [40]) [40]) (l ++ [10])) [41, 32, 41] = .ok [(⟨5, 0, [41]⟩, pa), (⟨5, 0, [41]⟩, pb)] := ⟨_, _, rfl⟩
    have hX := Tx.toksAt_app [41, 32, 41] l.length l _ L2 (Nat.le_refl _) hm1 hc
    have h2 := Tx.toksAt_at (p := Tx.further (1, 1) [40]) (l := 40 :: (l ++ 10 :: [41, 32, 41])) (k := 0) (n := 1) rfl (Tx.one_open _) rfl (by simp) rfl hX
    have h3 := Tx.toksAt_at (p := (1, 1)) (l := 40 :: 40 :: (l ++ 10 :: [41, 32, 41])) (k := 0) (n := 1) rfl (Tx.one_open _) rfl (by simp) rfl h2
    have h4 := Tx.toks_mk (by simp; omega) h3
    have hlen : L2.length = L.length := by have := congrArg List.length hm2; simpa using this
    obtain ⟨pc, pd, hL'⟩ : ∃ pc pd, Tx.toks (40 :: 40 :: (l ++ 10 :: [41, 32, 41])) = .ok ([(⟨5, 0, [40]⟩, pc), (⟨5, 0, [40]⟩, pd)] ++ (L2 ++ [(⟨5, 0, [41]⟩, pa), (⟨5, 0, [41]⟩, pb)])) := ⟨_, _, h4⟩
    have hin : Inside L ([(⟨5, 0, [40]⟩, pc), (⟨5, 0, [40]⟩, pd)] ++ (L2 ++ [(⟨5, 0, [41]⟩, pa), (⟨5, 0, [41]⟩, pb)])) 2 := inside_mk hm2 rfl rfl (.inl rfl)
    generalize hLL : [(⟨5, 0, [40]⟩, pc), (⟨5, 0, [40]⟩, pd)] ++ (L2 ++ [(⟨5, 0, [41]⟩, pa), (⟨5, 0, [41]⟩, pb)]) = L' at hL' hin
    have hl' : L'.length = L.length + 4 := by rw [← hLL]; simp; omega
    have e0 : L'[0]? = some (⟨5, 0, [40]⟩, pc) := by rw [← hLL]; rfl
    have e1 : L'[1]? = some (⟨5, 0, [40]⟩, pd) := by rw [← hLL]; rfl
    have e2 : L'[2 + L.length]? = some (⟨5, 0, [41]⟩, pa) := by
      rw [← hLL, List.getElem?_append_right (by simp), List.getElem?_append_right (by simp; omega)]
      rw [show 2 + L.length - [((⟨5, 0, [40]⟩ : Tx.Tk), pc), (⟨5, 0, [40]⟩, pd)].length - L2.length = 0 by simp; omega]
      rfl
    have e3 : L'[2 + L.length + 1]? = some (⟨5, 0, [41]⟩, pb) := by
      rw [← hLL, List.getElem?_append_right (by simp; omega), List.getElem?_append_right (by simp; omega)]
      rw [show 2 + L.length + 1 - [((⟨5, 0, [40]⟩ : Tx.Tk), pc), (⟨5, 0, [40]⟩, pd)].length - L2.length = 1 by simp; omega]
      rfl
    have i1 : ty L' (2 * L.length + 8) true 2 = .ok (t, 2 + L.length) := hin.ty _ _ _ _ _ (by omega) hty0
    have i2 := ty_round (i := 1) e1 i1 e2 (.inr ⟨e3, by decide⟩)
    have i3 := ty_round (i := 0) (tk := ⟨0, 0, []⟩) (p2 := (0, 0)) e0 i2 e3 (.inl (by simp only; omega))
    refine readAll_ok hL' ?_
    show whole L' 0 [] = _
    unfold whole
    rw [show 2 * L'.length + 4 = 2 * L.length + 8 + 2 + 2 by omega, i3, bnd_ok]
    simp only
    rw [if_neg (by omega), show 2 + L.length + 1 + 1 = L'.length by omega]
  · obtain ⟨L2, hm1, hm2⟩ := Tx.toksAt_move (Tx.further (Tx.further (Tx.further (1, 1) [40]) [120]) [58]) hLt
    obtain ⟨pa, hc⟩ : ∃ pa, Tx.toksAt (Tx.further (Tx.further (Tx.further (Tx.further (1, 1) [40]) [120]) [58]) (l ++ [10])) [41] = .ok [(⟨5, 0, [41]⟩, pa)] := ⟨_, rfl⟩
    have hX := Tx.toksAt_app [41] l.length l _ L2 (Nat.le_refl _) hm1 hc
    have hh : (l ++ 10 :: [41]).head? ≠ some 61 := by
      cases l with
      | nil => decide
      | cons c l => exact hhead
    have h1 := Tx.toksAt_at (p := Tx.further (Tx.further (1, 1) [40]) [120]) (l := 58 :: (l ++ 10 :: [41])) (k := 0) (n := 1) rfl (Tx.one_colon hh) rfl (by simp) rfl hX
    have h2 := Tx.toksAt_at (p := Tx.further (1, 1) [40]) (l := 120 :: 58 :: (l ++ 10 :: [41])) (k := 0) (n := 1) rfl (show Tx.one (120 :: 58 :: (l ++ 10 :: [41])) = .ok (⟨2, 0, [120]⟩, 1) from rfl) rfl (by simp) rfl h1
    have h3 := Tx.toksAt_at (p := (1, 1)) (l := 40 :: 120 :: 58 :: (l ++ 10 :: [41])) (k := 0) (n := 1) rfl (Tx.one_open _) rfl (by simp) rfl h2
    have h4 := Tx.toks_mk (by simp; omega) h3
    have hlen : L2.length = L.length := by have := congrArg List.length hm2; simpa using this
    obtain ⟨pc, pd, pe, hL'⟩ : ∃ pc pd pe, Tx.toks (40 :: 120 :: 58 :: (l ++ 10 :: [41])) = .ok ([(⟨5, 0, [40]⟩, pc), (⟨2, 0, [120]⟩, pd), (⟨5, 0, [58]⟩, pe)] ++ (L2 ++ [(⟨5, 0, [41]⟩, pa)])) := ⟨_, _, _, h4⟩
    have hin : Inside L ([(⟨5, 0, [40]⟩, pc), (⟨2, 0, [120]⟩, pd), (⟨5, 0, [58]⟩, pe)] ++ (L2 ++ [(⟨5, 0, [41]⟩, pa)])) 3 := inside_mk hm2 rfl rfl (.inl rfl)
    generalize hLL : [(⟨5, 0, [40]⟩, pc), (⟨2, 0, [120]⟩, pd), (⟨5, 0, [58]⟩, pe)] ++ (L2 ++ [(⟨5, 0, [41]⟩, pa)]) = L' at hL' hin
    have hl' : L'.length = L.length + 4 := by rw [← hLL]; simp; omega
    have e0 : L'[0]? = some (⟨5, 0, [40]⟩, pc) := by rw [← hLL]; rfl
    have e1 : L'[0 + 1]? = some (⟨2, 0, [120]⟩, pd) := by rw [← hLL]; rfl
    have e2 : L'[0 + 1 + 1]? = some (⟨5, 0, [58]⟩, pe) := by rw [← hLL]; rfl
    have e3 : L'[3 + L.length]? = some (⟨5, 0, [41]⟩, pa) := by
      rw [← hLL, List.getElem?_append_right (by simp), List.getElem?_append_right (by simp; omega)]
      rw [show 3 + L.length - [((⟨5, 0, [40]⟩ : Tx.Tk), pc), (⟨2, 0, [120]⟩, pd), (⟨5, 0, [58]⟩, pe)].length - L2.length = 0 by simp; omega]
      rfl
    obtain ⟨d, hd1, hd2⟩ := hin.whole (lg' := []) hw
    obtain rfl : d = [] := hd1.symm
    simp only [List.map_nil, List.append_nil] at hd2
    have a1 : ∀ n, px L' (n + 1) .atom (0 + 1) [] = .ok (mk 4 (pl L' (0 + 1)) .nil 0 (txt L' (0 + 1)) [] [], 0 + 1 + 1, []) := fun n => by
      rw [px, isK_at e1, isK_at e1, isK_at e1, if_neg (by decide), if_neg (by decide), if_pos (by decide)]
    have x1 : ∀ n, px L' (n + 7) .expr (0 + 1) [] = .ok (mk 4 (pl L' (0 + 1)) .nil 0 (txt L' (0 + 1)) [] [], 0 + 1 + 1, []) := fun n =>
      expr_atom (by rw [isK_at e1]; rfl) (by rw [isM_at e1]; rfl) (by rw [isM_at e1]; rfl) (a1 n) (by rw [isM_at e2]; rfl) (by rw [isM_at e2]; rfl) (.inr (by rw [txt_at e2]; rfl))
    have a0 : ∀ n, px L' (n + 7 + 1) .atom 0 [] = .ok (mk 29 (pl L' (0 + 1 + 1)) (mk 4 (pl L' (0 + 1)) .nil 0 (txt L' (0 + 1)) [] []) 0 [] t [], 3 + L.length + 1, []) := fun n => by
      rw [px, isK_at e0, isK_at e0, isK_at e0, isK_at e0, isK_at e0, txt_at e0, if_neg (by decide), if_neg (by decide), if_neg (by decide), if_neg (by decide), if_pos (by decide), x1, bnd_ok]
      simp only
      rw [isM_at e2, if_pos (by decide), show 0 + 1 + 1 + 1 = 3 + 0 by omega, hd2, bnd_ok, want_at e3, bnd_ok]
    have hex : expr L' 0 [] = .ok (mk 29 (pl L' (0 + 1 + 1)) (mk 4 (pl L' (0 + 1)) .nil 0 (txt L' (0 + 1)) [] []) 0 [] t [], L'.length, []) := by
      unfold expr fuel
      rw [show 8 * L'.length + 16 = 8 * L.length + 34 + 7 + 7 by omega, show L'.length = 3 + L.length + 1 by omega]
      have hend : L'.length ≤ 3 + L.length + 1 := by omega
      exact expr_atom (by rw [isK_at e0]; rfl) (by rw [isM_at e0]; rfl) (by rw [isM_at e0]; rfl) (a0 _) (isM_end hend) (isM_end hend) (.inl (isK_end hend))
    refine ⟨mk 29 (pl L' (0 + 1 + 1)) (mk 4 (pl L' (0 + 1)) .nil 0 (txt L' (0 + 1)) [] []) 0 [] t [], mkNd 29 (pl L' (0 + 1 + 1)) 1 0 [] t [], mkNd 4 (pl L' (0 + 1)) 0 0 (txt L' (0 + 1)) [] [], ?_, rfl, rfl⟩
    · unfold exprOf
      rw [readAll_ok hL' hex]
      simp only
      rw [if_neg, if_neg]
      · show ¬ 64 < 2
        decide
      · show ¬ 4096 < 2
        decide
end Culp.Gr
