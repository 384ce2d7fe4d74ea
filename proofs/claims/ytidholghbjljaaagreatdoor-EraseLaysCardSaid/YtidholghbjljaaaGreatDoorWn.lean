
/- Walks of erase: what 'all' hands out is an iterator over the slots. -/
import Derived.Test.YtidholghbjljaaaGreatDoorWm
namespace Culp.Er
set_option linter.unusedSimpArgs false
set_option linter.unusedVariables false
open Go Culp
theorem drop_app {α : Type} {S A R : List α} {k : Nat} (h : S.drop k = A ++ R) : S.drop (k + A.length) = R := by
  rw [← List.drop_drop, h, List.drop_left]
/-- What the iterator reads: its list in a cell, the modules. -/
def Reads (sk : Sk) (L : List Md) (τ : Nat → Pos → ByteArray) (pb : Addr) (v : Value) (k : Nat) (w : World) : Prop := w.cell? pb = some v ∧ MAt sk w L (τ k)
/-- Their lengths are numbers. -/
structure Fits (L : List Md) : Prop where
  len : (slots L).length ≤ 1000000000
  mods : L.length ≤ 1000000000
  defs : ∀ (m : Nat) (md : Md), L[m]? = some md → md.defs.length ≤ 1000000000000 ∧ ∀ (i : Nat) (d : Df), md.defs[i]? = some d → d.tree.length ≤ 1000000000000
end Culp.Er
namespace Go.Proofs.YtidholghbjljaaaGreatDoor
set_option linter.unusedSimpArgs false
set_option linter.unusedVariables false
open Go.RowKit Culp Culp.Er
set_option maxRecDepth 100000 in
set_option maxHeartbeats 6400000 in
theorem all1_in (sk : Sk) (L : List Md) (τ : Nat → Pos → ByteArray) (pb : Addr) (A : Option Addr) (c : Nat) (hA : 0 < L.length → A = some ⟨sk.b, sk.o, none⟩) (hc : L.length ≤ c) (hf : Fits L) (n : Nat) :
    Counted Fence.wide n Tryz.prog 115 #[.pointer (some pb)] (argsOf sk (slots L) τ) (Reads sk L τ pb (.slice A L.length c)) (slots L).length := by
  intro l J W hJ hM hY h0
  have HY : Hid (∀ k W m, k < (slots L).length → J k W → YieldAt Fence.wide m Tryz.prog l (argsOf sk (slots L) τ k) W fun e W' => e = .returned (.bool true) ∧ J (k + 1) W') := Lib.hid fun k W m hk hj => yield_any (hY k W hk hj)
  have p0 := (hM 0 W h0).1
  have HJ := Lib.hid hJ
  have HM := Lib.hid hM
  have H0 := Lib.hid h0
  have HA := Lib.hid hA
  have hml := hf.mods
  have HF := Lib.hid hf
  clear hJ hM hY h0 hA hf
  refine callsIn_of_wp Tryz.func115 rfl trivial ?_ rfl
  simp only [Tryz.ntmps115, List.size_toArray, List.length_cons, List.length_nil, Nat.reduceAdd, Nat.reduceSub, Array.replicate_succ, Array.replicate_zero, List.push_toArray, List.append_toArray, List.nil_append, List.cons_append]
  gi_wp2
  gi_loopw [6] (fun iv wr => ∃ m q : Nat, m ≤ L.length ∧ iv = .int .i64 m ∧ Hid (J q wr) ∧ Hid ((slots L).drop q = slM m (L.drop m) ∧ q ≤ (slots L).length)) (fun iv _ => L.length - (intOf iv).toNat)
  case atStart => exact ⟨0, 0, Nat.zero_le _, rfl, H0, Lib.hid ⟨rfl, Nat.zero_le _⟩⟩
  case round =>
    clear H0 p0
    obtain ⟨m, q, hm, rfl, HK, HD⟩ := hrel
    have p0 := (HM.out _ _ HK.out).1
    by_cases hlt : m < L.length
    · have hx : L[m]? = some L[m] := List.getElem?_eq_getElem hlt
      obtain ⟨hdr, hq⟩ := HD.out
      have hlen := congrArg List.length hdr
      rw [List.drop_eq_getElem_cons hlt, slM] at hdr
      rw [List.length_drop, List.drop_eq_getElem_cons hlt, slM, List.length_append, List.length_append] at hlen
      have HR := Lib.hid hdr
      have HL : Hid (q + (slI L[m].name m 0 L[m].imps).length + (slD L[m].name m 0 L[m].defs).length ≤ (slots L).length) := Lib.hid (by omega)
      have HX := Lib.hid hx
      generalize L[m] = md at *
      obtain rfl := HA.out (by omega)
      clear hdr hlen hx HD
      gi_wp2
      refine ⟨trivial, (fun h => absurd h (by decide)), ?_⟩
      refine (within_in sk L τ l J HJ.out (fun k W h => (HM.out k W h).2) HY.out _ q m md _ HX.out HR.out HF.out.len (HF.out.defs m md HX.out) wr HK.out).mono ?_
      rintro e w' ⟨rfl, hj⟩
      have HK2 := Lib.hid hj
      clear hj p0
      gi_wp2
      go_roundw
      case rel => exact ⟨m + 1, _, by omega, by go_num, HK2, Lib.hid ⟨by rw [drop_app (drop_app HR.out)], HL.out⟩⟩
      case measure => simp [intOf]; omega
    · obtain ⟨hdr, hq⟩ := HD.out
      rw [List.drop_of_length_le (l := L) (by omega), slM] at hdr
      have hq2 : q = (slots L).length := by
        have := List.drop_eq_nil_iff.1 hdr
        omega
      have HQ := Lib.hid hq2
      clear hdr hq hq2 HD
      gi_wp2
      go_end0
      exact ⟨⟨_, rfl⟩, HQ.out ▸ HK.out⟩
end Go.Proofs.YtidholghbjljaaaGreatDoor
