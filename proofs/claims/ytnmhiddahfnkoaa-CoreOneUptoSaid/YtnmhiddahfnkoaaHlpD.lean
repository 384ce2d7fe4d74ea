/- Walks of package core: Casts. -/
import Derived.Test.YtnmhiddahfnkoaaHlpC
namespace Go.Proofs.Ytnmhiddahfnkoaa
set_option linter.unusedSimpArgs false
set_option linter.unusedVariables false
open Go.RowKit Culp

/-- The casts of a term, as their nodes. -/
def castsM (T : List Nd) : List Nd := T.filter fun x => x.kind == 30
def laidCells (x : Nd) : List Value := [.int .i64 x.n, .string x.t, .string x.u]
def lflat (L : List Nd) : List Value := L.flatMap laidCells
theorem castsM_take {T : List Nd} {k : Nat} {x : Nd} (h : T[k]? = some x) : castsM (T.take (k + 1)) = castsM (T.take k) ++ (if x.kind == 30 then [x] else []) := by
  have hk := (List.getElem?_eq_some_iff.1 h).1
  have e : T[k] = x := by rw [List.getElem?_eq_getElem hk] at h; exact Option.some.inj h
  rw [List.take_succ_eq_append_getElem hk, e]
  unfold castsM
  rw [List.filter_append, List.filter_cons, List.filter_nil]
theorem castsM_le (T : List Nd) : (castsM T).length ≤ T.length := List.length_filter_le _ _
theorem lflat_append (K L : List Nd) : lflat (K ++ L) = lflat K ++ lflat L := by simp [lflat]
theorem laid_info : (Try.prog.info? 36).map (fun i => (i.zero, i.size, i.bytes)) = some (some (.agg #[.int .i64 0, .string ByteArray.empty, .string ByteArray.empty]), 3, 40) := by kernel_rfl

def CastsRes (T : List Nd) (w : World) (e : Ending) (w' : World) : Prop := Below w.heap.size w w' ∧ match checkM T with
  | .error (c, _) => e = .returned (.tuple #[.slice none 0 0, .int .i64 c])
  | .ok _ => ∃ v, e = .returned (.tuple #[v, .int .i64 0]) ∧ w'.ownsRow w.heap.size 36 3 v (castsM T).length (lflat (castsM T))

theorem checkM_err {T : List Nd} {e : Int} {p : Nat} (h : checkM T = .error (e, p)) : T.length ≤ 16384 → shapeM T 1024 0 = .ok T.length → typedM T 1024 [] 0 = .error (e, p) := by
  intro h1 h2
  unfold checkM at h
  rw [if_neg (by omega), h2] at h
  simp only [if_true] at h
  split at h
  · rename_i f hf; cases h; exact hf
  · cases h

set_option maxHeartbeats 1600000 in
theorem Casts_bad (T : List Nd) (tv : Value) (w : World) (hn : Nodes w tv T) (hT : T.length ≤ 100000000) (e : Int) (p : Nat) (hc : checkM T = .error (e, p)) (he : e ≠ 0) : Calls Try.prog 13 #[tv] w (CastsRes T w) := by
  have HC := Lib.hid (coreCheck_any T tv w hn hT)
  have X := Lib.hid hc
  have e0 : (e != 0) = true := by simpa [bne] using he
  clear hn hc he
  go_enter Try.func13, Try.ntmps13
  go_wp2_with fail
  refine HC.out.mono ?_
  rw [X.out]
  unfold checkV
  rintro en w1 ⟨rfl, hb⟩
  have HB := Lib.hid hb
  clear hb
  go_wp2_with fail
  go_ret2
  unfold CastsRes
  rw [X.out]
  exact ⟨HB.out, rfl⟩

set_option maxHeartbeats 1600000 in
theorem Casts_good (T : List Nd) (tv : Value) (w : World) (hn : Nodes w tv T) (hT : T.length ≤ 100000) (t : Ty) (hc : checkM T = .ok t) : Calls Try.prog 13 #[tv] w (CastsRes T w) := by
  have HC := Lib.hid (coreCheck_any T tv w hn (by omega))
  have X := Lib.hid hc
  have HN := Lib.hid hn
  obtain ⟨A, c, rfl, hlc, hN⟩ := hn
  obtain ⟨i0, hi, hz0, hz1, hz2⟩ := info_parts laid_info
  clear hN hc
  go_enter Try.func13, Try.ntmps13
  go_wp2_with fail
  refine HC.out.mono ?_
  rw [X.out]
  unfold checkV
  rintro en w1 ⟨rfl, hb⟩
  have HB1 := Lib.hid hb
  clear hb
  go_wp2_with fail
  go_loopw [7, 21] (fun v i wr => ∃ k : Nat, k ≤ T.length ∧ i = .int .i64 k ∧ Hid (wr.ownsRow w.heap.size 36 3 v (castsM (T.take k)).length (lflat (castsM (T.take k)))) ∧ Hid (Below w.heap.size w wr)) (fun _ i _ => T.length - (intOf i).toNat)
  case atStart => exact ⟨0, by omega, rfl, Lib.hid (World.ownsRow_nil _ _ _ _), HB1⟩
  case round =>
    obtain ⟨k, hk, rfl, HO, HB⟩ := hrel
    by_cases hlt : k < T.length
    · obtain ⟨A2, c2, e2, _, hN⟩ := (HN.out.later HB.out)
      simp only [Value.slice.injEq] at e2
      obtain ⟨rfl, _, rfl⟩ := e2
      obtain ⟨b, off, rfl, hM⟩ := hN (by omega)
      have hx : T[k]? = some T[k] := List.getElem?_eq_getElem hlt
      obtain ⟨n0, n1, n2, n3, n4, n5, n6, n7⟩ := hM.at_ hx
      have hct := castsM_take hx
      have hcl := castsM_le (T.take k)
      rw [List.length_take] at hcl
      generalize T[k] = x at *
      have HCT := Lib.hid hct
      have hbs := HB.out.size
      generalize hP : castsM (T.take k) = P at *
      have HPP := Lib.hid hP
      clear hx hN hM hct hP
      cases hkd : (x.kind == 30) with
      | false =>
        have HO2 : Hid (wr.ownsRow w.heap.size 36 3 u7 (castsM (T.take (k + 1))).length (lflat (castsM (T.take (k + 1))))) := by
          rw [Hid, HCT.out, hkd]
          simpa using HO.out
        have hkd' := hkd
        clear hkd
        go_wp2_with fail
        go_roundw
        case rel => exact ⟨k + 1, by omega, by go_num, Lib.hid (HO2.out.alloc _), Lib.hid (HB.out.alloc hbs _)⟩
        case measure => simp [intOf]; omega
      | true =>
        have hE : Hid (lflat (castsM (T.take (k + 1))) = lflat P ++ [.int .i64 x.n, .string x.t, .string x.u]) := by
          rw [Hid, HCT.out, hkd, lflat_append]; rfl
        have hEl : Hid ((castsM (T.take (k + 1))).length = P.length + 1) := by
          rw [Hid, HCT.out, hkd]; simp
        have hown := HO.out
        have hb2 : Below w.heap.size w ((wr.alloc (.cells #[.int .i8 x.kind, .int .i64 x.kids, .int .i64 x.n, .string x.s, .string x.t, .string x.u, .int .i64 x.line, .int .i64 x.col] 44)).alloc (.cells #[.int .i64 x.n, .string x.t, .string x.u] 36)) := (HB.out.alloc hbs _).alloc (by simp; omega) _
        have HB2 := Lib.hid hb2
        clear hb2
        have hPl : P.length ≤ 100000 := by omega
        go_wp2_with (at_builtin; refine wpList_append_own _ rfl (.tmp 28) (.tmp 36) 30 rfl w.heap.size 36 i0 _ 3 40 Try.underlying30 hi hz0 hz1 hz2 rfl (by decide) _ _ _ rfl ((hown.alloc _).alloc _) ⟨wr.heap.size + 1, 0, none⟩ 1 1 [.int .i64 x.n, .string x.t, .string x.u] rfl rfl ?_ ?_ (by unfold maxLen; omega) (by omega) HB2.out.size ?_)
        · intro j u hu
          match j, hu with
          | 0, hu => cases hu; go_simp
          | 1, hu => cases hu; go_simp
          | 2, hu => cases hu; go_simp
          | j + 3, hu => simp at hu
        · intro u hu
          simp at hu
          rcases hu with rfl | rfl | rfl <;> rfl
        · intro v' w' hown' hg _
          have HO2 : Hid (w'.ownsRow w.heap.size 36 3 v' (castsM (T.take (k + 1))).length (lflat (castsM (T.take (k + 1))))) := by
            rw [Hid, hE.out, hEl.out]
            exact hown'
          have hb' : Below w.heap.size _ w' := (Below.refl _ _).grown hg HB2.out.size fun k hk => (hown.lt k hk).1
          have HB3 := Lib.hid (HB2.out.trans hb')
          clear hown' hg hb' hown
          go_wp2
          go_roundw
          case rel => exact ⟨k + 1, by omega, by go_num, HO2, HB3⟩
          case measure => simp [intOf]; omega
    · obtain rfl : k = T.length := by omega
      have HO2 : Hid (wr.ownsRow w.heap.size 36 3 u7 (castsM T).length (lflat (castsM T))) := by
        have := HO.out
        rw [List.take_length] at this
        exact this
      go_wp2_with fail
      go_ret2
      unfold CastsRes
      rw [X.out]
      exact ⟨HB.out, _, rfl, HO2.out⟩
end Go.Proofs.Ytnmhiddahfnkoaa
