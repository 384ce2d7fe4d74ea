
/- Walks of trees: the depth; likeness. -/
import Derived.Test.YtebameiaeldfiaaGreatDoorTrN
namespace Culp
set_option linter.unusedSimpArgs false
set_option linter.unusedVariables false
open Go Go.RowKit
theorem own_mono {w : World} {base base' size n : Nat} {e : TypeId} {v : Value} {xs : List Value} (h : w.ownsRow base e size v n xs) (hb : base' ≤ base) : w.ownsRow base' e size v n xs := by
  refine ⟨h.1, ?_⟩
  rcases h.2 with h2 | ⟨g, cap, cur, rfl, hb', h3⟩
  · exact .inl h2
  · exact .inr ⟨g, cap, cur, rfl, Nat.le_trans hb hb', h3⟩
end Culp
namespace Culp.Tr
/-- The greatest depth. -/
def deepOf (T : List Nd) : Nat := if T.length = 0 ∨ behind T 0 ≠ T.length then 0 else (deps T [1]).foldl max 0
theorem whole {T : List Nd} (h : behind T 0 = T.length) (h0 : T.length ≠ 0) : beh T.length (T.drop 0) ([1] : List Int).sum = some (T.length - 0) := by
  have h' := h
  unfold behind at h'
  rw [if_neg (by omega)] at h'
  show beh T.length (T.drop 0) 1 = _
  rw [show (0 : Int).toNat = 0 from rfl] at h'
  cases hb : beh T.length (T.drop 0) 1 with
  | none => rw [hb] at h'; simp at h'; omega
  | some k => rw [hb] at h'; simp at h'; rw [h']; rfl
theorem whole_step {N k : Nat} {x : Nd} {l : List Nd} {left : Int} (h : beh N (x :: l) left = some k) (hk : 0 < k) : 0 < left ∧ 0 ≤ x.kids ∧ x.kids ≤ (N : Int) ∧ beh N l (left - 1 + x.kids) = some (k - 1) := by
  rw [beh_cons] at h
  split at h
  · injection h with h; omega
  · split at h
    · cases h
    · simp only [Option.map_eq_some_iff] at h
      obtain ⟨j, hj, rfl⟩ := h
      exact ⟨by omega, by omega, by omega, by rw [hj]; rfl⟩
theorem fold_snoc (D : List Nat) (y : Nat) : (D ++ [y]).foldl max 0 = max (D.foldl max 0) y := by rw [List.foldl_append]; rfl
theorem fold_le {n : Nat} : ∀ (D : List Nat) (m : Nat), m ≤ n → (∀ y ∈ D, y ≤ n) → D.foldl max m ≤ n
  | [], m, hm, _ => hm
  | y :: D, m, hm, h => fold_le D (max m y) (by have := h y List.mem_cons_self; omega) fun z hz => h z (List.mem_cons_of_mem _ hz)
end Culp.Tr
namespace Go.Proofs.YtebameiaeldfiaaGreatDoor
open Go.RowKit Go.Maps Culp

set_option maxRecDepth 100000 in
set_option maxHeartbeats 6400000 in
theorem tDeep_any (T : List Nd) (tv : Value) (w : World) (hn : Nodes w tv T) (hT : T.length ≤ 1000000) :
    Calls Tryz.prog 24 #[tv] w (Makes (.int .i64 (Tr.deepOf T)) w) := by
  have HN := Lib.hid hn
  have HBH := Lib.hid (tBehind_any T tv 0 w hn hT)
  obtain ⟨A, c, rfl, hlc, _⟩ := hn
  by_cases h0 : T.length = 0
  · have HC : Hid (Tr.deepOf T = 0) := Lib.hid (by unfold Tr.deepOf; rw [if_pos (.inl h0)])
    have e0 := eq_lit (n := T.length) (z := 0) (by omega)
    go_enter Tryz.func24, Tryz.ntmps24
    go_wp2_with fail
    go_ret
    exact Makes.mk (by rw [HC.out]; rfl) (Below.refl _ _)
  have e0 := ne_lit (n := T.length) (z := 0) (by omega)
  by_cases hb : Tr.behind T 0 = T.length
  · have HC : Hid (Tr.deepOf T = (Tr.deps T [1]).foldl max 0) := Lib.hid (by unfold Tr.deepOf; rw [if_neg (by rintro (h | h); exact h0 h; exact h hb)])
    have HWH := Lib.hid (Tr.whole hb h0)
    rw [hb] at HBH
    clear hb h0
    go_enter Tryz.func24, Tryz.ntmps24
    go_wp2_with fail
    refine HBH.out.mono ?_
    rintro e w0 ⟨rfl, hb0⟩
    have HBZ := Lib.hid hb0
    clear hb0
    go_wp2_with fail
    have hst : Stk w.heap.size (.slice (some ⟨w0.heap.size, 0, none⟩) 1 1) [1] (w0.alloc (.cells #[.int .i64 1] 3)) := own_mono (own_lit w0 3 (.int .i64 1)) HBZ.out.size
    have HST0 := Lib.hid hst
    have HB0 : Hid (Below w.heap.size w (w0.alloc (.cells #[.int .i64 1] 3))) := Lib.hid (HBZ.out.alloc HBZ.out.size _)
    clear hst HBZ HBH
    generalize w0.alloc (.cells #[.int .i64 1] 3) = w1 at *
    go_loopw [3, 4, 20] (fun dv v i wr => ∃ (k md : Nat) (S : List Int) (D : List Nat) (u : Value), u = v ∧ dv = .int .i64 md ∧ i = .int .i64 k ∧ k ≤ T.length ∧ S.length ≤ k + 1 ∧ md ≤ k + 1 ∧ Hid (md = D.foldl max 0) ∧ Hid (∀ n ∈ S, 0 ≤ n ∧ n ≤ 9223372036854775807) ∧ Hid (Tr.deps T [1] = D ++ Tr.deps (T.drop k) S) ∧ Hid (Tr.beh T.length (T.drop k) S.sum = some (T.length - k)) ∧ Hid (Stk w.heap.size u S wr) ∧ Hid (Below w.heap.size w wr)) (fun _ _ i _ => T.length - (intOf i).toNat)
    case atStart => exact ⟨0, 0, [1], [], _, rfl, rfl, rfl, Nat.zero_le _, Nat.le_refl _, by omega, Lib.hid rfl, Lib.hid (by simp), Lib.hid (by rw [List.drop_zero]; rfl), HWH, HST0, HB0⟩
    case round =>
      clear HST0 HB0 HWH
      obtain ⟨k, md, S, D, u, rfl, rfl, rfl, hk, hS, hmd, HM, HP, HDE, HWH, HST, HB⟩ := hrel
      by_cases hlt : k < T.length
      · obtain ⟨A2, c2, e2, _, hN⟩ := HN.out.later HB.out
        simp only [Value.slice.injEq] at e2
        obtain ⟨rfl, _, rfl⟩ := e2
        obtain ⟨b, off, rfl, hM⟩ := hN (by omega)
        have hx : T[k]? = some T[k] := List.getElem?_eq_getElem hlt
        obtain ⟨n0, n1, n2, n3, n4, n5, n6, n7⟩ := hM.at_ hx
        have hdrop : T.drop k = T[k] :: T.drop (k + 1) := List.drop_eq_getElem_cons hlt
        rw [hdrop] at HDE HWH
        generalize T[k] = x at *
        obtain ⟨hs0, hkd0, hkd1, hwh⟩ := Tr.whole_step HWH.out (by omega)
        have HS0 := Lib.hid hs0
        have HW2 := Lib.hid hwh
        clear hx hN hM hdrop HWH hs0 hwh
        go_wp2_with fail
        have HBX : Hid (Box wr.heap.size x (wr.alloc (.cells #[.int .i8 x.kind, .int .i64 x.kids, .int .i64 x.n, .string x.s, .string x.t, .string x.u, .int .i64 x.line, .int .i64 x.col] 63))) := Lib.hid (box_alloc wr x)
        have hb2 : Below wr.heap.size wr (wr.alloc (.cells #[.int .i8 x.kind, .int .i64 x.kids, .int .i64 x.n, .string x.s, .string x.t, .string x.u, .int .i64 x.line, .int .i64 x.col] 63)) := (Below.refl _ _).alloc (Nat.le_refl _) _
        have HST1 := Lib.hid (HST.out.later hb2)
        have HB1 := Lib.hid (below_later hb2 HB.out)
        clear hb2 HST HB n0 n1 n2 n3 n4 n5 n6 n7
        generalize wr.alloc (.cells #[.int .i8 x.kind, .int .i64 x.kids, .int .i64 x.n, .string x.s, .string x.t, .string x.u, .int .i64 x.line, .int .i64 x.col] 63) = w3 at *
        generalize wr.heap.size = gx at *
        go_loopw [4] (fun v wx => w3 = wx ∧ ∃ (S' : List Int) (u' : Value), v = u' ∧ S'.length ≤ S.length ∧ Hid (Tr.pop S' = Tr.pop S) ∧ Hid (∀ n ∈ S', n ∈ S) ∧ Hid (Stk w.heap.size u' S' w3)) (fun v _ => slLen v)
        case atStart => exact ⟨rfl, S, _, rfl, Nat.le_refl _, Lib.hid rfl, Lib.hid (fun _ h => h), HST1⟩
        case round =>
          clear HST1
          obtain ⟨rfl, S', u', rfl, hS', HPO, HSU, HSTi⟩ := hrel
          cases S' with
          | nil =>
            exfalso
            have h1 := HPO.out
            have h2 := Tr.pop_sum S
            rw [← h1] at h2
            have h3 := HS0.out
            rw [← h2] at h3
            exact absurd h3 (by decide)
          | cons c r =>
            obtain ⟨g, cap, rfl, hg0, hg1, hcap, hc0, hf0⟩ := HSTi.out.top
            have hcS := HSU.out c List.mem_cons_self
            have hcb := HP.out c hcS
            rw [List.length_cons] at hS'
            by_cases hz : c = 0
            · have ez : (c == 0) = true := by rw [hz]; rfl
              have HPO2 : Hid (Tr.pop r = Tr.pop S) := Lib.hid (by rw [← HPO.out, hz]; rfl)
              have HSU2 : Hid (∀ n ∈ r, n ∈ S) := Lib.hid (fun n hn => HSU.out n (List.mem_cons_of_mem _ hn))
              have HST2 := Lib.hid HSTi.out.pop
              clear HPO HSU HSTi hcS hcb hz hg0 hg1
              go_wp2_with fail
              go_roundw
              case rel => exact ⟨trivial, r, _, rfl, by omega, HPO2, HSU2, HST2⟩
              case measure => simp [slLen]
            have ez : (c == 0) = false := beq_no hz
            have hpop : Tr.pop S = c :: r := by rw [← HPO.out]; unfold Tr.pop; rw [List.dropWhile_cons, if_neg (by simp [hz])]
            have hsum : S.sum = c + r.sum := by rw [← Tr.pop_sum S, hpop, List.sum_cons]
            have HDE2 : Hid (Tr.deps T [1] = (D ++ [r.length + 1]) ++ Tr.deps (T.drop (k + 1)) (x.kids :: (c - 1) :: r)) := Lib.hid (by
              rw [HDE.out, Tr.deps_more hpop, show max x.kids 0 = x.kids by omega]; simp)
            have HP5 : Hid (∀ n ∈ x.kids :: (c - 1) :: r, 0 ≤ n ∧ n ≤ 9223372036854775807) := Lib.hid (by
              intro n hn
              rcases List.mem_cons.1 hn with rfl | hn
              · omega
              rcases List.mem_cons.1 hn with rfl | hn
              · omega
              · exact HP.out n (HSU.out n (List.mem_cons_of_mem _ hn)))
            have HW5 : Hid (Tr.beh T.length (T.drop (k + 1)) (x.kids :: (c - 1) :: r).sum = some (T.length - (k + 1))) := Lib.hid (by
              have h := HW2.out
              rw [hsum] at h
              rw [List.sum_cons, List.sum_cons, show x.kids + (c - 1 + r.sum) = c + r.sum - 1 + x.kids by omega, h]; congr 1)
            have HM5 : Hid (max md (r.length + 1) = (D ++ [r.length + 1]).foldl max 0) := Lib.hid (by rw [Tr.fold_snoc, ← HM.out])
            obtain ⟨hc1, hc2⟩ := hcb
            have hcp : 0 < c := by omega
            have HNE := Lib.hid (HSTi.out.ne HBX.out rfl)
            have HST4 : Hid (Stk w.heap.size (.slice (some ⟨g, 0, none⟩) (r.length + 1) cap) ((c - 1) :: r) (w3.setCell ⟨g, r.length, none⟩ (.int .i64 (c - 1)))) := Lib.hid (HSTi.out.dec (c - 1))
            have HBX4 : Hid (Box gx x (w3.setCell ⟨g, r.length, none⟩ (.int .i64 (c - 1)))) := Lib.hid (HBX.out.other HNE.out)
            have HB4 : Hid (Below w.heap.size w (w3.setCell ⟨g, r.length, none⟩ (.int .i64 (c - 1)))) := Lib.hid (HB1.out.setCell hg0 _)
            have own4 : (w3.setCell ⟨g, r.length, none⟩ (.int .i64 (c - 1))).ownsRow w.heap.size 3 1 (.slice (some ⟨g, 0, none⟩) (r.length + 1) cap) (r.length + 1) (((c - 1) :: r).reverse.map (Value.int .i64)) := HST4.out
            have q1 : (w3.setCell ⟨g, r.length, none⟩ (.int .i64 (c - 1))).cell? ⟨gx, 1, none⟩ = some (.int .i64 x.kids) := HBX4.out.cell 1
            clear HPO HSU HSTi HDE hpop hsum hcS hz hg1 hg0 HBX HB1 HM HP HW2 HS0
            go_wp2_with (at_builtin; refine append_agg rfl (.tmp 48) (.tmp 51) 68 3 rfl w.heap.size _ 1 8 Tryz.underlying68 int_info rfl (by decide) _ _ _ rfl own4 [.int .i64 x.kids] rfl w3.heap.size rfl (by simp) ?_ ?_ ?_ ?_ ?_)
            · first
                | rfl
                | (intro y hy; simp only [List.mem_cons, List.not_mem_nil, or_false] at hy; subst hy; rfl)
            · omega
            · omega
            · have := HB4.out.size
              simpa using this
            intro v' w5 hown' hg' hb'
            have HST5 : Hid (Stk w.heap.size v' (x.kids :: (c - 1) :: r) w5) := Lib.hid (Stk.push (S := (c - 1) :: r) (by simpa using hown'))
            have HB5 := Lib.hid (HB4.out.trans hb')
            clear own4 q1 hc0 hf0 hown' hg' hb' HST4 HB4 HBX4
            go_wp2_with fail
            go_roundw
            case rel => exact ⟨k + 1, max md (r.length + 1), x.kids :: (c - 1) :: r, D ++ [r.length + 1], v', rfl, by go_num, by go_num, by omega, by simp only [List.length_cons]; omega, by omega, HM5, HP5, HDE2, HW5, HST5, HB5⟩
            case measure => simp [intOf]; omega
      · have hkT : k = T.length := by omega
        have HF : Hid (Tr.deepOf T = md) := Lib.hid (by rw [HC.out, HDE.out, hkT, List.drop_length, Tr.deps_nil, List.append_nil, HM.out])
        clear hkT
        go_wp2_with fail
        go_ret
        exact Makes.mk (by rw [HF.out]; rfl) HB.out
  · have HC : Hid (Tr.deepOf T = 0) := Lib.hid (by unfold Tr.deepOf; rw [if_pos (.inr hb)])
    have e1 : (((Tr.behind T 0 : Nat) : Int) != ((T.length : Nat) : Int)) = true := by rw [bne, beq_no (by omega)]; rfl
    go_enter Tryz.func24, Tryz.ntmps24
    go_wp2_with fail
    refine HBH.out.mono ?_
    rintro e w1 ⟨rfl, hb1⟩
    have HB1 := Lib.hid hb1
    clear hb1
    go_wp2_with fail
    go_ret
    exact Makes.mk (by rw [HC.out]; rfl) HB1.out
end Go.Proofs.YtebameiaeldfiaaGreatDoor
