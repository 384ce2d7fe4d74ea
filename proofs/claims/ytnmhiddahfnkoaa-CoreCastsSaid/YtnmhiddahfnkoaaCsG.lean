/- The walk of the statement CoreCasts: a term that checks. -/
import Derived.Test.YtnmhiddahfnkoaaCsL
import Derived.ArgAppend
namespace Go.Proofs.Ytnmhiddahfnkoaa
set_option linter.unusedSimpArgs false
set_option linter.unusedVariables false
open Go.RowKit Culp

/-- A row of casts that may be written. -/
def RowL (g n : Nat) (w : World) : Prop := ∃ cs : Array Value, w.heap[g]? = some (.cells cs 36 (0, 0)) ∧ n * 3 ≤ cs.size
theorem RowL.cell {g n : Nat} {w : World} (h : RowL g n w) {i : Nat} (hi : i < n * 3) : ∃ v, w.cell? ⟨g, i, none⟩ = some v := by
  obtain ⟨cs, h1, h2⟩ := h
  exact ⟨cs[i]'(by omega), by simp [World.cell?, h1, show i < cs.size by omega]⟩
theorem RowL.free {g n : Nat} {w : World} (h : RowL g n w) (i : Nat) : w.frozen? ⟨g, i, none⟩ = false := by
  obtain ⟨cs, h1, _⟩ := h
  simp [World.frozen?, h1]
theorem RowL.set {g n : Nat} {w : World} (h : RowL g n w) (i : Nat) (u : Value) : RowL g n (w.setCell ⟨g, i, none⟩ u) := by
  obtain ⟨cs, h1, h2⟩ := h
  exact ⟨cs.setIfInBounds i u, by simp [World.setCell, Array.getElem?_modify, h1], by simpa using h2⟩
theorem RowL.later {g n : Nat} {w w' : World} (h : RowL g n w) (hb : Below w.heap.size w w') : RowL g n w' := by
  obtain ⟨cs, h1, h2⟩ := h
  exact ⟨cs, (hb.block g (Array.getElem?_eq_some_iff.1 h1).1).trans h1, h2⟩
theorem row_off {g g2 i j : Nat} {u v : Value} {w : World} (h : w.cell? ⟨g2, j, none⟩ = some v) (hg : g2 ≠ g) : (w.setCell ⟨g, i, none⟩ u).cell? ⟨g2, j, none⟩ = some v := by
  rw [World.cell?_of_block (w := w) (Below.heap_setCell _ _ _ _ (by simpa using hg))]
  exact h
theorem LaidAt.set {g g2 i : Nat} {u : Value} {w : World} {L : List Nd} (h : LaidAt w g2 L) (hg : g2 ≠ g) : LaidAt (w.setCell ⟨g, i, none⟩ u) g2 L :=
  fun k x hx => ⟨row_off (h k x hx).1 hg, row_off (h k x hx).2.1 hg, row_off (h k x hx).2.2 hg⟩
theorem LaidAt.grown {g2 : Nat} {row : Option Nat} {w w' : World} {L : List Nd} (h : LaidAt w g2 L) (hg : w.grownBy w' row) (hne : some g2 ≠ row) : LaidAt w' g2 L :=
  fun k x hx => ⟨hg.cell (h k x hx).1 hne, hg.cell (h k x hx).2.1 hne, hg.cell (h k x hx).2.2 hne⟩
theorem own_later {w w' : World} {base size n : Nat} {e : TypeId} {v : Value} {xs : List Value} (h : w.ownsRow base e size v n xs) (hb : Below w.heap.size w w') : w'.ownsRow base e size v n xs := by
  refine ⟨h.1, ?_⟩
  rcases h.2 with hn | ⟨g, cap, cur, rfl, hbb, hg, rest⟩
  · exact .inl hn
  · exact .inr ⟨g, cap, cur, rfl, hbb, (hb.block g (Array.getElem?_eq_some_iff.1 hg).1).trans hg, rest⟩
/-- A row of casts: its slice, its cells. -/
theorem own_laid2 {w : World} {base : Nat} {e : TypeId} {v : Value} {L : List Nd} (h : w.ownsRow base e 3 v L.length (lflat L)) :
    ∃ A c, v = .slice A L.length c ∧ (A = none → L.length = 0 ∧ c = 0) ∧ (∀ a, A = some a → ∃ g, a = ⟨g, 0, none⟩ ∧ base ≤ g ∧ LaidAt w g L) := by
  rcases h.2 with ⟨rfl, h1⟩ | ⟨g, cap, cur, rfl, hb, hh, hc, _⟩
  · exact ⟨none, 0, by rw [h1], fun _ => ⟨h1, rfl⟩, fun _ h => by cases h⟩
  · refine ⟨_, cap, rfl, (fun h => by cases h), fun a ha => ⟨g, by cases ha; rfl, hb, fun i x hx => ?_⟩⟩
    have hi := (List.getElem?_eq_some_iff.1 hx).1
    have k0 := lflat_at L i x 0 _ hx rfl
    have k1 := lflat_at L i x 1 _ hx rfl
    have k2 := lflat_at L i x 2 _ hx rfl
    have a0 := h.cellAt (i * 3) (by omega)
    have a1 := h.cellAt (i * 3 + 1) (by omega)
    have a2 := h.cellAt (i * 3 + 2) (by omega)
    rw [Nat.add_zero] at k0
    exact ⟨a0.trans k0, a1.trans k1, a2.trans k2⟩

set_option maxRecDepth 100000 in
set_option maxHeartbeats 3200000 in
theorem CoreCasts_good (T : List Nd) (tv : Value) (w : World) (hn : Nodes w tv T) (hT : T.length ≤ 32768) (hsz : ∀ x ∈ T, szOk x) (t0 : Ty) (hc : checkM T = .ok t0) : Calls Try.prog 4 #[tv] w (Makes (.bool true) w) := by
  have HN := Lib.hid hn
  have HSZ := Lib.hid hsz
  have HL := Lib.hid (long_any T tv w hn (by omega) hsz)
  have X := Lib.hid hc
  have hcl := castsM_le T
  have HCG := Lib.hid (fun (v : Value) (w : World) (h : Nodes w v T) => Casts_good T v w h (by omega) t0 hc)
  have HRC := Lib.hid (fun (w : World) (h : Nodes w tv T) => rCasts_any T tv w h (by omega))
  clear hn hsz hc
  unfold CastsRes at HCG
  unfold RCastsRes at HRC
  rw [X.out] at HCG
  generalize castsM T = L at *
  obtain ⟨i0, hi, hz0, hz1, hz2⟩ := info_parts laid_info
  go_enter Try.func4, Try.ntmps4
  go_wp2_with fail
  refine HL.out.mono ?_
  rintro e w1 ⟨b, rfl, _, hb1⟩
  have HB1 := Lib.hid hb1
  clear hb1
  cases b with
  | true =>
    go_wp2_with fail
    refine (works_any _).mono ?_
    rintro e w2 ⟨rfl, hb2⟩
    have HB2 := Lib.hid (below_later hb2 HB1.out)
    clear hb2
    go_wp2_with fail
    go_ret
    exact ⟨rfl, HB2.out⟩
  | false =>
    have HN1 := Lib.hid (HN.out.later HB1.out)
    go_wp2_with fail
    refine (rCheck_any T tv _ HN1.out (by omega) HSZ.out).mono ?_
    rw [X.out]
    unfold checkV
    rintro e w2 ⟨rfl, hb2⟩
    have HB2 := Lib.hid (below_later hb2 HB1.out)
    have HN2 := Lib.hid (HN1.out.later hb2)
    clear hb2
    go_wp2_with fail
    refine (CopyNodes_any T tv _ HN2.out (by omega)).mono ?_
    rintro e w3 ⟨v3, rfl, hn3, hb3⟩
    have HB3 := Lib.hid (below_later hb3 HB2.out)
    have HN3 := Lib.hid hn3
    have HT3 := Lib.hid (HN2.out.later hb3)
    clear hb3 hn3
    go_wp2_with fail
    refine (HCG.out v3 _ HN3.out).mono ?_
    rintro e w4 ⟨hb4, v4, rfl, hown4⟩
    have HB4 := Lib.hid (below_later hb4 HB3.out)
    have HT4 := Lib.hid (HT3.out.later hb4)
    obtain ⟨A4, c4, rfl, hA0, hA1⟩ := own_laid2 hown4
    have HO4 := Lib.hid hown4
    have HA0 := Lib.hid hA0
    have HA1 := Lib.hid hA1
    clear hb4 hown4 hA0 hA1
    go_wp2_with fail
    refine (HRC.out _ HT4.out).mono ?_
    rintro e w5 ⟨hb5, v5, rfl, hown5⟩
    have HB5 := Lib.hid (below_later hb5 HB4.out)
    have HT5 := Lib.hid (HT4.out.later hb5)
    have HO5 : Hid (w5.ownsRow w3.heap.size 36 3 (.slice A4 L.length c4) L.length (lflat L)) := Lib.hid (own_later HO4.out hb5)
    have HA5 : Hid (∀ a, A4 = some a → ∃ g, a = ⟨g, 0, none⟩ ∧ w3.heap.size ≤ g ∧ g < w4.heap.size ∧ LaidAt w5 g L) := Lib.hid fun a ha => by
      obtain ⟨g, rfl, h1, h2⟩ := HA1.out a ha
      subst ha
      exact ⟨g, rfl, h1, (HO4.out.lt g rfl).2, h2.later hb5⟩
    have hb45 : w4.heap.size ≤ w5.heap.size := hb5.size
    obtain ⟨A5, c5, rfl, hC0, hC1⟩ := own_laid2 hown5
    have HC0 := Lib.hid hC0
    have HC1 := Lib.hid hC1
    clear hb5 hown5 hC0 hC1
    go_wp2_with fail
    go_loopw [9] (fun i wr => ∃ k : Nat, k ≤ L.length ∧ i = .int .i64 k ∧ Hid (Below w5.heap.size w5 wr)) (fun i _ => L.length - (intOf i).toNat)
    case atStart => exact ⟨0, by omega, rfl, Lib.hid (Below.refl _ _)⟩
    case round =>
      obtain ⟨k, hk, rfl, HBr⟩ := hrel
      by_cases hlt : k < L.length
      · cases A4 with
        | none => have := HA0.out rfl; omega
        | some a4 =>
        cases A5 with
        | none => have := HC0.out rfl; omega
        | some a5 =>
        obtain ⟨g4, rfl, h41, h42, hL4⟩ := HA5.out _ rfl
        obtain ⟨g5, rfl, h51, hL5⟩ := HC1.out _ rfl
        have hx : L[k]? = some L[k] := List.getElem?_eq_getElem hlt
        obtain ⟨q0, q1, q2⟩ := (hL4.later HBr.out) k _ hx
        obtain ⟨r0, r1, r2⟩ := (hL5.later HBr.out) k _ hx
        generalize L[k] = x at *
        clear hx hL4 hL5
        go_wp2_with fail
        refine wp_region_plan (S := fun w' => (w'.cell? ⟨g4, k * 3, none⟩ = some (.int .i64 x.n) ∧ w'.cell? ⟨g4, k * 3 + 1, none⟩ = some (.string x.t) ∧ w'.cell? ⟨g4, k * 3 + 2, none⟩ = some (.string x.u)) ∧ (w'.cell? ⟨g5, k * 3, none⟩ = some (.int .i64 x.n) ∧ w'.cell? ⟨g5, k * 3 + 1, none⟩ = some (.string x.t) ∧ w'.cell? ⟨g5, k * 3 + 2, none⟩ = some (.string x.u)))
          [(0, true), (1, true), (2, true), (3, true), (4, true), (5, true), (6, true), (7, true), (8, true), (9, true), (10, true), (11, true), (12, true), (13, true), (14, true), (15, true), (16, true), (17, true), (18, true), (19, true), (20, true), (21, true), (22, true), (23, true), (24, true), (25, true), (26, true), (27, true), (28, true), (29, true), (30, true), (31, true), (32, true), (33, true), (34, true), (35, true), (36, true)] (by kernel_rfl) (by kernel_rfl) (by kernel_rfl) (fun _ _ _ _ _ h => h) ⟨⟨q0, q1, q2⟩, ⟨r0, r1, r2⟩⟩ ?_
        intro HS
        repeat (first | (apply wpPlan_look; rfl; rfl; (intro wq hq; (try dsimp only at hq); go_split_ands; go_simp; (try rw [if_neg (by omega)]); try with_reducible rfl); simp only [Act.put, List.setIfInBounds_toArray, List.set_cons_zero, List.set_cons_succ]) | (apply wpPlan_skip; rfl; rfl; simp only [Act.put, List.setIfInBounds_toArray, List.set_cons_zero, List.set_cons_succ]) | (apply wpPlan_pass; rfl; rfl; assumption; simp only [Act.put, List.setIfInBounds_toArray, List.set_cons_zero, List.set_cons_succ]))
        apply wpPlan_done
        have HB2 := Lib.hid HBr.out.drew
        clear HS q0 q1 q2 r0 r1 r2
        go_wp2_with fail
        go_roundw
        case rel => exact ⟨k + 1, by omega, by go_num, HB2⟩
        case measure => simp [intOf]; omega
      · obtain rfl : k = L.length := by omega
        have HO6 := Lib.hid (own_later HO5.out HBr.out)
        have HT6 := Lib.hid (HT5.out.later HBr.out)
        have HB6 := Lib.hid (below_later HBr.out HB5.out)
        have HA6 : Hid (∀ a, A4 = some a → ∃ g, a = ⟨g, 0, none⟩ ∧ w3.heap.size ≤ g ∧ g < w4.heap.size ∧ LaidAt wr g L) := Lib.hid fun a ha => by
          obtain ⟨g, h1, h2, h3, h4⟩ := HA5.out a ha
          exact ⟨g, h1, h2, h3, h4.later HBr.out⟩
        have HC6 : Hid (∀ a, A5 = some a → ∃ g, a = ⟨g, 0, none⟩ ∧ w4.heap.size ≤ g ∧ LaidAt wr g L) := Lib.hid fun a ha => by
          obtain ⟨g, h1, h2, h4⟩ := HC1.out a ha
          exact ⟨g, h1, h2, h4.later HBr.out⟩
        have hs46 : w4.heap.size ≤ wr.heap.size := Nat.le_trans hb45 HBr.out.size
        by_cases hcap : L.length + 1 ≤ c4
        · cases A4 with
          | none => have := HA0.out rfl; omega
          | some a4 =>
          obtain ⟨g4, rfl, h41, h42, hL4⟩ := HA6.out _ rfl
          have hown := HO6.out.alloc (.cells #[.int .i64 (-1), .string ⟨#[]⟩, .string ⟨#[]⟩] 36)
          have hbn : Below w.heap.size w (wr.alloc (.cells #[.int .i64 (-1), .string ⟨#[]⟩, .string ⟨#[]⟩] 36)) := HB6.out.alloc HB6.out.size _
          have hbw : Below wr.heap.size wr (wr.alloc (.cells #[.int .i64 (-1), .string ⟨#[]⟩, .string ⟨#[]⟩] 36)) := (Below.refl _ _).alloc (Nat.le_refl _) _
          go_wp2_with (at_builtin; refine wpList_append_fits _ rfl (.tmp 96) (.tmp 98) 30 rfl w3.heap.size 36 i0 3 Try.underlying30 hi hz1 g4 L.length c4 (lflat L) rfl hown ⟨wr.heap.size, 0, none⟩ 1 1 [.int .i64 (-1), .string ⟨#[]⟩, .string ⟨#[]⟩] rfl rfl ?_ ?_ hcap ?_)
          · intro j u hu
            match j, hu with
            | 0, hu => cases hu; go_simp
            | 1, hu => cases hu; go_simp
            | 2, hu => cases hu; go_simp
            | j + 3, hu => simp at hu
          · intro u hu
            simp at hu
            rcases hu with rfl | rfl | rfl <;> rfl
          · intro W hownW hgW
            have hBW : Below w.heap.size w W := hbn.trans ((Below.refl _ _).grown hgW hbn.size fun k hk => by cases hk; have := HB3.out.size; omega)
            have HB7 := Lib.hid hBW
            have HT7 : Hid (Nodes W tv T) := Lib.hid (HN.out.later hBW)
            have HR7 : Hid (∀ a, (some ⟨g4, 0, none⟩ : Option Addr) = some a → ∃ g, a = ⟨g, 0, none⟩ ∧ w3.heap.size ≤ g ∧ g < w4.heap.size ∧ RowL g L.length W) := Lib.hid fun a ha => by
              cases ha
              refine ⟨g4, rfl, h41, h42, ?_⟩
              rcases hownW.2 with ⟨h1, _⟩ | ⟨g', cap, cur, h1, _, h2, h3, _, h4, _⟩
              · cases h1
              · simp only [Value.slice.injEq, Option.some.injEq, Addr.mk.injEq] at h1
                obtain ⟨⟨rfl, _⟩, _, rfl⟩ := h1
                exact ⟨cur, h2, by omega⟩
            have HC7 : Hid (∀ a, A5 = some a → ∃ g, a = ⟨g, 0, none⟩ ∧ w4.heap.size ≤ g ∧ LaidAt W g L) := Lib.hid fun a ha => by
              obtain ⟨g, h1, h2, h4⟩ := HC6.out a ha
              exact ⟨g, h1, h2, (h4.later hbw).grown hgW (by intro e; cases e; omega)⟩
            have hsW : w4.heap.size ≤ W.heap.size := by have := hgW.size; simp at this; omega
            clear hownW hgW hBW hown hbn hbw hL4
            go_wp2_with fail
            refine (CopyNodes_any T tv _ HT7.out (by omega)).mono ?_
            rintro e w8 ⟨v8, rfl, hn8, hb8⟩
            have HB8 := Lib.hid (below_later hb8 HB7.out)
            have HN8 := Lib.hid hn8
            have HR8 : Hid (∀ a, (some ⟨g4, 0, none⟩ : Option Addr) = some a → ∃ g, a = ⟨g, 0, none⟩ ∧ w3.heap.size ≤ g ∧ g < w4.heap.size ∧ RowL g L.length w8) := Lib.hid fun a ha => by
              obtain ⟨g, h1, h2, h3, h4⟩ := HR7.out a ha
              exact ⟨g, h1, h2, h3, h4.later hb8⟩
            have HC8 : Hid (∀ a, A5 = some a → ∃ g, a = ⟨g, 0, none⟩ ∧ w4.heap.size ≤ g ∧ LaidAt w8 g L) := Lib.hid fun a ha => by
              obtain ⟨g, h1, h2, h4⟩ := HC7.out a ha
              exact ⟨g, h1, h2, h4.later hb8⟩
            have hs8 : w4.heap.size ≤ w8.heap.size := Nat.le_trans hsW hb8.size
            clear hb8 hn8
            go_wp2_with fail
            refine (HCG.out v8 _ HN8.out).mono ?_
            rintro e w9 ⟨hb9, v9, rfl, hown9⟩
            have HB9 := Lib.hid (below_later hb9 HB8.out)
            have HR9 : Hid (∀ a, (some ⟨g4, 0, none⟩ : Option Addr) = some a → ∃ g, a = ⟨g, 0, none⟩ ∧ w3.heap.size ≤ g ∧ g < w4.heap.size ∧ RowL g L.length w9) := Lib.hid fun a ha => by
              obtain ⟨g, h1, h2, h3, h4⟩ := HR8.out a ha
              exact ⟨g, h1, h2, h3, h4.later hb9⟩
            have HC9 : Hid (∀ a, A5 = some a → ∃ g, a = ⟨g, 0, none⟩ ∧ w4.heap.size ≤ g ∧ LaidAt w9 g L) := Lib.hid fun a ha => by
              obtain ⟨g, h1, h2, h4⟩ := HC8.out a ha
              exact ⟨g, h1, h2, h4.later hb9⟩
            obtain ⟨A9, c9, rfl, hM0, hM1⟩ := own_laid2 hown9
            have HM0 := Lib.hid hM0
            have HM1 : Hid (∀ a, A9 = some a → ∃ g, a = ⟨g, 0, none⟩ ∧ w4.heap.size ≤ g ∧ LaidAt w9 g L) := Lib.hid fun a ha => by
              obtain ⟨g, h1, h2, h4⟩ := hM1 a ha
              exact ⟨g, h1, by omega, h4⟩
            clear hb9 hown9 hM0 hM1
            go_wp2_with fail
            go_loopw [13] (fun i wr => ∃ k : Nat, k ≤ L.length ∧ i = .int .i64 k ∧ Hid (Below w.heap.size w wr) ∧ Hid (∀ a, (some ⟨g4, 0, none⟩ : Option Addr) = some a → ∃ g, a = ⟨g, 0, none⟩ ∧ w3.heap.size ≤ g ∧ g < w4.heap.size ∧ RowL g L.length wr) ∧ Hid (∀ a, A5 = some a → ∃ g, a = ⟨g, 0, none⟩ ∧ w4.heap.size ≤ g ∧ LaidAt wr g L) ∧ Hid (∀ a, A9 = some a → ∃ g, a = ⟨g, 0, none⟩ ∧ w4.heap.size ≤ g ∧ LaidAt wr g L)) (fun i _ => L.length - (intOf i).toNat)
            case atStart => exact ⟨0, by omega, rfl, HB9, HR9, HC9, HM1⟩
            case round =>
              obtain ⟨k, hk, rfl, HBk, HRk, HCk, HMk⟩ := hrel
              by_cases hlt : k < L.length
              · skip
                skip
                obtain ⟨gq, hgq, hq1, hq2, hq3⟩ := HRk.out _ rfl
                cases hgq
                obtain ⟨x0, y0⟩ := hq3.cell (i := k * 3) (by omega)
                obtain ⟨x1, y1⟩ := hq3.cell (i := k * 3 + 1) (by omega)
                obtain ⟨x2, y2⟩ := hq3.cell (i := k * 3 + 2) (by omega)
                have z0 := hq3.free (k * 3)
                have z1 := hq3.free (k * 3 + 1)
                have z2 := hq3.free (k * 3 + 2)
                have hw3g : w.heap.size ≤ g4 := Nat.le_trans HB3.out.size hq1
                have HR2 := Lib.hid (((hq3.set (k * 3) (.int .i64 0)).set (k * 3 + 1) (.string ⟨#[]⟩)).set (k * 3 + 2) (.string ⟨#[]⟩))
                have HBn : Hid (Below w.heap.size w (((wr.setCell ⟨g4, k * 3, none⟩ (.int .i64 0)).setCell ⟨g4, k * 3 + 1, none⟩ (.string ⟨#[]⟩)).setCell ⟨g4, k * 3 + 2, none⟩ (.string ⟨#[]⟩))) := ((HBk.out.setCell hw3g _).setCell hw3g _).setCell hw3g _
                have HQ1 := Lib.hid hq1
                have HQ2 := Lib.hid hq2
                have HRn : Hid (∀ a, (some ⟨g4, 0, none⟩ : Option Addr) = some a → ∃ g, a = ⟨g, 0, none⟩ ∧ w3.heap.size ≤ g ∧ g < w4.heap.size ∧ RowL g L.length (((wr.setCell ⟨g4, k * 3, none⟩ (.int .i64 0)).setCell ⟨g4, k * 3 + 1, none⟩ (.string ⟨#[]⟩)).setCell ⟨g4, k * 3 + 2, none⟩ (.string ⟨#[]⟩))) := Lib.hid fun a ha => by
                  cases ha
                  exact ⟨g4, rfl, hq1, hq2, HR2.out⟩
                have HCn : Hid (∀ a, A5 = some a → ∃ g, a = ⟨g, 0, none⟩ ∧ w4.heap.size ≤ g ∧ LaidAt (((wr.setCell ⟨g4, k * 3, none⟩ (.int .i64 0)).setCell ⟨g4, k * 3 + 1, none⟩ (.string ⟨#[]⟩)).setCell ⟨g4, k * 3 + 2, none⟩ (.string ⟨#[]⟩)) g L) := Lib.hid fun a ha => by
                  obtain ⟨g, h1, h2, h4⟩ := HCk.out a ha
                  have hne : g ≠ g4 := by omega
                  exact ⟨g, h1, h2, ((h4.set hne).set hne).set hne⟩
                have HMn : Hid (∀ a, A9 = some a → ∃ g, a = ⟨g, 0, none⟩ ∧ w4.heap.size ≤ g ∧ LaidAt (((wr.setCell ⟨g4, k * 3, none⟩ (.int .i64 0)).setCell ⟨g4, k * 3 + 1, none⟩ (.string ⟨#[]⟩)).setCell ⟨g4, k * 3 + 2, none⟩ (.string ⟨#[]⟩)) g L) := Lib.hid fun a ha => by
                  obtain ⟨g, h1, h2, h4⟩ := HMk.out a ha
                  have hne : g ≠ g4 := by omega
                  exact ⟨g, h1, h2, ((h4.set hne).set hne).set hne⟩
                clear hq3 hq1 hq2
                go_wp2_with fail
                first
                  | exact ⟨⟨k + 1, by omega, by go_num, HBn, HRn, HCn, HMn⟩, by simp [intOf]; omega⟩
                  | (go_roundw
                     case rel => exact ⟨k + 1, by omega, by go_num, HBn, HRn, HCn, HMn⟩
                     case measure => simp [intOf]; omega)
              · obtain rfl : k = L.length := by omega
                have hLm : L.length ≤ 32768 := by omega
                have wr1 : IntKind.i64.wrap ((L.length : Int) + 1) = (L.length : Int) + 1 := IntWalk.i64_in _ (by omega)
                have eq1 : (((L.length + 1 : Nat) : Int) == (L.length : Int) + 1) = true := by simp
                rcases Nat.eq_zero_or_pos L.length with h0 | h0
                · have H0 := Lib.hid h0
                  have hz : ((L.length : Int) == 0) = true := by rw [h0]; rfl
                  clear h0
                  go_wp2_with fail
                  refine wp_region_plan (S := fun w' => Below w.heap.size w w')
                    [(0, true), (1, true), (2, true), (3, true), (4, true), (5, true), (6, true), (7, true), (8, true), (9, true), (10, true), (11, true), (12, true), (13, true), (14, true), (15, true), (16, true), (17, true), (18, true), (19, true), (20, true), (21, true), (22, true), (23, false), (24, true), (25, true)] (by kernel_rfl) (by kernel_rfl) (by kernel_rfl) (fun _ _ _ _ _ h => h) HBk.out.drew ?_
                  intro HS
                  repeat (first | (apply wpPlan_look; rfl; rfl; (intro wq hq; (try dsimp only at hq); go_split_ands; go_simp; (try rw [if_neg (by omega)]); try with_reducible rfl); simp only [Act.put, List.setIfInBounds_toArray, List.set_cons_zero, List.set_cons_succ]) | (apply wpPlan_skip; rfl; rfl; simp only [Act.put, List.setIfInBounds_toArray, List.set_cons_zero, List.set_cons_succ]) | (apply wpPlan_pass; rfl; rfl; assumption; simp only [Act.put, List.setIfInBounds_toArray, List.set_cons_zero, List.set_cons_succ]))
                  apply wpPlan_call; rfl; rfl; rfl; rfl; kernel_rfl; exact works_any _; rfl; rintro e w10 ⟨rfl, hb10⟩
                  have HB10 := below_later hb10 HS
                  refine ⟨_, rfl, HB10, ?_⟩
                  simp only [Act.put, List.setIfInBounds_toArray, List.set_cons_zero, List.set_cons_succ]
                  repeat (first | (apply wpPlan_look; rfl; rfl; (intro wq hq; (try dsimp only at hq); go_split_ands; go_simp; (try rw [if_neg (by omega)]); try with_reducible rfl); simp only [Act.put, List.setIfInBounds_toArray, List.set_cons_zero, List.set_cons_succ]) | (apply wpPlan_skip; rfl; rfl; simp only [Act.put, List.setIfInBounds_toArray, List.set_cons_zero, List.set_cons_succ]) | (apply wpPlan_pass; rfl; rfl; assumption; simp only [Act.put, List.setIfInBounds_toArray, List.set_cons_zero, List.set_cons_succ]))
                  apply wpPlan_done
                  go_wp2
                  go_ret
                  exact ⟨rfl, HB10⟩
                · have hz : ((L.length : Int) == 0) = false := beq_eq_false_iff_ne.2 (by omega)
                  cases A5 with
                  | none => have := HC0.out rfl; omega
                  | some a5 =>
                  cases A9 with
                  | none => have := HM0.out rfl; omega
                  | some a9 =>
                  obtain ⟨g5, rfl, _, hL5⟩ := HCk.out _ rfl
                  obtain ⟨g9, rfl, _, hL9⟩ := HMk.out _ rfl
                  have hx : L[0]? = some L[0] := List.getElem?_eq_getElem h0
                  obtain ⟨q0, _, _⟩ := hL9 0 _ hx
                  obtain ⟨r0, _, _⟩ := hL5 0 _ hx
                  rw [Nat.zero_mul] at q0 r0
                  generalize L[0] = x at *
                  have hpos : (0 : Int) < (L.length : Int) := by omega
                  clear hx hL5 hL9
                  go_wp2_with fail
                  refine wp_region_plan (S := fun w' => w'.cell? ⟨g9, 0, none⟩ = some (.int .i64 x.n) ∧ w'.cell? ⟨g5, 0, none⟩ = some (.int .i64 x.n) ∧ Below w.heap.size w w')
                    [(0, true), (1, true), (2, true), (3, true), (4, true), (5, true), (6, true), (7, true), (8, true), (9, true), (10, true), (11, true), (12, true), (13, true), (14, true), (15, true), (16, true), (17, true), (18, true), (19, true), (20, true), (21, true), (22, true), (23, false), (24, true), (25, true)] (by kernel_rfl) (by kernel_rfl) (by kernel_rfl) (fun _ _ _ _ _ h => h) ⟨q0, r0, HBk.out.drew⟩ ?_
                  intro HS
                  repeat (first | (apply wpPlan_look; rfl; rfl; (intro wq hq; (try dsimp only at hq); go_split_ands; go_simp; (try rw [if_neg (by omega)]); try with_reducible rfl); simp only [Act.put, List.setIfInBounds_toArray, List.set_cons_zero, List.set_cons_succ]) | (apply wpPlan_skip; rfl; rfl; simp only [Act.put, List.setIfInBounds_toArray, List.set_cons_zero, List.set_cons_succ]) | (apply wpPlan_pass; rfl; rfl; assumption; simp only [Act.put, List.setIfInBounds_toArray, List.set_cons_zero, List.set_cons_succ]))
                  apply wpPlan_call; rfl; rfl; rfl; rfl; kernel_rfl; exact works_any _; rfl; rintro e w10 ⟨rfl, hb10⟩
                  have HB10 := below_later hb10 HS.2.2
                  refine ⟨_, rfl, ⟨cell_later hb10 HS.1, cell_later hb10 HS.2.1, HB10⟩, ?_⟩
                  simp only [Act.put, List.setIfInBounds_toArray, List.set_cons_zero, List.set_cons_succ]
                  repeat (first | (apply wpPlan_look; rfl; rfl; (intro wq hq; (try dsimp only at hq); go_split_ands; go_simp; (try rw [if_neg (by omega)]); try with_reducible rfl); simp only [Act.put, List.setIfInBounds_toArray, List.set_cons_zero, List.set_cons_succ]) | (apply wpPlan_skip; rfl; rfl; simp only [Act.put, List.setIfInBounds_toArray, List.set_cons_zero, List.set_cons_succ]) | (apply wpPlan_pass; rfl; rfl; assumption; simp only [Act.put, List.setIfInBounds_toArray, List.set_cons_zero, List.set_cons_succ]))
                  apply wpPlan_done
                  go_wp2
                  go_ret
                  exact ⟨rfl, HB10⟩
        · have hown := HO6.out.alloc (.cells #[.int .i64 (-1), .string ⟨#[]⟩, .string ⟨#[]⟩] 36)
          have hbn : Below w.heap.size w (wr.alloc (.cells #[.int .i64 (-1), .string ⟨#[]⟩, .string ⟨#[]⟩] 36)) := HB6.out.alloc HB6.out.size _
          have hbw : Below wr.heap.size wr (wr.alloc (.cells #[.int .i64 (-1), .string ⟨#[]⟩, .string ⟨#[]⟩] 36)) := (Below.refl _ _).alloc (Nat.le_refl _) _
          have hrow : ∀ a, A4 = some a → ∃ g, a = ⟨g, 0, none⟩ ∧ w3.heap.size ≤ g ∧ g < w4.heap.size ∧ RowL g L.length wr := fun a ha => by
            obtain ⟨g, h1, h2, h3, h4⟩ := HA6.out a ha
            subst ha h1
            refine ⟨g, rfl, h2, h3, ?_⟩
            rcases HO6.out.2 with ⟨h1, _⟩ | ⟨g', cap, cur, h1, _, h5, h6, _, h7, _⟩
            · cases h1
            · simp only [Value.slice.injEq, Option.some.injEq, Addr.mk.injEq] at h1
              obtain ⟨⟨rfl, _⟩, _, rfl⟩ := h1
              exact ⟨cur, h5, by omega⟩
          go_wp2_with (at_builtin; refine wpList_append_grows _ rfl (.tmp 96) (.tmp 98) 30 rfl 36 i0 _ 3 40 Try.underlying30 hi hz0 hz1 hz2 rfl (by decide) A4 L.length c4 (lflat L) rfl HA0.out (lflat_len L) ?_ ⟨wr.heap.size, 0, none⟩ 1 1 [.int .i64 (-1), .string ⟨#[]⟩, .string ⟨#[]⟩] rfl rfl ?_ ?_ (by omega) (by unfold maxLen; omega) (by omega) ?_)
          · intro a ha j u hu
            subst ha
            obtain ⟨g, rfl, _⟩ := hrow _ rfl
            exact hown.cells (g := g) rfl j u hu
          · intro j u hu
            match j, hu with
            | 0, hu => cases hu; go_simp
            | 1, hu => cases hu; go_simp
            | 2, hu => cases hu; go_simp
            | j + 3, hu => simp at hu
          · intro u hu
            simp at hu
            rcases hu with rfl | rfl | rfl <;> rfl
          · intro vW W hownW hgW
            have hBW : Below w.heap.size w W := hbn.trans ((Below.refl _ _).grown hgW hbn.size fun k hk => by cases hk)
            have hbW2 : Below wr.heap.size wr W := hbw.trans (((Below.refl _ _).grown hgW (Nat.le_refl _) fun k hk => by cases hk).mono hbw.size)
            have HB7 := Lib.hid hBW
            have HT7 : Hid (Nodes W tv T) := Lib.hid (HN.out.later hBW)
            have HR7 : Hid (∀ a, A4 = some a → ∃ g, a = ⟨g, 0, none⟩ ∧ w3.heap.size ≤ g ∧ g < w4.heap.size ∧ RowL g L.length W) := Lib.hid fun a ha => by
              obtain ⟨g, h1, h2, h3, h4⟩ := hrow a ha
              exact ⟨g, h1, h2, h3, h4.later hbW2⟩
            have HC7 : Hid (∀ a, A5 = some a → ∃ g, a = ⟨g, 0, none⟩ ∧ w4.heap.size ≤ g ∧ LaidAt W g L) := Lib.hid fun a ha => by
              obtain ⟨g, h1, h2, h4⟩ := HC6.out a ha
              exact ⟨g, h1, h2, h4.later hbW2⟩
            have hsW : w4.heap.size ≤ W.heap.size := Nat.le_trans hs46 hbW2.size
            have hvW : ∃ a c, vW = .slice (some a) (L.length + 1) c := by
              rcases hownW.2 with ⟨_, h1⟩ | ⟨g', cap, cur, h1, _⟩
              · omega
              · exact ⟨_, _, h1⟩
            obtain ⟨aW, cW, rfl⟩ := hvW
            clear hownW hgW hBW hbW2 hown hbn hbw hrow
            go_wp2_with fail
            refine (CopyNodes_any T tv _ HT7.out (by omega)).mono ?_
            rintro e w8 ⟨v8, rfl, hn8, hb8⟩
            have HB8 := Lib.hid (below_later hb8 HB7.out)
            have HN8 := Lib.hid hn8
            have HR8 : Hid (∀ a, (A4 : Option Addr) = some a → ∃ g, a = ⟨g, 0, none⟩ ∧ w3.heap.size ≤ g ∧ g < w4.heap.size ∧ RowL g L.length w8) := Lib.hid fun a ha => by
              obtain ⟨g, h1, h2, h3, h4⟩ := HR7.out a ha
              exact ⟨g, h1, h2, h3, h4.later hb8⟩
            have HC8 : Hid (∀ a, A5 = some a → ∃ g, a = ⟨g, 0, none⟩ ∧ w4.heap.size ≤ g ∧ LaidAt w8 g L) := Lib.hid fun a ha => by
              obtain ⟨g, h1, h2, h4⟩ := HC7.out a ha
              exact ⟨g, h1, h2, h4.later hb8⟩
            have hs8 : w4.heap.size ≤ w8.heap.size := Nat.le_trans hsW hb8.size
            clear hb8 hn8
            go_wp2_with fail
            refine (HCG.out v8 _ HN8.out).mono ?_
            rintro e w9 ⟨hb9, v9, rfl, hown9⟩
            have HB9 := Lib.hid (below_later hb9 HB8.out)
            have HR9 : Hid (∀ a, (A4 : Option Addr) = some a → ∃ g, a = ⟨g, 0, none⟩ ∧ w3.heap.size ≤ g ∧ g < w4.heap.size ∧ RowL g L.length w9) := Lib.hid fun a ha => by
              obtain ⟨g, h1, h2, h3, h4⟩ := HR8.out a ha
              exact ⟨g, h1, h2, h3, h4.later hb9⟩
            have HC9 : Hid (∀ a, A5 = some a → ∃ g, a = ⟨g, 0, none⟩ ∧ w4.heap.size ≤ g ∧ LaidAt w9 g L) := Lib.hid fun a ha => by
              obtain ⟨g, h1, h2, h4⟩ := HC8.out a ha
              exact ⟨g, h1, h2, h4.later hb9⟩
            obtain ⟨A9, c9, rfl, hM0, hM1⟩ := own_laid2 hown9
            have HM0 := Lib.hid hM0
            have HM1 : Hid (∀ a, A9 = some a → ∃ g, a = ⟨g, 0, none⟩ ∧ w4.heap.size ≤ g ∧ LaidAt w9 g L) := Lib.hid fun a ha => by
              obtain ⟨g, h1, h2, h4⟩ := hM1 a ha
              exact ⟨g, h1, by omega, h4⟩
            clear hb9 hown9 hM0 hM1
            go_wp2_with fail
            go_loopw [13] (fun i wr => ∃ k : Nat, k ≤ L.length ∧ i = .int .i64 k ∧ Hid (Below w.heap.size w wr) ∧ Hid (∀ a, (A4 : Option Addr) = some a → ∃ g, a = ⟨g, 0, none⟩ ∧ w3.heap.size ≤ g ∧ g < w4.heap.size ∧ RowL g L.length wr) ∧ Hid (∀ a, A5 = some a → ∃ g, a = ⟨g, 0, none⟩ ∧ w4.heap.size ≤ g ∧ LaidAt wr g L) ∧ Hid (∀ a, A9 = some a → ∃ g, a = ⟨g, 0, none⟩ ∧ w4.heap.size ≤ g ∧ LaidAt wr g L)) (fun i _ => L.length - (intOf i).toNat)
            case atStart => exact ⟨0, by omega, rfl, HB9, HR9, HC9, HM1⟩
            case round =>
              obtain ⟨k, hk, rfl, HBk, HRk, HCk, HMk⟩ := hrel
              by_cases hlt : k < L.length
              · skip
                have hA : ∃ g, A4 = some ⟨g, 0, none⟩ := by
                  cases A4 with
                  | none => have := HA0.out rfl; omega
                  | some a => obtain ⟨g, h, _⟩ := HRk.out _ rfl; exact ⟨g, by rw [h]⟩
                obtain ⟨g4, rfl⟩ := hA
                obtain ⟨gq, hgq, hq1, hq2, hq3⟩ := HRk.out _ rfl
                cases hgq
                obtain ⟨x0, y0⟩ := hq3.cell (i := k * 3) (by omega)
                obtain ⟨x1, y1⟩ := hq3.cell (i := k * 3 + 1) (by omega)
                obtain ⟨x2, y2⟩ := hq3.cell (i := k * 3 + 2) (by omega)
                have z0 := hq3.free (k * 3)
                have z1 := hq3.free (k * 3 + 1)
                have z2 := hq3.free (k * 3 + 2)
                have hw3g : w.heap.size ≤ g4 := Nat.le_trans HB3.out.size hq1
                have HR2 := Lib.hid (((hq3.set (k * 3) (.int .i64 0)).set (k * 3 + 1) (.string ⟨#[]⟩)).set (k * 3 + 2) (.string ⟨#[]⟩))
                have HBn : Hid (Below w.heap.size w (((wr.setCell ⟨g4, k * 3, none⟩ (.int .i64 0)).setCell ⟨g4, k * 3 + 1, none⟩ (.string ⟨#[]⟩)).setCell ⟨g4, k * 3 + 2, none⟩ (.string ⟨#[]⟩))) := ((HBk.out.setCell hw3g _).setCell hw3g _).setCell hw3g _
                have HQ1 := Lib.hid hq1
                have HQ2 := Lib.hid hq2
                have HRn : Hid (∀ a, (some ⟨g4, 0, none⟩ : Option Addr) = some a → ∃ g, a = ⟨g, 0, none⟩ ∧ w3.heap.size ≤ g ∧ g < w4.heap.size ∧ RowL g L.length (((wr.setCell ⟨g4, k * 3, none⟩ (.int .i64 0)).setCell ⟨g4, k * 3 + 1, none⟩ (.string ⟨#[]⟩)).setCell ⟨g4, k * 3 + 2, none⟩ (.string ⟨#[]⟩))) := Lib.hid fun a ha => by
                  cases ha
                  exact ⟨g4, rfl, hq1, hq2, HR2.out⟩
                have HCn : Hid (∀ a, A5 = some a → ∃ g, a = ⟨g, 0, none⟩ ∧ w4.heap.size ≤ g ∧ LaidAt (((wr.setCell ⟨g4, k * 3, none⟩ (.int .i64 0)).setCell ⟨g4, k * 3 + 1, none⟩ (.string ⟨#[]⟩)).setCell ⟨g4, k * 3 + 2, none⟩ (.string ⟨#[]⟩)) g L) := Lib.hid fun a ha => by
                  obtain ⟨g, h1, h2, h4⟩ := HCk.out a ha
                  have hne : g ≠ g4 := by omega
                  exact ⟨g, h1, h2, ((h4.set hne).set hne).set hne⟩
                have HMn : Hid (∀ a, A9 = some a → ∃ g, a = ⟨g, 0, none⟩ ∧ w4.heap.size ≤ g ∧ LaidAt (((wr.setCell ⟨g4, k * 3, none⟩ (.int .i64 0)).setCell ⟨g4, k * 3 + 1, none⟩ (.string ⟨#[]⟩)).setCell ⟨g4, k * 3 + 2, none⟩ (.string ⟨#[]⟩)) g L) := Lib.hid fun a ha => by
                  obtain ⟨g, h1, h2, h4⟩ := HMk.out a ha
                  have hne : g ≠ g4 := by omega
                  exact ⟨g, h1, h2, ((h4.set hne).set hne).set hne⟩
                clear hq3 hq1 hq2
                go_wp2_with fail
                first
                  | exact ⟨⟨k + 1, by omega, by go_num, HBn, HRn, HCn, HMn⟩, by simp [intOf]; omega⟩
                  | (go_roundw
                     case rel => exact ⟨k + 1, by omega, by go_num, HBn, HRn, HCn, HMn⟩
                     case measure => simp [intOf]; omega)
              · obtain rfl : k = L.length := by omega
                have hLm : L.length ≤ 32768 := by omega
                have wr1 : IntKind.i64.wrap ((L.length : Int) + 1) = (L.length : Int) + 1 := IntWalk.i64_in _ (by omega)
                have eq1 : (((L.length + 1 : Nat) : Int) == (L.length : Int) + 1) = true := by simp
                rcases Nat.eq_zero_or_pos L.length with h0 | h0
                · have H0 := Lib.hid h0
                  have hz : ((L.length : Int) == 0) = true := by rw [h0]; rfl
                  clear h0
                  go_wp2_with fail
                  refine wp_region_plan (S := fun w' => Below w.heap.size w w')
                    [(0, true), (1, true), (2, true), (3, true), (4, true), (5, true), (6, true), (7, true), (8, true), (9, true), (10, true), (11, true), (12, true), (13, true), (14, true), (15, true), (16, true), (17, true), (18, true), (19, true), (20, true), (21, true), (22, true), (23, false), (24, true), (25, true)] (by kernel_rfl) (by kernel_rfl) (by kernel_rfl) (fun _ _ _ _ _ h => h) HBk.out.drew ?_
                  intro HS
                  repeat (first | (apply wpPlan_look; rfl; rfl; (intro wq hq; (try dsimp only at hq); go_split_ands; go_simp; (try rw [if_neg (by omega)]); try with_reducible rfl); simp only [Act.put, List.setIfInBounds_toArray, List.set_cons_zero, List.set_cons_succ]) | (apply wpPlan_skip; rfl; rfl; simp only [Act.put, List.setIfInBounds_toArray, List.set_cons_zero, List.set_cons_succ]) | (apply wpPlan_pass; rfl; rfl; assumption; simp only [Act.put, List.setIfInBounds_toArray, List.set_cons_zero, List.set_cons_succ]))
                  apply wpPlan_call; rfl; rfl; rfl; rfl; kernel_rfl; exact works_any _; rfl; rintro e w10 ⟨rfl, hb10⟩
                  have HB10 := below_later hb10 HS
                  refine ⟨_, rfl, HB10, ?_⟩
                  simp only [Act.put, List.setIfInBounds_toArray, List.set_cons_zero, List.set_cons_succ]
                  repeat (first | (apply wpPlan_look; rfl; rfl; (intro wq hq; (try dsimp only at hq); go_split_ands; go_simp; (try rw [if_neg (by omega)]); try with_reducible rfl); simp only [Act.put, List.setIfInBounds_toArray, List.set_cons_zero, List.set_cons_succ]) | (apply wpPlan_skip; rfl; rfl; simp only [Act.put, List.setIfInBounds_toArray, List.set_cons_zero, List.set_cons_succ]) | (apply wpPlan_pass; rfl; rfl; assumption; simp only [Act.put, List.setIfInBounds_toArray, List.set_cons_zero, List.set_cons_succ]))
                  apply wpPlan_done
                  go_wp2
                  go_ret
                  exact ⟨rfl, HB10⟩
                · have hz : ((L.length : Int) == 0) = false := beq_eq_false_iff_ne.2 (by omega)
                  cases A5 with
                  | none => have := HC0.out rfl; omega
                  | some a5 =>
                  cases A9 with
                  | none => have := HM0.out rfl; omega
                  | some a9 =>
                  obtain ⟨g5, rfl, _, hL5⟩ := HCk.out _ rfl
                  obtain ⟨g9, rfl, _, hL9⟩ := HMk.out _ rfl
                  have hx : L[0]? = some L[0] := List.getElem?_eq_getElem h0
                  obtain ⟨q0, _, _⟩ := hL9 0 _ hx
                  obtain ⟨r0, _, _⟩ := hL5 0 _ hx
                  rw [Nat.zero_mul] at q0 r0
                  generalize L[0] = x at *
                  have hpos : (0 : Int) < (L.length : Int) := by omega
                  clear hx hL5 hL9
                  go_wp2_with fail
                  refine wp_region_plan (S := fun w' => w'.cell? ⟨g9, 0, none⟩ = some (.int .i64 x.n) ∧ w'.cell? ⟨g5, 0, none⟩ = some (.int .i64 x.n) ∧ Below w.heap.size w w')
                    [(0, true), (1, true), (2, true), (3, true), (4, true), (5, true), (6, true), (7, true), (8, true), (9, true), (10, true), (11, true), (12, true), (13, true), (14, true), (15, true), (16, true), (17, true), (18, true), (19, true), (20, true), (21, true), (22, true), (23, false), (24, true), (25, true)] (by kernel_rfl) (by kernel_rfl) (by kernel_rfl) (fun _ _ _ _ _ h => h) ⟨q0, r0, HBk.out.drew⟩ ?_
                  intro HS
                  repeat (first | (apply wpPlan_look; rfl; rfl; (intro wq hq; (try dsimp only at hq); go_split_ands; go_simp; (try rw [if_neg (by omega)]); try with_reducible rfl); simp only [Act.put, List.setIfInBounds_toArray, List.set_cons_zero, List.set_cons_succ]) | (apply wpPlan_skip; rfl; rfl; simp only [Act.put, List.setIfInBounds_toArray, List.set_cons_zero, List.set_cons_succ]) | (apply wpPlan_pass; rfl; rfl; assumption; simp only [Act.put, List.setIfInBounds_toArray, List.set_cons_zero, List.set_cons_succ]))
                  apply wpPlan_call; rfl; rfl; rfl; rfl; kernel_rfl; exact works_any _; rfl; rintro e w10 ⟨rfl, hb10⟩
                  have HB10 := below_later hb10 HS.2.2
                  refine ⟨_, rfl, ⟨cell_later hb10 HS.1, cell_later hb10 HS.2.1, HB10⟩, ?_⟩
                  simp only [Act.put, List.setIfInBounds_toArray, List.set_cons_zero, List.set_cons_succ]
                  repeat (first | (apply wpPlan_look; rfl; rfl; (intro wq hq; (try dsimp only at hq); go_split_ands; go_simp; (try rw [if_neg (by omega)]); try with_reducible rfl); simp only [Act.put, List.setIfInBounds_toArray, List.set_cons_zero, List.set_cons_succ]) | (apply wpPlan_skip; rfl; rfl; simp only [Act.put, List.setIfInBounds_toArray, List.set_cons_zero, List.set_cons_succ]) | (apply wpPlan_pass; rfl; rfl; assumption; simp only [Act.put, List.setIfInBounds_toArray, List.set_cons_zero, List.set_cons_succ]))
                  apply wpPlan_done
                  go_wp2
                  go_ret
                  exact ⟨rfl, HB10⟩
end Go.Proofs.Ytnmhiddahfnkoaa
