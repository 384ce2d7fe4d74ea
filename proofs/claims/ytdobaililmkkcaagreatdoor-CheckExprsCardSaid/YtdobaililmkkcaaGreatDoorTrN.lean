
/- Walks of trees: where a part ends. -/
import Derived.Test.YtdobaililmkkcaaGreatDoorTrK
import Derived.Defers
import Derived.Recover
import Derived.Test.YtdobaililmkkcaaGreatDoorTrM
namespace Go.Proofs.YtdobaililmkkcaaGreatDoor
set_option linter.unusedSimpArgs false
set_option linter.unusedVariables false
open Go.RowKit Go.Maps Culp

/-- What is thrown. -/
def endsP : Value := .iface 170 (.agg #[])
/-- The part's end, or the throw. -/
def BehRes (T : List Nd) (a : Nat) (w : World) (e : Ending) (w' : World) : Prop := w' = w ∧ match Tr.beh T.length (T.drop a) 1 with
  | some k => e = .returned (.int .i64 ((a + k : Nat) : Int))
  | none => e = .panicked [{ v := endsP, recovered := false }]
/-- On the way: what is still to come tells what the whole is. -/
def Way (T : List Nd) (a j : Nat) (left : Int) : Prop := a ≤ j ∧ Tr.beh T.length (T.drop a) 1 = (Tr.beh T.length (T.drop j) left).map (· + (j - a))
section
variable {T : List Nd} {a j : Nat} {left : Int}
theorem Way.start (T : List Nd) (a : Nat) : Way T a a 1 := ⟨Nat.le_refl _, by rw [Nat.sub_self]; cases Tr.beh T.length (T.drop a) 1 <;> rfl⟩
theorem Way.zero (h : Way T a j 0) : Tr.beh T.length (T.drop a) 1 = some (j - a) := by rw [h.2, Tr.beh_zero]; simp
theorem Way.done (h : Way T a j left) (hj : T.length ≤ j) (hl : 0 < left) : Tr.beh T.length (T.drop a) 1 = none := by
  rw [h.2, List.drop_of_length_le hj, Tr.beh_nil, if_neg (by omega)]; rfl
theorem Way.bad (h : Way T a j left) (hj : j < T.length) (hl : 0 < left) (hx : T[j].kids < 0 ∨ (T.length : Int) < T[j].kids) : Tr.beh T.length (T.drop a) 1 = none := by
  rw [h.2, List.drop_eq_getElem_cons hj, Tr.beh_cons, if_neg (by omega), if_pos hx]; rfl
theorem Way.step (h : Way T a j left) (hj : j < T.length) (hl : 0 < left) (hx : ¬ (T[j].kids < 0 ∨ (T.length : Int) < T[j].kids)) : Way T a (j + 1) (left - 1 + T[j].kids) := by
  obtain ⟨h1, h2⟩ := h
  refine ⟨by omega, ?_⟩
  rw [h2, List.drop_eq_getElem_cons hj, Tr.beh_cons, if_neg (by omega), if_neg hx]
  cases Tr.beh T.length (T.drop (j + 1)) (left - 1 + T[j].kids) with
  | none => rfl
  | some k => simp only [Option.map_some, Option.some.injEq]; omega
end
set_option maxRecDepth 100000 in
set_option maxHeartbeats 1600000 in
theorem tbehind_any (T : List Nd) (tv : Value) (m : Nat) (w : World) (hn : Nodes w tv T) (hT : T.length ≤ 1000000):
    Calls Tryz.prog 94 #[tv, .int .i64 m] w (BehRes T m w) := by
  have HN := Lib.hid hn
  obtain ⟨A, c, rfl, hlc, _⟩ := hn
  have HW0 := Lib.hid (Way.start T m)
  go_enter Tryz.func94, Tryz.ntmps94
  go_wp2_with fail
  go_loop [1, 5] (fun av lv => ∃ (j : Nat) (left : Int), m ≤ j ∧ j ≤ m + T.length ∧ 0 ≤ left ∧ left ≤ 1 + (j : Int) * 1000000 ∧ av = .int .i64 j ∧ lv = .int .i64 left ∧ Hid (Way T m j left)) (fun av _ => m + T.length + 1 - (intOf av).toNat)
  case atStart => exact ⟨m, 1, Nat.le_refl _, by omega, by omega, by omega, rfl, rfl, HW0⟩
  case round =>
    obtain ⟨j, left, hmj, hj, hl0, hl1, rfl, rfl, H⟩ := hrel
    by_cases hz : left = 0
    · have HF : Hid (Tr.beh T.length (T.drop m) 1 = some (j - m)) := Lib.hid (by have := H.out; rw [hz] at this; exact this.zero)
      have hlz : ¬ 0 < left := by omega
      have hjm : m + (j - m) = j := by omega
      clear H hz
      go_wp2_with fail
      go_ret
      exact ⟨rfl, by rw [HF.out]; simp only; rw [hjm]; rfl⟩
    have hlp : 0 < left := by omega
    by_cases hlt : j < T.length
    · obtain ⟨A2, c2, e2, _, hN⟩ := HN.out
      simp only [Value.slice.injEq] at e2
      obtain ⟨rfl, _, rfl⟩ := e2
      obtain ⟨b, off, rfl, hM⟩ := hN (by omega)
      have hx : T[j]? = some T[j] := List.getElem?_eq_getElem hlt
      obtain ⟨n0, n1, n2, n3, n4, n5, n6, n7⟩ := hM.at_ hx
      by_cases hb : T[j].kids < 0 ∨ (T.length : Int) < T[j].kids
      · have HF := Lib.hid (H.out.bad hlt hlp hb)
        generalize T[j] = x at *
        clear hx hN hM H n0 n2 n3 n4 n5 n6 n7 hz
        rcases hb with hb | hb
        ·
          go_wp2_with fail
          exact ⟨rfl, rfl, by rw [HF.out]; rfl⟩
        · have hb0 : ¬ x.kids < 0 := by omega
          go_wp2_with fail
          exact ⟨rfl, rfl, by rw [HF.out]; rfl⟩
      · have HF := Lib.hid (H.out.step hlt hlp hb)
        generalize T[j] = x at *
        have hb1 : 0 ≤ x.kids := by omega
        have hb2 : x.kids ≤ (T.length : Int) := by omega
        have hlu : left ≤ 1 + 1000000 * 1000000 := by
          have : (j : Int) * 1000000 ≤ 1000000 * 1000000 := by omega
          omega
        have hcomm : left + x.kids - 1 = left - 1 + x.kids := by omega
        clear hx hN hM H n0 n2 n3 n4 n5 n6 n7 hz hb
        go_wp2_with fail
        go_round
        case rel => exact ⟨j + 1, left - 1 + x.kids, by omega, by omega, by omega, by omega, by go_num, rfl, HF⟩
        case measure => simp [intOf]; omega
    · have HF := Lib.hid (H.out.done (by omega) hlp)
      clear H hz
      go_wp2_with fail
      exact ⟨rfl, rfl, by rw [HF.out]; rfl⟩
/-- A block of one cell. -/
def One (a : Nat) (t : TypeId) (v : Value) (w : World) : Prop := w.heap[a]? = some (.cells #[v] t (0, 0))
theorem One.cell {a : Nat} {t : TypeId} {v : Value} {w : World} (h : One a t v w) : w.cell? ⟨a, 0, none⟩ = some v := by unfold One at h; simp [World.cell?, h]
theorem One.free {a : Nat} {t : TypeId} {v : Value} {w : World} (h : One a t v w) : w.frozen? ⟨a, 0, none⟩ = false := by unfold One at h; simp [World.frozen?, h]
theorem One.put {a : Nat} {t : TypeId} {v : Value} {w : World} (h : One a t v w) (u : Value) : One a t u (w.setCell ⟨a, 0, none⟩ u) := by
  unfold One at h ⊢
  simp [World.setCell, Array.getElem?_modify, h]
theorem one_alloc (w : World) (t : TypeId) (v : Value) : One w.heap.size t v (w.alloc (.cells #[v] t)) := (MapKept.heap_alloc w _).1
theorem mode_same {c₀ : Frame} {cs : List Frame} {u : FrameMode} (hu : c₀.mode = u) : c₀ :: cs = { c₀ with mode := u } :: cs := by cases c₀; simp_all
theorem catch_idle (a : Nat) (w : World) :
    CallsD Tryz.prog 119 #[.pointer (some ⟨a, 0, none⟩)] .returning w fun e u' w' => e = .returned (.tuple #[]) ∧ u' = .returning ∧ w' = w := by
  refine callsD_of_wpS Tryz.func119 rfl fun c₀ cs hu => ?_
  simp only [Tryz.ntmps119, Array.replicate, List.replicate, List.size_toArray, List.length_cons, List.length_nil]
  apply wpS_seq
  apply wpS_region
  simp [wpOpsS, go_sem, recoverD, hu, Exit.thenS]
  refine wpS_of_wp ?_
  go_wp2
  exact ⟨rfl, _, mode_same hu, _, results_none rfl _ _ _, rfl, rfl, rfl⟩
theorem catch_ends (a B : Nat) (x : Value) (older : List PanicEntry) (w : World) (hx : One a 3 x w) (ha : B ≤ a) :
    CallsD Tryz.prog 119 #[.pointer (some ⟨a, 0, none⟩)] (.panicking ({ v := endsP, recovered := false } :: older)) w fun en u' w' =>
      en = .returned (.tuple #[]) ∧ u' = .panicking ({ v := endsP, recovered := true } :: older) ∧ w'.cell? ⟨a, 0, none⟩ = some (.int .i64 0) ∧ Below B w w' := by
  have hp := (hx.put (.int .i64 0)).cell
  have hb : Below B w (w.setCell ⟨a, 0, none⟩ (.int .i64 0)) := (Below.refl _ _).setCell ha _
  have hc := hx.cell
  have hf := hx.free
  unfold endsP
  refine callsD_of_wpS Tryz.func119 rfl fun c₀ cs hu => ?_
  simp only [Tryz.ntmps119, Array.replicate, List.replicate, List.size_toArray, List.length_cons, List.length_nil]
  apply wpS_seq
  apply wpS_region
  simp [wpOpsS, go_sem, recoverD, hu, Exit.thenS]
  refine wpS_of_wp ?_
  go_wp2
  exact ⟨rfl, _, rfl, _, results_none rfl _ _ _, rfl, rfl, hp, hb⟩
theorem tbeh_some {T : List Nd} {m k : Nat} (hm : m < T.length) (h : Tr.beh T.length (T.drop m) 1 = some k) : Tr.behind T (m : Int) = m + k := by
  unfold Tr.behind
  rw [if_neg (by omega), show (m : Int).toNat = m from Int.toNat_natCast m, h]
theorem tbeh_none {T : List Nd} {m : Nat} (h : Tr.beh T.length (T.drop m) 1 = none) : Tr.behind T (m : Int) = 0 := by
  unfold Tr.behind
  split
  · rfl
  · rw [show (m : Int).toNat = m from Int.toNat_natCast m, h]
set_option maxRecDepth 100000 in
set_option maxHeartbeats 1600000 in
theorem tBehind_any (T : List Nd) (tv : Value) (a : Int) (w : World) (hn : Nodes w tv T) (hT : T.length ≤ 1000000) :
    Calls Tryz.prog 93 #[tv, .int .i64 a] w (Makes (.int .i64 (Tr.behind T a)) w) := by
  have hmf : ∀ (fn : Fn) (first cap : Array Value) (w : World), (Instr.makeFunc fn first cap).run Tryz.prog w = .ok (.func fn first cap) w := fun _ _ _ _ => rfl
  have HN := Lib.hid hn
  have hO : One w.heap.size 3 (.int .i64 0) (w.alloc (.cells #[.int .i64 0] 3)) := one_alloc _ _ _
  have hB : Below w.heap.size w (w.alloc (.cells #[.int .i64 0] 3)) := (Below.refl _ _).alloc (Nat.le_refl _) _
  have HO := Lib.hid hO
  have HB := Lib.hid hB
  by_cases ha : a < 0
  · have HF : Hid (Tr.behind T a = 0) := Lib.hid (by unfold Tr.behind; rw [if_pos (.inl ha)])
    clear hO hB
    go_enter_defers Tryz.func93, Tryz.ntmps93
    go_wp2_with fail
    rw [HF.out]
    simp [bodyPostD, Leaves, settle, results, Tryz.results93, go_sem, Makes]
    exact HB.out
  obtain ⟨m, rfl⟩ := Int.eq_ofNat_of_zero_le (show 0 ≤ a by omega)
  have HBH := Lib.hid (tbehind_any T tv m _ (HN.out.later hB) hT)
  clear hO hB
  cases h : Tr.beh T.length (T.drop m) 1 with
  | some k =>
    have hm : m < T.length := by
      rcases Nat.lt_or_ge m T.length with h1 | h1
      · exact h1
      · rw [List.drop_of_length_le h1, Tr.beh_nil, if_neg (by decide)] at h; cases h
    have HF := Lib.hid (tbeh_some hm h)
    have HK := Lib.hid h
    clear h hm
    go_enter_defers Tryz.func93, Tryz.ntmps93
    go_wp2_with fail
    refine HBH.out.mono ?_
    rintro e w2 ⟨rfl, he⟩
    rw [HK.out] at he
    obtain rfl := he
    have f0 := HO.out.cell
    have g0 := HO.out.free
    go_wp2_with fail
    refine leaves_cons (f := 119) (args := #[.pointer (some ⟨w.heap.size, 0, none⟩)]) (by simp) (by simp [go_sem]) ?_
    refine (catch_idle _ _).mono ?_
    rintro e u' w'' ⟨rfl, rfl, rfl⟩
    rw [HF.out]
    simp [Leaves, settle, results, Tryz.results93, go_sem, Makes]
    exact (Below.refl _ _).alloc (Nat.le_refl _) _
  | none =>
    have HF := Lib.hid (tbeh_none h)
    have HK := Lib.hid h
    clear h
    go_enter_defers Tryz.func93, Tryz.ntmps93
    go_wp2_with fail
    refine HBH.out.mono ?_
    rintro e w2 ⟨rfl, he⟩
    rw [HK.out] at he
    obtain rfl := he
    refine leaves_cons (f := 119) (args := #[.pointer (some ⟨w.heap.size, 0, none⟩)]) (by simp) (by simp [go_sem]) ?_
    refine (catch_ends w.heap.size w.heap.size _ [] _ HO.out (Nat.le_refl _)).mono ?_
    rintro e u' w'' ⟨rfl, rfl, k0, hB2⟩
    rw [HF.out]
    simp [Leaves, settle, results, Tryz.results93, go_sem, k0, Makes]
    exact HB.out.trans hB2
end Go.Proofs.YtdobaililmkkcaaGreatDoor

/- Walks of trees: a node's kids. -/
namespace Go.Proofs.YtdobaililmkkcaaGreatDoor
open Go.RowKit Go.Maps Culp

/-- What Kids answers. -/
def KidRes (T : List Nd) (a : Int) (w : World) (e : Ending) (w' : World) : Prop := ∃ v, e = .returned v ∧ w'.ownsRow w.heap.size 3 1 v (Tr.kidsOf T a).length ((Tr.kidsOf T a).map natV) ∧ Below w.heap.size w w'
theorem kids_nil {T : List Nd} {a : Int} (h : Tr.behind T a = 0) : Tr.kidsOf T a = [] := by unfold Tr.kidsOf; rw [if_pos h]
theorem kids_some {T : List Nd} {m : Nat} {x : Nd} (h : Tr.behind T (m : Int) ≠ 0) (hx : T[m]? = some x) : Tr.kidsOf T m = Tr.kidsFrom T x.kids.toNat (m + 1) := by
  unfold Tr.kidsOf; rw [if_neg h, show (m : Int).toNat = m from Int.toNat_natCast m, hx]; rfl
set_option maxRecDepth 100000 in
set_option maxHeartbeats 1600000 in
theorem tKids_any (T : List Nd) (tv : Value) (a : Int) (w : World) (hn : Nodes w tv T) (hT : T.length ≤ 1000000) :
    Calls Tryz.prog 72 #[tv, .int .i64 a] w (KidRes T a w) := by
  have HN := Lib.hid hn
  have HBH := Lib.hid (tBehind_any T tv a w hn hT)
  obtain ⟨A, c, rfl, hlc, _⟩ := hn
  by_cases hb : Tr.behind T a = 0
  · have HK := Lib.hid (kids_nil hb)
    rw [hb] at HBH
    clear hb
    go_enter Tryz.func72, Tryz.ntmps72
    go_wp2_with fail
    refine HBH.out.mono ?_
    rintro e w1 ⟨rfl, hb1⟩
    have HB1 := Lib.hid hb1
    clear hb1
    go_wp2_with fail
    go_ret
    exact ⟨.slice none 0 0, rfl, by rw [HK.out]; exact World.ownsRow_nil _ _ _ _, HB1.out⟩
  · obtain ⟨m, x, q, rfl, hm, hx, hk0, hk1, hq, hbe⟩ := Tr.behind_pos hb
    have HK := Lib.hid (kids_some hb hx)
    have HX := Lib.hid hx
    have HQ := Lib.hid hq
    have e0 := ne_lit (n := Tr.behind T (m : Int)) (z := 0) (by omega)
    obtain ⟨n, hn0⟩ := Int.eq_ofNat_of_zero_le hk0
    have HN0 := Lib.hid hn0
    generalize Tr.behind T (m : Int) = bh at *
    have hnT : n ≤ 1000000 := by omega
    clear hb hbe hx hq hn0 hk0 hk1
    go_enter Tryz.func72, Tryz.ntmps72
    go_wp2_with fail
    refine HBH.out.mono ?_
    rintro e w1 ⟨rfl, hb1⟩
    have HB1 := Lib.hid hb1
    obtain ⟨A2, c2, e2, _, hN⟩ := HN.out.later hb1
    simp only [Value.slice.injEq] at e2
    obtain ⟨rfl, _, rfl⟩ := e2
    obtain ⟨b, off, rfl, hM⟩ := hN (by omega)
    have n1 := (hM.at_ HX.out).2.1
    rw [HN0.out] at n1
    rw [HN0.out, Int.toNat_natCast] at HK
    rw [HN0.out] at HQ
    clear hb1 hN hM HBH
    go_wp2_with fail
    go_loopw [5, 6, 18] (fun v pv i wr => ∃ (k p r : Nat) (D : List Nat) (u : Value), u = v ∧ pv = .int .i64 p ∧ i = .int .i64 k ∧ k + r = n ∧ p ≤ T.length + 1 ∧ D.length = k ∧ Hid (Tr.kidsOf T m = D ++ Tr.kidsFrom T r p) ∧ Hid (∃ q, Tr.beh T.length (T.drop p) (r : Int) = some q) ∧ Hid (wr.ownsRow w.heap.size 3 1 u D.length (D.map natV)) ∧ Hid (Below w.heap.size w wr)) (fun _ _ i _ => n - (intOf i).toNat)
    case atStart => exact ⟨0, m + 1, n, [], _, rfl, by go_num, rfl, by omega, by omega, rfl, Lib.hid (by rw [HK.out]; rfl), Lib.hid ⟨_, HQ.out⟩, Lib.hid (World.ownsRow_nil _ _ _ _), HB1⟩
    case round =>
      clear HB1 HQ HK
      obtain ⟨k, p, r, D, u, rfl, rfl, rfl, hkr, hp, hD, HKD, HQE, HOW, HB⟩ := hrel
      by_cases hlt : k < n
      · obtain ⟨r', rfl⟩ : ∃ r', r = r' + 1 := ⟨r - 1, by omega⟩
        obtain ⟨q', hq'⟩ := HQE.out
        obtain ⟨j, hj1, hj2, hj3, hj4⟩ := Tr.part_end hq'
        have HKD2 : Hid (Tr.kidsOf T m = (D ++ [p]) ++ Tr.kidsFrom T r' (p + j)) := Lib.hid (by rw [HKD.out, Tr.kidsFrom, hj2]; simp)
        have HQ2 : Hid (∃ q, Tr.beh T.length (T.drop (p + j)) (r' : Int) = some q) := Lib.hid ⟨_, hj3⟩
        have HBJ := Lib.hid hj1
        have own4 := HOW.out
        clear HKD HQE HOW hq' hj1 hj2 hj3
        go_wp2_with (at_builtin; refine append_agg rfl (.tmp 20) (.tmp 22) 83 3 rfl w.heap.size _ 1 8 Tryz.underlying83 int_info rfl (by decide) _ _ _ rfl own4 [.int .i64 (p : Int)] rfl wr.heap.size rfl rfl ?_ ?_ ?_ ?_ ?_)
        · first
            | rfl
            | (intro y hy; simp only [List.mem_cons, List.not_mem_nil, or_false] at hy; subst hy; rfl)
        · omega
        · omega
        · exact HB.out.size
        intro v' w5 hown' hg' hb'
        have HO5 : Hid (w5.ownsRow w.heap.size 3 1 v' (D ++ [p]).length ((D ++ [p]).map natV)) := Lib.hid (by
          rw [List.length_append, List.map_append]
          first
            | exact hown'
            | (rw [hD]; exact hown'))
        have HB5 := Lib.hid (HB.out.trans hb')
        clear own4 hown' hg' hb' HB
        go_wp2_with fail
        refine (tbehind_any T _ p _ (HN.out.later HB5.out) hT).mono ?_
        rintro e w6 ⟨rfl, he⟩
        rw [HBJ.out] at he
        obtain rfl := he
        go_wp2_with fail
        go_roundw
        case rel => exact ⟨k + 1, p + j, r', D ++ [p], v', rfl, by go_num, by go_num, by omega, by omega, by rw [List.length_append, hD]; rfl, HKD2, HQ2, HO5, HB5⟩
        case measure => simp [intOf]; omega
      · have hr0 : r = 0 := by omega
        have HF : Hid (Tr.kidsOf T m = D) := Lib.hid (by rw [HKD.out, hr0, Tr.kidsFrom, List.append_nil])
        clear HKD HQE hr0
        go_wp2_with fail
        go_ret
        exact ⟨u, rfl, by rw [HF.out]; exact HOW.out, HB.out⟩
end Go.Proofs.YtdobaililmkkcaaGreatDoor
