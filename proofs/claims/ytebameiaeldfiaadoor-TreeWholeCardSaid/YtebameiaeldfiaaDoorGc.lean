
/- Walks of trees: what a node binds; names that are gathered. -/
import Derived.Test.YtebameiaeldfiaaDoorFx
import Derived.Test.YtebameiaeldfiaaDoorHlpF
import Derived.Test.YtebameiaeldfiaaDoorTrS
namespace Culp
set_option linter.unusedSimpArgs false
set_option linter.unusedVariables false
open Go Go.RowKit
theorem grown_trans {a b c : World} {o o1 : Option Nat} (h : a.grownBy b o) (k : b.grownBy c o1) (ho : o1 = o ∨ ∃ x, o1 = some x ∧ a.heap.size ≤ x) : a.grownBy c o where
  os := k.os.trans h.os
  tape := k.tape.trans h.tape
  output := k.output.trans h.output
  size := Nat.le_trans h.size k.size
  block := fun i hi hne => by
    refine (k.block i (Nat.lt_of_lt_of_le hi h.size) ?_).trans (h.block i hi hne)
    rcases ho with rfl | ⟨x, rfl, hx⟩
    · exact hne
    · intro he
      injection he with he
      omega
theorem grown_below {a b : World} {o : Option Nat} (h : Below a.heap.size a b) : a.grownBy b o where
  os := h.os
  tape := h.tape
  output := h.output
  size := h.size
  block := fun i hi _ => h.block i hi
theorem grown_more {a b c : World} {o : Option Nat} (h : a.grownBy b o) (k : Below b.heap.size b c) : a.grownBy c o where
  os := k.os.trans h.os
  tape := k.tape.trans h.tape
  output := k.output.trans h.output
  size := Nat.le_trans h.size k.size
  block := fun i hi hne => (k.block i (Nat.lt_of_lt_of_le hi h.size)).trans (h.block i hi hne)
end Culp
namespace Culp.Tr
set_option linter.unusedSimpArgs false
set_option linter.unusedVariables false
theorem binds_six {x : Nd} (h6 : x.kind = 6) {a b : List UInt8} (h : two x.s.data.toList = some (a, b)) : binds x 0 = [⟨a.toArray⟩, ⟨b.toArray⟩] := by
  unfold binds
  rw [if_neg (by omega), if_pos h6, h]
theorem binds_any {x : Nd} (h8 : x.kind ≠ 8) (k : Nat) : binds x k = binds x 0 := by
  unfold binds
  rw [if_neg (c := x.kind = 8 ∧ k = 1) (fun h => h8 h.1), if_neg (c := x.kind = 8 ∧ 0 = 1) (fun h => h8 h.1)]
theorem binds_let_ne {x : Nd} (h8 : x.kind = 8) {k : Nat} (hk : k ≠ 1) : binds x k = [] := by
  unfold binds
  rw [if_neg (by omega), if_neg (by omega), if_neg (fun h => hk h.2)]
/-- Names behind others, but those that are bound. -/
def behindAll (L M bd : List ByteArray) : List ByteArray := addAll L (M.filter fun s => decide (s ∉ bd))
theorem behind_nil (L bd : List ByteArray) : behindAll L [] bd = L := rfl
theorem behind_known {L M bd : List ByteArray} {s : ByteArray} (h : s ∈ L ∨ s ∈ bd) : behindAll L (s :: M) bd = behindAll L M bd := by
  unfold behindAll
  by_cases hb : s ∈ bd
  · rw [List.filter_cons_of_neg (by simp [hb])]
  · rw [List.filter_cons_of_pos (by simp [hb]), addAll_cons]
    congr 1
    unfold add1
    rw [if_pos (by rcases h with h | h; exact h; exact absurd h hb)]
theorem behind_new {L M bd : List ByteArray} {s : ByteArray} (h1 : s ∉ L) (h2 : s ∉ bd) : behindAll L (s :: M) bd = behindAll (L ++ [s]) M bd := by
  unfold behindAll
  rw [List.filter_cons_of_pos (by simp [h2]), addAll_cons]
  congr 1
  unfold add1
  rw [if_neg h1]
end Culp.Tr
namespace Go.Proofs.YtebameiaeldfiaaDoor
set_option linter.unusedSimpArgs false
set_option linter.unusedVariables false
open Go.RowKit Go.Maps Culp

theorem build_s2 (w : World) (s t : ByteArray) : (Instr.buildSlice 42 2 #[(0, .string s), (1, .string t)]).run Tryd.prog w = .ok (.slice (some ⟨w.heap.size, 0, none⟩) 2 2) (w.alloc (.cells #[.string s, .string t] 9)) := by
  simp [go_sem, Instr.buildSlice, run_underlying Tryd.underlying42]
theorem row_lit (w : World) (B g : Nat) (cs : Array Value) (e : TypeId) (n : Nat) (hB : B ≤ w.heap.size) (hg : w.heap.size = g) (hn : n ≤ 100) (hs : cs.size = n) : (w.alloc (.cells cs e)).ownsRow B e 1 (.slice (some ⟨g, 0, none⟩) n n) n cs.toList := by
  subst hg
  exact World.ownsRow_lit w cs n hB (by unfold maxLen; omega) (by rw [hs, Nat.mul_one])
/-- What the walk of Binds asks of the node: that the names of a function that calls itself are told. -/
def Bd (x : Nd) : Prop := x.s.size ≤ 140737488351232 ∧ (x.kind = 6 → Tr.two x.s.data.toList ≠ none)
set_option maxRecDepth 100000 in
set_option maxHeartbeats 1600000 in
theorem Binds_any (x : Nd) (k : Nat) (w : World) (hx : Bd x) : Calls Tryd.prog 24 #[x.val, .int .i64 k] w (NmsRes (Tr.binds x k) w) := by
  have HX := Lib.hid hx
  clear hx
  unfold Nd.val Nd.cells
  by_cases h5 : x.kind = 5
  · have e5 : (x.kind == 5) = true := by rw [h5]; rfl
    have HV : Hid (Tr.binds x k = [x.s]) := Lib.hid (by unfold Tr.binds; rw [if_pos h5])
    clear h5
    go_enter Tryd.func24, Tryd.ntmps24
    go_wp2_with fail
    go_ret
    exact ⟨.slice (some ⟨w.heap.size + 1, 0, none⟩) 1 1, rfl, by rw [HV.out]; exact row_lit _ _ _ #[.string x.s] _ 1 (by simp) (by simp) (by omega) rfl, ((Below.refl _ _).alloc (Nat.le_refl _) _).alloc (by simp) _⟩
  have e5 : (x.kind == 5) = false := beq_no h5
  by_cases h6 : x.kind = 6
  · have e6 : (x.kind == 6) = true := by rw [h6]; rfl
    obtain ⟨⟨a, b⟩, hab⟩ := Option.ne_none_iff_exists'.1 (HX.out.2 h6)
    have HV : Hid (Tr.binds x k = [⟨a.toArray⟩, ⟨b.toArray⟩]) := Lib.hid (by rw [Tr.binds_any (by omega), Tr.binds_six h6 hab])
    have HAB := Lib.hid hab
    have HB0 : Hid (Below w.heap.size w (w.alloc (.cells #[.int .i8 x.kind, .int .i64 x.kids, .int .i64 x.n, .string x.s, .string x.t, .string x.u, .int .i64 x.line, .int .i64 x.col] 41))) := Lib.hid ((Below.refl _ _).alloc (Nat.le_refl _) _)
    clear h5 h6 hab
    go_enter Tryd.func24, Tryd.ntmps24
    go_wp2_with fail
    refine (rTwo_names x.s _ HX.out.1).mono ?_
    rintro e w1 ⟨s, t, rfl, hst, hb1⟩
    obtain ⟨rfl, rfl⟩ := hst a b HAB.out
    have HB1 := Lib.hid (below_later hb1 HB0.out)
    clear hst hb1
    go_wp2_with fail
    go_ret
    exact ⟨_, rfl, by rw [HV.out]; exact World.ownsRow_lit w1 #[.string ⟨a.toArray⟩, .string ⟨b.toArray⟩] 2 HB1.out.size (by unfold maxLen; omega) rfl, HB1.out.alloc HB1.out.size _⟩
  have e6 : (x.kind == 6) = false := beq_no h6
  by_cases h8 : x.kind = 8
  · have e8 : (x.kind == 8) = true := by rw [h8]; rfl
    by_cases hk : k = 1
    · have HV : Hid (Tr.binds x k = [x.s]) := Lib.hid (by rw [hk, Tr.binds_let1 h8])
      have ek : ((k : Int) == 1) = true := eq_lit (by omega)
      clear h5 h6 h8 hk
      go_enter Tryd.func24, Tryd.ntmps24
      go_wp2_with fail
      go_ret
      exact ⟨.slice (some ⟨w.heap.size + 1, 0, none⟩) 1 1, rfl, by rw [HV.out]; exact row_lit _ _ _ #[.string x.s] _ 1 (by simp) (by simp) (by omega) rfl, ((Below.refl _ _).alloc (Nat.le_refl _) _).alloc (by simp) _⟩
    · have HV : Hid (Tr.binds x k = []) := Lib.hid (Tr.binds_let_ne h8 hk)
      have ek : ((k : Int) == 1) = false := ne_lit (by omega)
      clear h5 h6 h8 hk
      go_enter Tryd.func24, Tryd.ntmps24
      go_wp2_with fail
      go_ret
      exact ⟨_, rfl, by rw [HV.out]; exact World.ownsRow_nil _ _ _ _, (Below.refl _ _).alloc (Nat.le_refl _) _⟩
  · have e8 : (x.kind == 8) = false := beq_no h8
    have HV : Hid (Tr.binds x k = []) := Lib.hid (Tr.binds_plain h5 h6 h8 k)
    clear h5 h6 h8
    go_enter Tryd.func24, Tryd.ntmps24
    go_wp2_with fail
    go_ret
    exact ⟨_, rfl, by rw [HV.out]; exact World.ownsRow_nil _ _ _ _, (Below.refl _ _).alloc (Nat.le_refl _) _⟩
end Go.Proofs.YtebameiaeldfiaaDoor

/- Walks of trees: names behind others, but those that are bound. -/
namespace Go.Proofs.YtebameiaeldfiaaDoor
set_option linter.unusedSimpArgs false
set_option linter.unusedVariables false
open Go.RowKit Go.Maps Culp

/-- What the list of names is after more were put behind it. -/
def WoRes (B : Nat) (L : List ByteArray) (o : Option Nat) (w : World) (e : Ending) (w' : World) : Prop :=
  ∃ v', e = .returned v' ∧ w'.ownsRow B 9 1 v' L.length (L.map Value.string) ∧ w.grownBy w' o ∧ (v'.ownBlock = o ∨ ∃ b, v'.ownBlock = some b ∧ w.heap.size ≤ b)
theorem Nms.at_ {w : World} {v : Value} {L : List ByteArray} (h : Nms w v L) {k : Nat} (hk : k < L.length) : ∃ g c, v = .slice (some ⟨g, 0, none⟩) L.length c ∧ w.cell? ⟨g, k, none⟩ = some (.string L[k]) := by
  obtain ⟨A, c, rfl, _, h3, h4⟩ := h
  cases A with
  | none =>
    obtain ⟨h, _⟩ := h3 rfl
    subst h
    simp at hk
  | some b =>
    obtain ⟨g, rfl, _, hc⟩ := h4 b rfl
    exact ⟨g, c, rfl, hc k _ (List.getElem?_eq_getElem hk)⟩
theorem Nms.form {w : World} {v : Value} {L : List ByteArray} (h : Nms w v L) : ∃ A c, v = .slice A L.length c := by
  obtain ⟨A, c, rfl, _⟩ := h
  exact ⟨A, c, rfl⟩
theorem Nms.grown {w w1 : World} {v u : Value} {L : List ByteArray} (h : Nms w v L) (hg : w.grownBy w1 u.ownBlock) (hA : Culp.Apart v u) : Nms w1 v L := by
  obtain ⟨A, c, rfl, h2, h3, h4⟩ := h
  refine ⟨A, c, rfl, h2, h3, fun b hb => ?_⟩
  obtain ⟨g, rfl, hlt, hc⟩ := h4 b hb
  subst hb
  refine ⟨g, rfl, Nat.lt_of_lt_of_le hlt hg.size, fun j s hj => ?_⟩
  rw [World.cell?_of_block (w := w) (hg.block g hlt (fun e => hA g rfl e.symm))]
  exact hc j s hj
theorem bytes_yes {s t : ByteArray} (h : s = t) : (s.toList == t.toList) = true := by rw [h]; exact beq_self_eq_true _
theorem bytes_no {s t : ByteArray} (h : s ≠ t) : (s.toList == t.toList) = false := beq_eq_false_iff_ne.2 (by rw [toL', toL']; exact fun he => h (str_inj' he))
set_option maxRecDepth 100000 in
set_option maxHeartbeats 3200000 in
theorem without_any (B : Nat) (L M bd : List ByteArray) (lv mv bv : Value) (w : World) (hl : w.ownsRow B 9 1 lv L.length (L.map Value.string)) (hm : Nms w mv M) (hb : Nms w bv bd) (hA : Culp.Apart mv lv) (hA2 : Culp.Apart bv lv) (hL : L.length + M.length ≤ 1000000) (hbd : bd.length ≤ 1000000) (hB : B ≤ w.heap.size) :
    Calls Tryd.prog 22 #[lv, mv, bv] w (WoRes B (Tr.behindAll L M bd) lv.ownBlock w) := by
  have HL := Lib.hid hl
  have HM := Lib.hid hm
  have HBD := Lib.hid hb
  have HA := Lib.hid hA
  have HA2 := Lib.hid hA2
  obtain ⟨Al, cl, rfl⟩ := own_shape hl
  obtain ⟨Am, cm, rfl⟩ := hm.form
  obtain ⟨Ab, cb, rfl⟩ := hb.form
  have HLB : Hid (∀ j : Value, (Value.slice Al L.length cl).ownBlock = j.ownBlock → (Value.slice Al L.length cl).ownBlock = j.ownBlock) := Lib.hid (fun _ h => h)
  generalize hlo : (Value.slice Al L.length cl).ownBlock = o at *
  have HLO := Lib.hid hlo
  clear hl hm hb hA hA2 hlo HLB
  go_enter Tryd.func22, Tryd.ntmps22
  go_wp2_with fail
  go_loopw [0, 7] (fun lv' i wr => ∃ (k : Nat) (L' : List ByteArray) (u : Value), u = lv' ∧ i = .int .i64 k ∧ k ≤ M.length ∧ L'.length ≤ L.length + k ∧ Hid (Tr.behindAll L' (M.drop k) bd = Tr.behindAll L M bd) ∧ Hid (wr.ownsRow B 9 1 u L'.length (L'.map Value.string)) ∧ Hid (Nms wr (.slice Am M.length cm) M) ∧ Hid (Nms wr (.slice Ab bd.length cb) bd) ∧ Hid (Culp.Apart (.slice Am M.length cm) u) ∧ Hid (Culp.Apart (.slice Ab bd.length cb) u) ∧ Hid (w.grownBy wr o) ∧ Hid (u.ownBlock = o ∨ ∃ b, u.ownBlock = some b ∧ w.heap.size ≤ b)) (fun _ i _ => M.length - (intOf i).toNat)
  case atStart => exact ⟨0, L, _, rfl, rfl, Nat.zero_le _, Nat.le_refl _, Lib.hid rfl, HL, HM, HBD, HA, HA2, Lib.hid (World.grownBy.refl _ _), Lib.hid (.inl HLO.out)⟩
  case round =>
    clear HL HM HBD HA HA2
    obtain ⟨w0, rfl⟩ : ∃ w0, w0 = wr := ⟨_, rfl⟩
    obtain ⟨k, L', u, rfl, rfl, hk, hL', HF, HO, HMV, HBV, HAM, HAB, HG, HU⟩ := hrel
    obtain ⟨Au, cu, rfl⟩ := own_shape HO.out
    by_cases hkl : k < M.length
    · obtain ⟨s, hs⟩ : ∃ s, M[k] = s := ⟨_, rfl⟩
      have HSK := Lib.hid hs
      have HKL := Lib.hid hkl
      have HDR : Hid (M.drop k = s :: M.drop (k + 1)) := Lib.hid (by rw [List.drop_eq_getElem_cons hkl, hs])
      clear hs
      go_wp2_with fail
      go_loopw [8, 9] (fun kn j wx => ∃ (m : Nat) (b : Bool), m ≤ L'.length ∧ j = .int .i64 m ∧ kn = .bool b ∧ Hid (b = true ↔ s ∈ L'.take m) ∧ Hid (Below w0.heap.size w0 wx)) (fun _ j _ => L'.length - (intOf j).toNat)
      case atStart => exact ⟨0, false, Nat.zero_le _, rfl, rfl, Lib.hid (by simp), Lib.hid (Below.refl _ _)⟩
      case round =>
        obtain ⟨m, b, hm, rfl, rfl, HK, HBX⟩ := hrel
        by_cases hml : m < L'.length
        · skip
          obtain ⟨ga, _, ea, x0⟩ := (Nms.own (own_later HO.out HBX.out)).at_ hml
          obtain ⟨gm, _, em, y0⟩ := (HMV.out.later HBX.out).at_ HKL.out
          simp only [Value.slice.injEq] at ea em
          obtain ⟨rfl, _, rfl⟩ := ea
          obtain ⟨rfl, _, rfl⟩ := em
          have HTK := Lib.hid (List.take_succ_eq_append_getElem hml)
          rw [HSK.out] at y0
          generalize L'[m] = t at *
          cases b with
          | true =>
            have HK2 : Hid (true = true ↔  s ∈ L'.take (m + 1)) := Lib.hid (by
              have := HK.out.1 rfl
              rw [HTK.out, List.mem_append]
              simp only [true_iff]
              exact .inl this)
            clear HK
            go_wp2_with fail
            refine wp_region_plan (S := fun w' => w'.cell? ⟨ga, m, none⟩ = some (.string t) ∧ w'.cell? ⟨gm, k, none⟩ = some (.string s)) [(0, true), (1, true), (2, true), (3, true), (4, true), (5, true), (6, true), (7, true), (8, true), (9, true), (10, true), (11, true), (12, true)] (by kernel_rfl) (by kernel_rfl) (by kernel_rfl) (fun _ _ _ _ _ h => h) ⟨x0, y0⟩ ?_
            intro HS
            repeat (first | (apply wpPlan_look; rfl; rfl; (intro wq hq; (try dsimp only at hq); go_split_ands; go_simp; (try rw [if_neg (by omega)]); (try rw [if_pos (by omega)]); try with_reducible rfl); simp only [Act.put, List.setIfInBounds_toArray, List.set_cons_zero, List.set_cons_succ]) | (apply wpPlan_skip; rfl; rfl; simp only [Act.put, List.setIfInBounds_toArray, List.set_cons_zero, List.set_cons_succ]) | (apply wpPlan_pass; rfl; rfl; assumption; simp only [Act.put, List.setIfInBounds_toArray, List.set_cons_zero, List.set_cons_succ]))
            apply wpPlan_done
            clear HS x0 y0
            go_wp2_with fail
            go_roundw
            case rel => exact ⟨m + 1, _, by omega, by go_num, rfl, Lib.hid (by have := HK2.out; simp only [true_iff, Bool.false_eq_true, false_iff] at this ⊢; exact this), Lib.hid (Below.drew HBX.out)⟩
            case measure => simp [intOf]; omega
          | false =>
            by_cases he : t = s
            · have es := bytes_yes he
              have HK2 : Hid (true = true ↔  s ∈ L'.take (m + 1)) := Lib.hid (by
                rw [HTK.out, List.mem_append, List.mem_singleton]
                simp only [true_iff]
                exact .inr he.symm)
              clear HK he
              go_wp2_with fail
              refine wp_region_plan (S := fun w' => w'.cell? ⟨ga, m, none⟩ = some (.string t) ∧ w'.cell? ⟨gm, k, none⟩ = some (.string s)) [(0, true), (1, true), (2, true), (3, true), (4, true), (5, true), (6, true), (7, true), (8, true), (9, true), (10, true), (11, true), (12, true)] (by kernel_rfl) (by kernel_rfl) (by kernel_rfl) (fun _ _ _ _ _ h => h) ⟨x0, y0⟩ ?_
              intro HS
              repeat (first | (apply wpPlan_look; rfl; rfl; (intro wq hq; (try dsimp only at hq); go_split_ands; go_simp; (try rw [if_neg (by omega)]); (try rw [if_pos (by omega)]); try with_reducible rfl); simp only [Act.put, List.setIfInBounds_toArray, List.set_cons_zero, List.set_cons_succ]) | (apply wpPlan_skip; rfl; rfl; simp only [Act.put, List.setIfInBounds_toArray, List.set_cons_zero, List.set_cons_succ]) | (apply wpPlan_pass; rfl; rfl; assumption; simp only [Act.put, List.setIfInBounds_toArray, List.set_cons_zero, List.set_cons_succ]))
              apply wpPlan_done
              clear HS x0 y0
              go_wp2_with fail
              go_roundw
              case rel => exact ⟨m + 1, _, by omega, by go_num, rfl, Lib.hid (by have := HK2.out; simp only [true_iff, Bool.false_eq_true, false_iff] at this ⊢; exact this), Lib.hid (Below.drew HBX.out)⟩
              case measure => simp [intOf]; omega
            · have es := bytes_no he
              have HK2 : Hid (false = true ↔  s ∈ L'.take (m + 1)) := Lib.hid (by
                rw [HTK.out, List.mem_append, List.mem_singleton]
                have := HK.out
                simp only [Bool.false_eq_true, false_iff, not_or] at this ⊢
                exact ⟨this, fun h => he h.symm⟩)
              clear HK he
              go_wp2_with fail
              refine wp_region_plan (S := fun w' => w'.cell? ⟨ga, m, none⟩ = some (.string t) ∧ w'.cell? ⟨gm, k, none⟩ = some (.string s)) [(0, true), (1, true), (2, true), (3, true), (4, true), (5, true), (6, true), (7, true), (8, true), (9, true), (10, true), (11, true), (12, true)] (by kernel_rfl) (by kernel_rfl) (by kernel_rfl) (fun _ _ _ _ _ h => h) ⟨x0, y0⟩ ?_
              intro HS
              repeat (first | (apply wpPlan_look; rfl; rfl; (intro wq hq; (try dsimp only at hq); go_split_ands; go_simp; (try rw [if_neg (by omega)]); (try rw [if_pos (by omega)]); try with_reducible rfl); simp only [Act.put, List.setIfInBounds_toArray, List.set_cons_zero, List.set_cons_succ]) | (apply wpPlan_skip; rfl; rfl; simp only [Act.put, List.setIfInBounds_toArray, List.set_cons_zero, List.set_cons_succ]) | (apply wpPlan_pass; rfl; rfl; assumption; simp only [Act.put, List.setIfInBounds_toArray, List.set_cons_zero, List.set_cons_succ]))
              apply wpPlan_done
              clear HS x0 y0
              go_wp2_with fail
              go_roundw
              case rel => exact ⟨m + 1, _, by omega, by go_num, rfl, Lib.hid (by have := HK2.out; simp only [true_iff, Bool.false_eq_true, false_iff] at this ⊢; exact this), Lib.hid (Below.drew HBX.out)⟩
              case measure => simp [intOf]; omega
        · obtain rfl : m = L'.length := by omega
          have HK3 : Hid (b = true ↔ s ∈ L') := Lib.hid (by have := HK.out; rwa [List.take_length] at this)
          clear HK
          go_wp2_with fail
          go_loopw [8, 10] (fun kn j wy => ∃ (m : Nat) (b : Bool), m ≤ bd.length ∧ j = .int .i64 m ∧ kn = .bool b ∧ Hid (b = true ↔ s ∈ L' ∨ s ∈ bd.take m) ∧ Hid (Below w0.heap.size w0 wy)) (fun _ j _ => bd.length - (intOf j).toNat)
          case atStart => exact ⟨0, b, Nat.zero_le _, rfl, rfl, Lib.hid (by rw [HK3.out]; simp), HBX⟩
          case round =>
            clear HK3 HBX
            obtain ⟨m, b, hm, rfl, rfl, HK, HBX⟩ := hrel
            by_cases hml : m < bd.length
            · skip
              obtain ⟨ga, _, ea, x0⟩ := (HBV.out.later HBX.out).at_ hml
              obtain ⟨gm, _, em, y0⟩ := (HMV.out.later HBX.out).at_ HKL.out
              simp only [Value.slice.injEq] at ea em
              obtain ⟨rfl, _, rfl⟩ := ea
              obtain ⟨rfl, _, rfl⟩ := em
              have HTK := Lib.hid (List.take_succ_eq_append_getElem hml)
              rw [HSK.out] at y0
              generalize bd[m] = t at *
              cases b with
              | true =>
                have HK2 : Hid (true = true ↔ s ∈ L' ∨ s ∈ bd.take (m + 1)) := Lib.hid (by
                  have := HK.out.1 rfl
                  rw [HTK.out, List.mem_append]
                  simp only [true_iff]
                  exact this.elim .inl (fun h => .inr (.inl h)))
                clear HK
                go_wp2_with fail
                refine wp_region_plan (S := fun w' => w'.cell? ⟨ga, m, none⟩ = some (.string t) ∧ w'.cell? ⟨gm, k, none⟩ = some (.string s)) [(0, true), (1, true), (2, true), (3, true), (4, true), (5, true), (6, true), (7, true), (8, true), (9, true), (10, true), (11, true), (12, true)] (by kernel_rfl) (by kernel_rfl) (by kernel_rfl) (fun _ _ _ _ _ h => h) ⟨x0, y0⟩ ?_
                intro HS
                repeat (first | (apply wpPlan_look; rfl; rfl; (intro wq hq; (try dsimp only at hq); go_split_ands; go_simp; (try rw [if_neg (by omega)]); (try rw [if_pos (by omega)]); try with_reducible rfl); simp only [Act.put, List.setIfInBounds_toArray, List.set_cons_zero, List.set_cons_succ]) | (apply wpPlan_skip; rfl; rfl; simp only [Act.put, List.setIfInBounds_toArray, List.set_cons_zero, List.set_cons_succ]) | (apply wpPlan_pass; rfl; rfl; assumption; simp only [Act.put, List.setIfInBounds_toArray, List.set_cons_zero, List.set_cons_succ]))
                apply wpPlan_done
                clear HS x0 y0
                go_wp2_with fail
                go_roundw
                case rel => exact ⟨m + 1, _, by omega, by go_num, rfl, Lib.hid (by have := HK2.out; simp only [true_iff, Bool.false_eq_true, false_iff] at this ⊢; exact this), Lib.hid (Below.drew HBX.out)⟩
                case measure => simp [intOf]; omega
              | false =>
                by_cases he : t = s
                · have es := bytes_yes he
                  have HK2 : Hid (true = true ↔ s ∈ L' ∨ s ∈ bd.take (m + 1)) := Lib.hid (by
                    rw [HTK.out, List.mem_append, List.mem_singleton]
                    simp only [true_iff]
                    exact .inr (.inr he.symm))
                  clear HK he
                  go_wp2_with fail
                  refine wp_region_plan (S := fun w' => w'.cell? ⟨ga, m, none⟩ = some (.string t) ∧ w'.cell? ⟨gm, k, none⟩ = some (.string s)) [(0, true), (1, true), (2, true), (3, true), (4, true), (5, true), (6, true), (7, true), (8, true), (9, true), (10, true), (11, true), (12, true)] (by kernel_rfl) (by kernel_rfl) (by kernel_rfl) (fun _ _ _ _ _ h => h) ⟨x0, y0⟩ ?_
                  intro HS
                  repeat (first | (apply wpPlan_look; rfl; rfl; (intro wq hq; (try dsimp only at hq); go_split_ands; go_simp; (try rw [if_neg (by omega)]); (try rw [if_pos (by omega)]); try with_reducible rfl); simp only [Act.put, List.setIfInBounds_toArray, List.set_cons_zero, List.set_cons_succ]) | (apply wpPlan_skip; rfl; rfl; simp only [Act.put, List.setIfInBounds_toArray, List.set_cons_zero, List.set_cons_succ]) | (apply wpPlan_pass; rfl; rfl; assumption; simp only [Act.put, List.setIfInBounds_toArray, List.set_cons_zero, List.set_cons_succ]))
                  apply wpPlan_done
                  clear HS x0 y0
                  go_wp2_with fail
                  go_roundw
                  case rel => exact ⟨m + 1, _, by omega, by go_num, rfl, Lib.hid (by have := HK2.out; simp only [true_iff, Bool.false_eq_true, false_iff] at this ⊢; exact this), Lib.hid (Below.drew HBX.out)⟩
                  case measure => simp [intOf]; omega
                · have es := bytes_no he
                  have HK2 : Hid (false = true ↔ s ∈ L' ∨ s ∈ bd.take (m + 1)) := Lib.hid (by
                    rw [HTK.out, List.mem_append, List.mem_singleton]
                    have := HK.out
                    simp only [Bool.false_eq_true, false_iff, not_or] at this ⊢
                    exact ⟨this.1, this.2, fun h => he h.symm⟩)
                  clear HK he
                  go_wp2_with fail
                  refine wp_region_plan (S := fun w' => w'.cell? ⟨ga, m, none⟩ = some (.string t) ∧ w'.cell? ⟨gm, k, none⟩ = some (.string s)) [(0, true), (1, true), (2, true), (3, true), (4, true), (5, true), (6, true), (7, true), (8, true), (9, true), (10, true), (11, true), (12, true)] (by kernel_rfl) (by kernel_rfl) (by kernel_rfl) (fun _ _ _ _ _ h => h) ⟨x0, y0⟩ ?_
                  intro HS
                  repeat (first | (apply wpPlan_look; rfl; rfl; (intro wq hq; (try dsimp only at hq); go_split_ands; go_simp; (try rw [if_neg (by omega)]); (try rw [if_pos (by omega)]); try with_reducible rfl); simp only [Act.put, List.setIfInBounds_toArray, List.set_cons_zero, List.set_cons_succ]) | (apply wpPlan_skip; rfl; rfl; simp only [Act.put, List.setIfInBounds_toArray, List.set_cons_zero, List.set_cons_succ]) | (apply wpPlan_pass; rfl; rfl; assumption; simp only [Act.put, List.setIfInBounds_toArray, List.set_cons_zero, List.set_cons_succ]))
                  apply wpPlan_done
                  clear HS x0 y0
                  go_wp2_with fail
                  go_roundw
                  case rel => exact ⟨m + 1, _, by omega, by go_num, rfl, Lib.hid (by have := HK2.out; simp only [true_iff, Bool.false_eq_true, false_iff] at this ⊢; exact this), Lib.hid (Below.drew HBX.out)⟩
                  case measure => simp [intOf]; omega
            · obtain rfl : m = bd.length := by omega
              have HK4 : Hid (b = true ↔ s ∈ L' ∨ s ∈ bd) := Lib.hid (by have := HK.out; rwa [List.take_length] at this)
              have HO2 := Lib.hid (own_later HO.out HBX.out)
              have HMV2 := Lib.hid (HMV.out.later HBX.out)
              have HBV2 := Lib.hid (HBV.out.later HBX.out)
              have HG2 := Lib.hid (grown_more HG.out HBX.out)
              clear HK HO HMV HBV HG
              cases b with
              | true =>
                have HF2 : Hid (Tr.behindAll L' (M.drop (k + 1)) bd = Tr.behindAll L M bd) := Lib.hid (by
                  have := HF.out
                  rw [HDR.out, Tr.behind_known (HK4.out.1 rfl)] at this
                  exact this)
                clear HF HK4 HDR HSK HBX
                go_wp2_with fail
                go_roundw
                case rel => exact ⟨k + 1, L', _, rfl, by go_num, by omega, by omega, HF2, HO2, HMV2, HBV2, HAM, HAB, HG2, HU⟩
                case measure => simp [intOf]; omega
              | false =>
                have hno : s ∉ L' ∧ s ∉ bd := by
                  have := HK4.out
                  simp only [Bool.false_eq_true, false_iff, not_or] at this
                  exact this
                have HF2 : Hid (Tr.behindAll (L' ++ [s]) (M.drop (k + 1)) bd = Tr.behindAll L M bd) := Lib.hid (by
                  have := HF.out
                  rw [HDR.out, Tr.behind_new hno.1 hno.2] at this
                  exact this)
                obtain ⟨gm, _, em, y0⟩ := HMV2.out.at_ HKL.out
                simp only [Value.slice.injEq] at em
                obtain ⟨rfl, _, rfl⟩ := em
                rw [HSK.out] at y0
                have own4 := HO2.out
                have hBx : B ≤ wr.heap.size := Nat.le_trans hB HG2.out.size
                clear HF HK4 HDR HSK HBX hno
                go_wp2_with (at_builtin; refine append_agg_at rfl (.tmp 55) (.tmp 60) 42 9 rfl B _ 1 16 Tryd.underlying42 strings_info rfl (by decide) _ _ _ rfl own4 [.string s] rfl wr.heap.size rfl rfl ?_ ?_ ?_ hBx ?_)
                · first
                    | rfl
                    | (intro y hy; simp only [List.mem_cons, List.not_mem_nil, or_false] at hy; subst hy; rfl)
                · omega
                · omega
                intro v' w5 hown' hg' hb' hat
                have hat2 : v'.ownBlock = (Value.slice Au L'.length cu).ownBlock ∨ ∃ b, v'.ownBlock = some b ∧ wr.heap.size ≤ b := by
                  rcases hat with e | e
                  · exact .inl e
                  · exact .inr ⟨_, e, Nat.le_succ _⟩
                have HO5 : Hid (w5.ownsRow B 9 1 v' (L' ++ [s]).length ((L' ++ [s]).map Value.string)) := Lib.hid (by rw [List.length_append, List.map_append]; exact hown')
                have HMV5 := Lib.hid (HMV2.out.grown hg' HAM.out)
                have HBV5 := Lib.hid (HBV2.out.grown hg' HAB.out)
                have HAM5 : Hid (Culp.Apart _ v') := Lib.hid (HMV2.out.apart HAM.out hat2)
                have HAB5 : Hid (Culp.Apart _ v') := Lib.hid (HBV2.out.apart HAB.out hat2)
                have HG5 := Lib.hid (grown_trans HG2.out hg' HU.out)
                have HU5 : Hid (v'.ownBlock = o ∨ ∃ b, v'.ownBlock = some b ∧ w.heap.size ≤ b) := Lib.hid (by
                  have := HG2.out.size
                  rcases hat2 with e | ⟨b, e, hb⟩
                  · rw [e]; exact HU.out
                  · exact .inr ⟨b, e, by omega⟩)
                have hl5 : (L' ++ [s]).length ≤ L.length + (k + 1) := by rw [List.length_append, List.length_singleton]; omega
                clear hown' hg' hb' hat hat2 own4 HO2 HMV2 HBV2 HG2 HU HAM HAB y0
                go_wp2_with fail
                go_roundw
                case rel => exact ⟨k + 1, L' ++ [s], v', rfl, by go_num, by omega, hl5, HF2, HO5, HMV5, HBV5, HAM5, HAB5, HG5, HU5⟩
                case measure => simp [intOf]; omega
    · obtain rfl : k = M.length := by omega
      have HF2 : Hid (L' = Tr.behindAll L M bd) := Lib.hid (by have := HF.out; rwa [List.drop_length, Tr.behind_nil] at this)
      clear HF
      go_wp2_with fail
      go_ret
      exact ⟨_, rfl, by rw [← HF2.out]; exact HO.out, HG.out, HU.out⟩
end Go.Proofs.YtebameiaeldfiaaDoor

/- The walk of the statement TreeWhole: what it leans on. -/
namespace Culp.Tr
set_option linter.unusedSimpArgs false
set_option linter.unusedVariables false
/-- Each node of a tree that may be, with its part. -/
theorem whole_at {T : List Nd} {x0 : Nd} {k0 : F} (hT : T = x0 :: k0.flat) (hO : (F.cons x0 k0 .nil).Ok) (hh : k0.hgt + 1 ≤ 64) {q : Nat} (hq : q < T.length) :
    ∃ pre x ks post, T = pre ++ x :: (ks.flat ++ post) ∧ pre.length = q ∧ (F.cons x ks .nil).Ok ∧ ks.hgt + 1 ≤ 64 := by
  have hf : (F.cons x0 k0 .nil).flat = T := by rw [hT]; simp [F.flat]
  obtain ⟨pre, x, ks, post, h1, h2, h3, h4⟩ := F.at_place (F.cons x0 k0 .nil) q hO (by rw [hf]; exact hq)
  rw [hf] at h1
  rw [F.hgt_one] at h4
  exact ⟨pre, x, ks, post, h1, h2, h3, by omega⟩
theorem bd_of {x : Nd} (h : may x = true) (hs : x.s.size ≤ 140737488351232) : x.s.size ≤ 140737488351232 ∧ (x.kind = 6 → two x.s.data.toList ≠ none) := by
  refine ⟨hs, fun h6 => ?_⟩
  have h2 : sOk x.kind x.s.data.toList = true := by
    unfold may at h
    simp only [Bool.and_eq_true] at h
    exact h.1.1.2
  rw [h6] at h2
  have h3 : twoOk x.s.data.toList = true := h2
  unfold twoOk at h3
  intro hn
  rw [hn] at h3
  cases h3
theorem arit_kids {x : Nd} {ks : F} (h : may x = true) (hO : (F.cons x ks .nil).Ok) : decide (0 ≤ arit x.kind) = false ∨ (decide (0 ≤ arit x.kind) = true ∧ max (arit x.kind) 0 = (ks.cnt : Int)) := by
  unfold may kOk at h
  simp only [Bool.and_eq_true, decide_eq_true_eq, Bool.or_eq_true] at h
  have h1 := hO.1
  rcases h.1.1.1.1.2 with h2 | h2
  · exact .inl (decide_eq_false (by omega))
  · exact .inr ⟨decide_eq_true (by omega), by omega⟩
theorem part_take {T pre post : List Nd} {y : Nd} {ky : F} (h : T = pre ++ y :: (ky.flat ++ post)) : (T.drop pre.length).take (1 + ky.flat.length) = y :: ky.flat := by
  rw [h, List.drop_left, Nat.add_comm, List.take_succ_cons, List.take_left]
end Culp.Tr
namespace Go.Proofs.YtebameiaeldfiaaDoor
set_option linter.unusedSimpArgs false
set_option linter.unusedVariables false
open Go.RowKit Go.Maps Culp

/-- Some nodes of a list, from a place on. -/
theorem Nodes.cut {w : World} {b off n c : Nat} {T S : List Nd} (h : Nodes w (.slice (some ⟨b, off, none⟩) n c) T) (p m k : Nat) (hS : (T.drop p).take m = S) (hm : S.length = m) (hk : m ≤ k) : Nodes w (.slice (some ⟨b, off + p * 8, none⟩) m k) S := by
  obtain ⟨A, c', e1, h2, h3⟩ := h
  simp only [Value.slice.injEq] at e1
  obtain ⟨rfl, _, rfl⟩ := e1
  refine ⟨_, k, by rw [hm], by omega, fun h0 => ⟨b, off + p * 8, rfl, fun i x hx j u hu => ?_⟩⟩
  have hx2 : T[p + i]? = some x := by
    rw [← hS, List.getElem?_take] at hx
    split at hx
    · rwa [List.getElem?_drop] at hx
    · cases hx
  obtain ⟨b', off', e2, hM⟩ := h3 (by have := (List.getElem?_eq_some_iff.1 hx2).1; omega)
  simp only [Option.some.injEq, Addr.mk.injEq] at e2
  obtain ⟨rfl, rfl, _⟩ := e2
  have := hM (p + i) x hx2 j u hu
  rw [show off + p * 8 + i * 8 + j = off + (p + i) * 8 + j by omega]
  exact this
set_option maxRecDepth 100000 in
set_option maxHeartbeats 1600000 in
theorem EqTexts_same (D : List ByteArray) (u v : Value) (w : World) (hu : Nms w u D) (hv : Nms w v D) (hD : D.length ≤ 1000000000) :
    Calls Tryd.prog 25 #[u, v] w (Makes (.bool true) w) := by
  have HU := Lib.hid hu
  have HV := Lib.hid hv
  obtain ⟨A, c, rfl⟩ := hu.form
  obtain ⟨B, d, rfl⟩ := hv.form
  clear hu hv
  go_enter Tryd.func25, Tryd.ntmps25
  go_wp2_with fail
  go_loopw [5] (fun i wr => ∃ k : Nat, k ≤ D.length ∧ i = .int .i64 k ∧ Hid (Below w.heap.size w wr)) (fun i _ => D.length - (intOf i).toNat)
  case atStart => exact ⟨0, Nat.zero_le _, rfl, Lib.hid (Below.refl _ _)⟩
  case round =>
    obtain ⟨k, hk, rfl, HB⟩ := hrel
    by_cases hlt : k < D.length
    · obtain ⟨g, _, e1, a0⟩ := (HU.out.later HB.out).at_ hlt
      obtain ⟨g2, _, e2, b0⟩ := (HV.out.later HB.out).at_ hlt
      simp only [Value.slice.injEq] at e1 e2
      obtain ⟨rfl, _, rfl⟩ := e1
      obtain ⟨rfl, _, rfl⟩ := e2
      generalize D[k] = x at *
      go_wp2_with fail
      refine wp_region_plan (S := fun w' => w'.cell? ⟨g, k, none⟩ = some (.string x) ∧ w'.cell? ⟨g2, k, none⟩ = some (.string x))
        [(0, true), (1, true), (2, true), (3, true), (4, true), (5, true), (6, true), (7, true), (8, true)] (by kernel_rfl) (by kernel_rfl) (by kernel_rfl) (fun _ _ _ _ _ h => h) ⟨a0, b0⟩ ?_
      clear a0 b0
      intro HP
      repeat (first | (apply wpPlan_look; rfl; rfl; (intro wq hq; (try dsimp only at hq); go_split_ands; go_simp; (try rw [if_neg (by omega)]); (try rw [if_pos (by omega)]); try with_reducible rfl); simp only [Act.put, List.setIfInBounds_toArray, List.set_cons_zero, List.set_cons_succ]) | (apply wpPlan_skip; rfl; rfl; simp only [Act.put, List.setIfInBounds_toArray, List.set_cons_zero, List.set_cons_succ]) | (apply wpPlan_pass; rfl; rfl; assumption; simp only [Act.put, List.setIfInBounds_toArray, List.set_cons_zero, List.set_cons_succ]))
      apply wpPlan_done
      clear HP
      have HB2 := Lib.hid HB.out.drew
      go_wp2_with fail
      go_roundw
      case rel => exact ⟨k + 1, by omega, by go_num, HB2⟩
      case measure => simp [intOf]; omega
    · go_wp2_with fail
      go_ret
      exact Makes.mk rfl HB.out
end Go.Proofs.YtebameiaeldfiaaDoor
