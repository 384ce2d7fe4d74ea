
/- Walks of the document's checker: any part. -/
import Derived.Test.YtdfadmhomjcmeaaDoorMg
import Derived.Test.YtdfadmhomjcmeaaDoorTrW
import Derived.Test.YtdfadmhomjcmeaaDoorKx
import Derived.Test.YtdfadmhomjcmeaaDoorLb
import Derived.StillTailTactics
import Derived.Test.YtdfadmhomjcmeaaDoorKe
import Derived.Lib.Bytealg
import Derived.Lib.IndexAny
namespace Culp.Tr
set_option linter.unusedSimpArgs false
set_option linter.unusedVariables false
open Go
theorem F.hgt_le : ∀ f : F, f.hgt ≤ f.flat.length
  | .nil => Nat.le_refl _
  | .cons x ks r => by
    have h1 := F.hgt_le ks
    have h2 := F.hgt_le r
    simp only [F.hgt, F.flat, List.length_cons, List.length_append]
    omega
theorem innerT_len (x : Nd) (k : Nat) (env : Env) : (innerT x k env).length ≤ env.length + 2 := by
  unfold innerT
  split
  · simp
  · split
    · split <;> simp
    · split <;> simp
/-- One part, step by step. -/
theorem chk1_steps (same : Bool) (x : Nd) (ks : F) (env : Env) (p : Nat) : chk1 same x ks env p =
  match (if x.kind = 5 ∨ x.kind = 6 then (sizeT p (.fn (noteT x.t) (noteT x.u))).map fun _ => () else .ok ()) with
    | .error b => .error b
    | .ok _ => match chk same ks (fun j => innerT x j env) 0 (p + 1) with
      | .error b => .error b
      | .ok K => match nodeT same x env p (K.map fun a => (a.1, a.2.headD .dyn)) with
        | .error b => .error b
        | .ok t => (sizeT p t).map fun t => t :: (K.map Prod.snd).flatten := by
  unfold chk1
  simp only [chk]
  generalize (if x.kind = 5 ∨ x.kind = 6 then (sizeT p (.fn (noteT x.t) (noteT x.u))).map fun _ => () else .ok () : Except Bad Unit) = A
  cases A with
  | error b => rfl
  | ok _ =>
    simp only []
    generalize chk same ks (fun j => innerT x j env) 0 (p + 1) = K
    cases K with
    | error b => rfl
    | ok K =>
      simp only []
      generalize nodeT same x env p (K.map fun a => (a.1, a.2.headD .dyn)) = t
      cases t with
      | error b => rfl
      | ok t =>
        simp only []
        cases sizeT p t with
        | error b => rfl
        | ok u => simp [Except.map]
theorem chk_firstG (same : Bool) (y : Nd) (ky r : F) (g : Nat → Env) (k q : Nat) : chk same (.cons y ky r) g k q = match chk1 same y ky (g k) q with
    | .error b => .error b
    | .ok ts => (chk same r g (k + 1) (q + 1 + ky.flat.length)).map fun R => (q, ts) :: R := by
  unfold chk1
  simp only [chk]
  generalize (if y.kind = 5 ∨ y.kind = 6 then (sizeT q (.fn (noteT y.t) (noteT y.u))).map fun _ => () else .ok () : Except Bad Unit) = A
  cases A with
  | error b => rfl
  | ok _ =>
    simp only []
    generalize chk same ky (fun j => innerT y j (g k)) 0 (q + 1) = K
    cases K with
    | error b => rfl
    | ok K =>
      simp only []
      generalize nodeT same y (g k) q (K.map fun a => (a.1, a.2.headD .dyn)) = t
      cases t with
      | error b => rfl
      | ok t =>
        simp only []
        cases sizeT q t with
        | error b => rfl
        | ok u =>
          simp only [List.map_cons, List.map_nil, List.flatten_cons, List.flatten_nil, List.append_nil]
          cases chk same r g (k + 1) (q + 1 + ky.flat.length) <;> rfl
def restG (same : Bool) (R : Except Bad (List (Nat × List Ty))) (r : F) (G : Nat → Env) (k q : Nat) : Except Bad (List (Nat × List Ty)) := match R with
  | .error b => .error b
  | .ok K => (chk same r G k q).map (K ++ ·)
theorem restG_cons {same : Bool} {R : Except Bad (List (Nat × List Ty))} {y : Nd} {ky r : F} {G : Nat → Env} {k q : Nat} : restG same R (.cons y ky r) G k q = restG same (nextR R q (chk1 same y ky (G k) q)) r G (k + 1) (q + 1 + ky.flat.length) := by
  cases R with
  | error b => rfl
  | ok K =>
    unfold restG nextR
    rw [chk_firstG]
    cases chk1 same y ky (G k) q with
    | error b => rfl
    | ok ts =>
      simp only []
      cases chk same r G (k + 1) (q + 1 + ky.flat.length) <;> simp [Except.map]
theorem restG_nil {same : Bool} {R : Except Bad (List (Nat × List Ty))} {G : Nat → Env} {k q : Nat} : restG same R .nil G k q = R := by
  cases R with
  | error b => rfl
  | ok K => simp [restG, chk, Except.map]
end Culp.Tr
namespace Go.Proofs.YtdfadmhomjcmeaaDoor
set_option linter.unusedSimpArgs false
set_option linter.unusedVariables false
open Go.RowKit Go.Maps Culp
section
variable {c B a : Nat} {sm : Bool} {tv yv : Value} {ys : List ByteArray} {e : Int} {w w0 w1 W : World}
end
section
variable {T : List Nd} {tv : Value} {c B : Nat} {sm : Bool} {x : Nd} {ks : Tr.F} {post : List Nd} {p : Nat} {G : Nat → Tr.Env} {env : Tr.Env} {iv : Value} {Be : Nat} {yv : Value} {w : World} {ys : List ByteArray} {a bx : Nat} {kv : Value} {C0 k : Nat} {y : Nd} {ky r : Tr.F} {pr : List Nd} {R : Except Tr.Bad (List (Nat × List Ty))} {yr : List ByteArray} {wr w' : World} {E : Ending}
end
section
variable {T : List Nd} {tv : Value} {c B : Nat} {sm : Bool} {x : Nd} {ks : Tr.F} {post : List Nd} {p m : Nat} {env : Tr.Env} {iv : Value} {Be : Nat} {yv : Value} {w : World} {ys : List ByteArray} {a bx : Nat} {kv : Value} {C0 k : Nat} {pr : List Nd} {K : List (Nat × List Ty)} {yr : List ByteArray} {wr w6 : World} {g C : Nat} {b : Tr.Bad} {t : Ty} {L : List Ty}
/-- Does a function's type pass? -/
def okFn (x : Nd) (p : Nat) : Except Tr.Bad Unit := if x.kind = 5 ∨ x.kind = 6 then (Tr.sizeT p (.fn (Tr.noteT x.t) (Tr.noteT x.u))).map fun _ => () else .ok ()
theorem chk1_go (hg : okFn x p = .ok ()) : Tr.chk1 sm x ks env p = match Tr.chk sm ks (fun j => Tr.innerT x j env) 0 (p + 1) with
      | .error b => .error b
      | .ok K => match Tr.nodeT sm x env p (K.map fun a => (a.1, a.2.headD .dyn)) with
        | .error b => .error b
        | .ok t => (Tr.sizeT p t).map fun t => t :: (K.map Prod.snd).flatten := by
  rw [Tr.chk1_steps]
  unfold okFn at hg
  rw [hg]
theorem chk1_stop (hg : okFn x p = .error b) : Tr.chk1 sm x ks env p = .error b := by
  rw [Tr.chk1_steps]
  unfold okFn at hg
  rw [hg]
end
section
variable (T : List Nd) (tv : Value) (W : World) (c B : Nat) (sm : Bool) (n : Nat) (hN : Nodes W tv T) (hTl : T.length ≤ 1000000) (hcW : W.heap.size ≤ c) (hBW : W.heap.size ≤ B) (hm : ∀ y ∈ T, Tr.may y = true)
include hN hTl hcW hBW hm
end
end Go.Proofs.YtdfadmhomjcmeaaDoor

/- Walks of the document's checker: Expr, Plain. -/
namespace Go.Proofs.YtdfadmhomjcmeaaDoor
set_option linter.unusedSimpArgs false
set_option linter.unusedVariables false
open Go.RowKit Go.Maps Culp
theorem cell_blk {w : World} {a : Addr} {v : Value} (h : w.cell? a = some v) : a.block < w.heap.size := by
  by_cases hl : a.block < w.heap.size
  · exact hl
  · have : w.heap[a.block]? = none := Array.getElem?_eq_none (by omega)
    simp [World.cell?, this] at h
theorem envTo_len (N S : List ByteArray) : ∀ k, (envTo N S k).length = k
  | 0 => rfl
  | k + 1 => by unfold envTo; rw [List.length_cons, envTo_len N S k]
section
variable (T : List Nd) (tv nv sv : Value) (N S : List ByteArray) (w : World) (sm : Bool) (hn : Nodes w tv T) (hN : Txts w nv N) (hS : Txts w sv S) (hSp : Sp w) (hz : ∀ s ∈ N, s.size ≤ 140737488351232) (hNl : N.length ≤ 500000000)
include hn hN hS hSp hz hNl
omit hn hSp hz hNl in
/-- What is refused ahead of the types. -/
def ExBad (T : List Nd) (N S : List ByteArray) (e p : Int) : Prop := (N.length ≠ S.length ∧ e = 1 ∧ p = 0) ∨ (N.length = S.length ∧ (¬ ∀ j, j < N.length → argOk N S j) ∧ e = 1 ∧ p = 0) ∨ (ArgsOk N S ∧ (Tr.check T).1 ≠ 0 ∧ e = (Tr.check T).1 ∧ p = (Tr.check T).2)
/-- What is not. -/
def ExGood (T : List Nd) (N S : List ByteArray) (x : Nd) (ks : Tr.F) : Prop := ArgsOk N S ∧ T = x :: ks.flat ∧ (Tr.F.cons x ks .nil).Ok ∧ (∀ y ∈ T, Tr.may y = true) ∧ ks.hgt + 1 ≤ 64 ∧ T.length ≤ 4096 ∧ Tr.check T = (0, 0)
omit hn hN hS hSp hz hNl in
theorem ex_cases (T : List Nd) (N S : List ByteArray) : (∃ e p, e ≠ 0 ∧ ExBad T N S e p) ∨ ∃ x ks, ExGood T N S x ks := by
  by_cases hlen : N.length = S.length
  · by_cases ha : ∀ j, j < N.length → argOk N S j
    · by_cases hc : (Tr.check T).1 = 0
      · obtain ⟨hl, x, ks, hT, hO, hm, hh⟩ := Tr.F.of_check hc
        have hcc : Tr.check T = (0, 0) := by rw [hT]; exact Tr.F.check_one (by rw [← hT]; exact hl) hO (by rw [← hT]; exact hm) hh
        exact .inr ⟨x, ks, ⟨hlen, ha⟩, hT, hO, hm, hh, hl, hcc⟩
      · exact .inl ⟨_, _, by omega, .inr (.inr ⟨⟨hlen, ha⟩, hc, rfl, rfl⟩)⟩
    · exact .inl ⟨1, 0, by decide, .inr (.inl ⟨hlen, ha, rfl, rfl⟩)⟩
  · exact .inl ⟨1, 0, by decide, .inl ⟨hlen, rfl, rfl⟩⟩
theorem Expr_bad (hzT : ∀ x ∈ T, x.s.size ≤ 140737488351232) (hkT : ∀ x ∈ T, x.kids ≤ 9223372036854775807) {e p : Int} (h : ExBad T N S e p) : Calls Tryd.prog 12 #[tv, nv, sv] w (Makes (.tuple #[.slice none 0 0, .int .i64 e, .int .i64 p]) w) := by
  rcases h with ⟨h, rfl, rfl⟩ | ⟨h1, h2, rfl, rfl⟩ | ⟨h1, h2, rfl, rfl⟩
  · exact Expr_short tv nv sv N S w hN hS h
  · exact Expr_args T tv nv sv N S w hn hN hS hSp hz (by omega) h1 h2
  · exact Expr_tree T tv nv sv N S w hn hN hS hSp hz (by omega) h1 hzT hkT h2
theorem Expr_good (hTab : Tab w) (hzT : ∀ x ∈ T, x.s.size ≤ 140737488351232) (hkT : ∀ x ∈ T, x.kids ≤ 9223372036854775807) {x : Nd} {ks : Tr.F} (h : ExGood T N S x ks) : Calls Tryd.prog 12 #[tv, nv, sv] w (ExprRes (Tr.chk1 false x ks (envTo N S N.length) 0) w) := by
  obtain ⟨h1, h2, h3, h4, _, h6, h7⟩ := h
  exact Expr_ok T tv nv sv N S w hn hN hS hSp hz (by omega) h1 hTab x ks (by omega) hzT hkT h7 h2 h3 h4
end
end Go.Proofs.YtdfadmhomjcmeaaDoor

/- Walks: types without the unknown one. -/
namespace Culp
set_option linter.unusedSimpArgs false
set_option linter.unusedVariables false
/-- Written, without the unknown type. -/
def solidB (s : List UInt8) : Bool := !s.contains 63 && !s.isEmpty
theorem enc_63 : ∀ t : Ty, t.enc.contains 63 = !t.solid
  | .dyn => by decide
  | .int => by decide
  | .bool => by decide
  | .text => by decide
  | .fn a b => by simp only [Ty.enc, Ty.solid, List.contains_cons, List.contains_append, enc_63 a, enc_63 b, Bool.not_and]; rfl
  | .pair a b => by simp only [Ty.enc, Ty.solid, List.contains_cons, List.contains_append, enc_63 a, enc_63 b, Bool.not_and]; rfl
  | .list a => by simp only [Ty.enc, Ty.solid, List.contains_cons, enc_63 a]; rfl
  | .box a => by simp only [Ty.enc, Ty.solid, List.contains_cons, enc_63 a]; rfl
theorem solidB_str (t : Ty) : solidB t.str.data.toList = t.solid := by
  rw [str_list]
  unfold solidB
  rw [enc_63, Bool.not_not]
  have : t.enc.isEmpty = false := by cases t <;> rfl
  rw [this]
  simp
/-- A node, as the document asks it. -/
def statB (x : Nd) : Bool :=
  if x.kind = 5 ∨ x.kind = 6 then solidB x.t.data.toList && solidB x.u.data.toList
  else if x.kind = 8 ∨ x.kind = 29 then solidB x.t.data.toList
  else if x.kind = 21 then decide (x.kids ≠ 0)
  else true
end Culp
namespace Culp.Tr
set_option linter.unusedSimpArgs false
set_option linter.unusedVariables false
open Go.Proofs.YtdfadmhomjcmeaaDoor
theorem stat_of {x : Nd} (hm : may x = true) (h : statB x = true) : Stat x := by
  obtain ⟨m1, m2, m3⟩ := may_note hm
  have key : ∀ s : ByteArray, NoteOk s → solidB s.data.toList = true → (noteT s).solid = true := fun s hs hb => by
    have h0 : s.size ≠ 0 := fun h0 => by
      have e : s.data.toList.length = s.size := by rw [Array.length_toList]; rfl
      rw [h0] at e
      rw [List.eq_nil_of_length_eq_zero e] at hb
      cases hb
    obtain ⟨t, rfl, _, h2⟩ := hs h0
    rw [h2, ← solidB_str]
    exact hb
  unfold statB at h
  refine ⟨fun hk => ?_, fun hk => ?_, fun hk => ?_⟩
  · by_cases h56 : x.kind = 5 ∨ x.kind = 6
    · rw [if_pos h56, Bool.and_eq_true] at h
      exact key _ (m1 (by omega)) h.1
    · rw [if_neg h56, if_pos (by omega)] at h
      by_cases h29 : x.kind = 29
      · obtain ⟨t, e, _, h2⟩ := m3 h29
        rw [h2, ← solidB_str, ← e]
        exact h
      · exact key _ (m1 (by omega)) h
  · rw [if_pos hk, Bool.and_eq_true] at h
    exact key _ (m2 hk) h.2
  · rw [if_neg (by omega), if_neg (by omega), if_pos hk] at h
    exact of_decide_eq_true h
theorem statF_of : ∀ f : F, f.Ok → (∀ y ∈ f.flat, may y = true ∧ statB y = true) → StatF f
  | .nil, _, _ => trivial
  | .cons x ks r, hO, h => by
    have hx := h x (by simp [F.flat])
    have hst := stat_of hx.1 hx.2
    refine ⟨hst, ?_, statF_of ks hO.2.1 fun y hy => h y (by simp [F.flat, hy]), statF_of r hO.2.2 fun y hy => h y (by simp [F.flat, hy])⟩
    have hm := hx.1
    unfold may kOk at hm
    simp only [Bool.and_eq_true, decide_eq_true_eq, Bool.or_eq_true] at hm
    have h30 := hm.1.1.1.1.1.1
    have ha := hm.1.1.1.1.2
    have hc := hO.1
    refine ⟨h30, ?_⟩
    rcases ha with ha | ha
    · have h21 := arit_neg ha
      exact .inr ⟨h21, fun h0 => hst.kids h21 (by omega)⟩
    · exact .inl (by omega)
end Culp.Tr
namespace Go.Proofs.YtdfadmhomjcmeaaDoor
set_option linter.unusedSimpArgs false
set_option linter.unusedVariables false
open Go.RowKit Go.Maps Culp
theorem rSolid_any (s : ByteArray) (w : World) (hs : s.size ≤ 140737488351232) : Calls Tryd.prog 10 #[.string s] w (Gives (.bool (solidB s.data.toList)) w) := by
  have hl : s.data.toList.length = s.size := by rw [Array.length_toList]; rfl
  go_enter Tryd.func10, Tryd.ntmps10
  go_wp2_with fail
  go_loop [3] (fun i => ∃ k : Nat, k ≤ s.size ∧ i = .int .i64 k ∧ Hid ((s.data.toList.take k).contains 63 = false)) (fun i => s.size - (intOf i).toNat)
  case atStart => exact ⟨0, Nat.zero_le _, rfl, Lib.hid rfl⟩
  case round =>
    obtain ⟨k, hk, rfl, HN⟩ := hrel
    by_cases hlt : k < s.size
    · have hg := get_byte' s k hlt
      have HS : Hid ((s.data.toList.take (k + 1)).contains 63 = (s[k] == 63)) := Lib.hid (by
        rw [List.take_add_one, hg]
        simp only [Option.toList_some, List.contains_append, HN.out, Bool.false_or]
        by_cases h : s[k] = 63
        · simp [h]
        · have h' : ¬ (63 = s[k]) := fun e => h e.symm
          simp [h, h'])
      by_cases hc : s[k].toNat = 63
      · have e63 := eq_lit (n := s[k].toNat) (z := 63) (by omega)
        have HR : Hid (solidB s.data.toList = false) := Lib.hid (by
          have h1 : (s.data.toList.take (k + 1)).contains 63 = true := by
            rw [HS.out, beq_iff_eq]
            exact UInt8.toNat_inj.1 hc
          unfold solidB
          have h2 : s.data.toList.contains 63 = true := by
            rw [List.contains_iff_mem] at h1 ⊢
            exact List.mem_of_mem_take h1
          rw [h2]; rfl)
        clear HN HS hg hc
        go_wp2_with fail
        go_ret
        rw [HR.out]
        exact Gives.mk rfl
      · have e63 : (((s[k].toNat : Nat) : Int) == 63) = false := beq_eq_false_iff_ne.2 (by omega)
        have HN2 : Hid ((s.data.toList.take (k + 1)).contains 63 = false) := Lib.hid (by
          rw [HS.out, beq_eq_false_iff_ne]
          exact fun h => hc (by rw [h]; rfl))
        clear HN HS hg hc
        go_wp2_with fail
        go_round
        case rel => exact ⟨k + 1, by omega, by go_num, HN2⟩
        case measure => simp [intOf]; omega
    · obtain rfl : k = s.size := by omega
      have h1 : s.data.toList.contains 63 = false := by
        have := HN.out
        rw [List.take_of_length_le (by omega)] at this
        exact this
      have HR : Hid (solidB s.data.toList = !s.data.toList.isEmpty) := Lib.hid (by unfold solidB; rw [h1]; rfl)
      by_cases h0 : s.size = 0
      · have q := empty_list h0
        have HE : Hid (s.data.toList.isEmpty = true) := Lib.hid (by rw [List.isEmpty_iff]; exact List.eq_nil_of_length_eq_zero (by omega))
        clear HN h1 h0
        go_wp2_with fail
        go_ret
        rw [HR.out, HE.out]
        exact Gives.mk rfl
      · have q := some_list h0
        have HE : Hid (s.data.toList.isEmpty = false) := Lib.hid (by
          cases h : s.data.toList with
          | nil => rw [h] at hl; exact absurd hl.symm h0
          | cons a l => rfl)
        clear HN h1 h0
        go_wp2_with fail
        go_ret
        rw [HR.out, HE.out]
        exact Gives.mk rfl
set_option maxRecDepth 100000 in
set_option maxHeartbeats 3200000 in
theorem rStatic_any (T : List Nd) (tv : Value) (w : World) (hn : Nodes w tv T) (hT : T.length ≤ 1000000) (hz : ∀ x ∈ T, x.t.size ≤ 140737488351232 ∧ x.u.size ≤ 140737488351232) : Calls Tryd.prog 9 #[tv] w (Makes (.bool (T.all statB)) w) := by
  have HN := Lib.hid hn
  have HZ := Lib.hid hz
  obtain ⟨A, C, rfl, hlc, _⟩ := hn
  clear hz
  go_enter Tryd.func9, Tryd.ntmps9
  go_wp2_with fail
  go_loopw [3] (fun i wr => ∃ k : Nat, k ≤ T.length ∧ i = .int .i64 k ∧ Hid ((T.take k).all statB = true) ∧ Hid (Below w.heap.size w wr)) (fun i _ => T.length - (intOf i).toNat)
  case atStart => exact ⟨0, Nat.zero_le _, rfl, Lib.hid rfl, Lib.hid (Below.refl _ _)⟩
  case round =>
    obtain ⟨k, hk, rfl, HA, HB⟩ := hrel
    by_cases hlt : k < T.length
    · obtain ⟨x, hx⟩ : ∃ x, T[k]? = some x := ⟨_, List.getElem?_eq_getElem hlt⟩
      obtain ⟨A', C', e1, _, hNN⟩ := HN.out.later HB.out
      simp only [Value.slice.injEq] at e1
      obtain ⟨rfl, _, rfl⟩ := e1
      obtain ⟨b, off, rfl, hM⟩ := hNN (by omega)
      obtain ⟨n0, n1, n2, n3, n4, n5, n6, n7⟩ := hM.at_ hx
      have hzx := HZ.out x (List.mem_of_getElem? hx)
      have HTK : Hid ((T.take (k + 1)).all statB = statB x) := Lib.hid (by
        rw [List.take_add_one, hx]
        simp only [Option.toList_some, List.all_append, HA.out, Bool.true_and, List.all_cons, List.all_nil, Bool.and_true])
      have HNO : Hid (statB x = false → T.all statB = false) := Lib.hid (fun h => by
        rw [List.all_eq_false]
        exact ⟨x, List.mem_of_getElem? hx, by rw [h]; decide⟩)
      have H1 := Lib.hid (fun w' => rSolid_any x.t w' hzx.1)
      have H2 := Lib.hid (fun w' => rSolid_any x.u w' hzx.2)
      have hb1 : Below w.heap.size w (wr.alloc (.cells #[.int .i8 x.kind, .int .i64 x.kids, .int .i64 x.n, .string x.s, .string x.t, .string x.u, .int .i64 x.line, .int .i64 x.col] 36)) := HB.out.alloc HB.out.size _
      have HB1 := Lib.hid hb1
      have HX : Hid (Box wr.heap.size x (wr.alloc (.cells #[.int .i8 x.kind, .int .i64 x.kids, .int .i64 x.n, .string x.s, .string x.t, .string x.u, .int .i64 x.line, .int .i64 x.col] 36))) := Lib.hid (MapKept.heap_alloc wr _).1
      have x4 : (wr.alloc (.cells #[.int .i8 x.kind, .int .i64 x.kids, .int .i64 x.n, .string x.s, .string x.t, .string x.u, .int .i64 x.line, .int .i64 x.col] 36)).cell? ⟨wr.heap.size, 4, none⟩ = some (.string x.t) := HX.out.cell 4
      have x5 : (wr.alloc (.cells #[.int .i8 x.kind, .int .i64 x.kids, .int .i64 x.n, .string x.s, .string x.t, .string x.u, .int .i64 x.line, .int .i64 x.col] 36)).cell? ⟨wr.heap.size, 5, none⟩ = some (.string x.u) := HX.out.cell 5
      have x1 : (wr.alloc (.cells #[.int .i8 x.kind, .int .i64 x.kids, .int .i64 x.n, .string x.s, .string x.t, .string x.u, .int .i64 x.line, .int .i64 x.col] 36)).cell? ⟨wr.heap.size, 1, none⟩ = some (.int .i64 x.kids) := HX.out.cell 1
      have HSB : Hid (statB x = if x.kind = 5 ∨ x.kind = 6 then solidB x.t.data.toList && solidB x.u.data.toList else if x.kind = 8 ∨ x.kind = 29 then solidB x.t.data.toList else if x.kind = 21 then decide (x.kids ≠ 0) else true) := Lib.hid rfl
      generalize solidB x.t.data.toList = b1 at *
      generalize solidB x.u.data.toList = b2 at *
      generalize statB x = sb at *
      clear hb1 hM hNN hx hzx HX
      by_cases h5 : x.kind = 5
      · have e5 : (x.kind == 5) = true := by rw [h5]; rfl
        rw [if_pos (by omega)] at HSB
        cases b1 with
        | false =>
          have HT : Hid (T.all statB = false) := Lib.hid (HNO.out HSB.out)
          clear HNO HTK HSB h5
          go_wp2_with fail
          refine (H1.out _).mono ?_
          rintro E w2 ⟨rfl, rfl⟩
          go_wp2_with fail
          go_ret
          rw [HT.out]
          exact Makes.mk rfl HB1.out
        | true =>
          cases b2 with
          | false =>
            have HT : Hid (T.all statB = false) := Lib.hid (HNO.out HSB.out)
            clear HNO HTK HSB h5
            go_wp2_with fail
            refine (H1.out _).mono ?_
            rintro E w2 ⟨rfl, rfl⟩
            go_wp2_with fail
            refine (H2.out _).mono ?_
            rintro E w2 ⟨rfl, rfl⟩
            go_wp2_with fail
            go_ret
            rw [HT.out]
            exact Makes.mk rfl HB1.out
          | true =>
            have HT : Hid ((T.take (k + 1)).all statB = true) := Lib.hid (HTK.out.trans HSB.out)
            clear HNO HTK HSB h5
            go_wp2_with fail
            refine (H1.out _).mono ?_
            rintro E w2 ⟨rfl, rfl⟩
            go_wp2_with fail
            refine (H2.out _).mono ?_
            rintro E w2 ⟨rfl, rfl⟩
            go_wp2_with fail
            go_roundw
            case rel => exact ⟨k + 1, by omega, by go_num, HT, HB1⟩
            case measure => simp [intOf]; omega
      have e5 : (x.kind == 5) = false := beq_eq_false_iff_ne.2 h5
      by_cases h6 : x.kind = 6
      · have e6 : (x.kind == 6) = true := by rw [h6]; rfl
        rw [if_pos (by omega)] at HSB
        cases b1 with
        | false =>
          have HT : Hid (T.all statB = false) := Lib.hid (HNO.out HSB.out)
          clear HNO HTK HSB h5 h6
          go_wp2_with fail
          refine (H1.out _).mono ?_
          rintro E w2 ⟨rfl, rfl⟩
          go_wp2_with fail
          go_ret
          rw [HT.out]
          exact Makes.mk rfl HB1.out
        | true =>
          cases b2 with
          | false =>
            have HT : Hid (T.all statB = false) := Lib.hid (HNO.out HSB.out)
            clear HNO HTK HSB h5 h6
            go_wp2_with fail
            refine (H1.out _).mono ?_
            rintro E w2 ⟨rfl, rfl⟩
            go_wp2_with fail
            refine (H2.out _).mono ?_
            rintro E w2 ⟨rfl, rfl⟩
            go_wp2_with fail
            go_ret
            rw [HT.out]
            exact Makes.mk rfl HB1.out
          | true =>
            have HT : Hid ((T.take (k + 1)).all statB = true) := Lib.hid (HTK.out.trans HSB.out)
            clear HNO HTK HSB h5 h6
            go_wp2_with fail
            refine (H1.out _).mono ?_
            rintro E w2 ⟨rfl, rfl⟩
            go_wp2_with fail
            refine (H2.out _).mono ?_
            rintro E w2 ⟨rfl, rfl⟩
            go_wp2_with fail
            go_roundw
            case rel => exact ⟨k + 1, by omega, by go_num, HT, HB1⟩
            case measure => simp [intOf]; omega
      have e6 : (x.kind == 6) = false := beq_eq_false_iff_ne.2 h6
      by_cases h8 : x.kind = 8
      · have e8 : (x.kind == 8) = true := by rw [h8]; rfl
        have h29 : True := trivial
        rw [if_neg (by omega), if_pos (by omega)] at HSB
        cases b1 with
        | false =>
          have HT : Hid (T.all statB = false) := Lib.hid (HNO.out HSB.out)
          clear HNO HTK HSB h5 h6 h8 h29
          go_wp2_with fail
          refine (H1.out _).mono ?_
          rintro E w2 ⟨rfl, rfl⟩
          go_wp2_with fail
          go_ret
          rw [HT.out]
          exact Makes.mk rfl HB1.out
        | true =>
          have HT : Hid ((T.take (k + 1)).all statB = true) := Lib.hid (HTK.out.trans HSB.out)
          clear HNO HTK HSB h5 h6 h8 h29
          go_wp2_with fail
          refine (H1.out _).mono ?_
          rintro E w2 ⟨rfl, rfl⟩
          go_wp2_with fail
          go_roundw
          case rel => exact ⟨k + 1, by omega, by go_num, HT, HB1⟩
          case measure => simp [intOf]; omega
      have e8 : (x.kind == 8) = false := beq_eq_false_iff_ne.2 h8
      by_cases h29 : x.kind = 29
      · have e29 : (x.kind == 29) = true := by rw [h29]; rfl
        rw [if_neg (by omega), if_pos (by omega)] at HSB
        cases b1 with
        | false =>
          have HT : Hid (T.all statB = false) := Lib.hid (HNO.out HSB.out)
          clear HNO HTK HSB h5 h6 h8 h29
          go_wp2_with fail
          refine (H1.out _).mono ?_
          rintro E w2 ⟨rfl, rfl⟩
          go_wp2_with fail
          go_ret
          rw [HT.out]
          exact Makes.mk rfl HB1.out
        | true =>
          have HT : Hid ((T.take (k + 1)).all statB = true) := Lib.hid (HTK.out.trans HSB.out)
          clear HNO HTK HSB h5 h6 h8 h29
          go_wp2_with fail
          refine (H1.out _).mono ?_
          rintro E w2 ⟨rfl, rfl⟩
          go_wp2_with fail
          go_roundw
          case rel => exact ⟨k + 1, by omega, by go_num, HT, HB1⟩
          case measure => simp [intOf]; omega
      have e29 : (x.kind == 29) = false := beq_eq_false_iff_ne.2 h29
      rw [if_neg (by omega), if_neg (by omega)] at HSB
      by_cases h21 : x.kind = 21
      · have e21 : (x.kind == 21) = true := by rw [h21]; rfl
        rw [if_pos h21] at HSB
        by_cases h0 : x.kids = 0
        · have k0 : (x.kids == 0) = true := by rw [h0]; rfl
          have HT : Hid (T.all statB = false) := Lib.hid (HNO.out (HSB.out.trans (decide_eq_false (fun h => h h0))))
          clear HNO HTK HSB h5 h6 h8 h29 h21 h0
          go_wp2_with fail
          go_ret
          rw [HT.out]
          exact Makes.mk rfl HB1.out
        · have k0 : (x.kids == 0) = false := beq_eq_false_iff_ne.2 h0
          have HT : Hid ((T.take (k + 1)).all statB = true) := Lib.hid (HTK.out.trans (HSB.out.trans (decide_eq_true h0)))
          clear HNO HTK HSB h5 h6 h8 h29 h21 h0
          go_wp2_with fail
          go_roundw
          case rel => exact ⟨k + 1, by omega, by go_num, HT, HB1⟩
          case measure => simp [intOf]; omega
      · have e21 : (x.kind == 21) = false := beq_eq_false_iff_ne.2 h21
        rw [if_neg h21] at HSB
        have HT : Hid ((T.take (k + 1)).all statB = true) := Lib.hid (HTK.out.trans HSB.out)
        clear HNO HTK HSB h5 h6 h8 h29 h21
        go_wp2_with fail
        go_roundw
        case rel => exact ⟨k + 1, by omega, by go_num, HT, HB1⟩
        case measure => simp [intOf]; omega
    · have HR : Hid (T.all statB = true) := Lib.hid (by
        have := HA.out
        rw [List.take_of_length_le (by omega)] at this
        exact this)
      clear HA
      go_wp2_with fail
      go_ret
      rw [HR.out]
      exact Makes.mk rfl HB.out
end Go.Proofs.YtdfadmhomjcmeaaDoor

/- The walk of the statement CheckSolid. -/
namespace Culp.Tr
set_option linter.unusedSimpArgs false
set_option linter.unusedVariables false
open Go
theorem sfits {same : Bool} : ∀ (f : F) (g : Nat → Env) (k p : Nat) (K : List (Nat × List Ty)), chk same f g k p = .ok K → ∀ a ∈ K, ∀ t ∈ a.2, t.fits
  | .nil, g, k, p, K, h => by
    simp only [chk, Except.ok.injEq] at h
    subst h
    simp
  | .cons x ks r, g, k, p, K, h => by
    obtain ⟨K1, t, R, _, h2, _, h4, h5, rfl⟩ := F.chk_cons h
    have i1 := sfits ks _ 0 (p + 1) K1 h2
    have i2 := sfits r g (k + 1) _ R h5
    intro a ha u hu
    rcases List.mem_cons.1 ha with rfl | ha
    · rcases List.mem_cons.1 hu with rfl | hu
      · exact h4
      · obtain ⟨l, hl, hul⟩ := List.mem_flatten.1 hu
        obtain ⟨b, hb, rfl⟩ := List.mem_map.1 hl
        exact i1 b hb u hul
    · exact i2 a ha u hu
theorem slen {same : Bool} {x : Nd} {ks : F} {E : Env} {p : Nat} {ts : List Ty} (h : chk1 same x ks E p = .ok ts) : ts.length = 1 + ks.flat.length := by
  unfold chk1 at h
  cases hc : chk same (.cons x ks .nil) (fun _ => E) 0 p with
  | error b => rw [hc] at h; cases h
  | ok K =>
    rw [hc] at h
    injection h with h
    subst h
    have := F.chk_len same _ _ _ _ K hc
    simp only [F.flat, List.append_nil, List.length_cons] at this
    omega
/-- A solid tree in a solid environment: read either way it is the same; its types are solid. -/
theorem solid_one {x : Nd} {ks : F} {E : Env} (hS : StatF (.cons x ks .nil)) (hE : EnvS E) : chk1 false x ks E 0 = chk1 true x ks E 0 ∧ ∀ ts, chk1 true x ks E 0 = .ok ts → ∀ t ∈ ts, t.solid = true ∧ t.fits := by
  obtain ⟨h1, h2⟩ := chk_solid (.cons x ks .nil) (fun _ => E) 0 0 hS (fun _ => hE)
  refine ⟨by unfold chk1; rw [h1], fun ts h => ?_⟩
  unfold chk1 at h
  cases hc : chk true (.cons x ks .nil) (fun _ => E) 0 0 with
  | error b => rw [hc] at h; cases h
  | ok K =>
    rw [hc] at h
    injection h with h
    subst h
    intro t ht
    obtain ⟨l, hl, hul⟩ := List.mem_flatten.1 ht
    obtain ⟨b, hb, rfl⟩ := List.mem_map.1 hl
    exact ⟨(h2 K hc b hb).2 t hul, sfits _ _ _ _ K hc b hb t hul⟩
end Culp.Tr
namespace Go.Proofs.YtdfadmhomjcmeaaDoor
set_option linter.unusedSimpArgs false
set_option linter.unusedVariables false
open Go.RowKit Go.Maps Culp
theorem envTo_solid {N S : List ByteArray} : ∀ k, (∀ j, j < k → argOk N S j) → (∀ j, j < k → solidB (S.getD j ByteArray.empty).data.toList = true) → Tr.EnvS (envTo N S k)
  | 0, _, _ => fun b hb => by cases hb
  | k + 1, h, hs => by
    obtain ⟨T, e, hT, e2⟩ := argOk_ty (h k (Nat.lt_succ_self k))
    unfold envTo
    rw [e2]
    intro b hb
    rcases List.mem_cons.1 hb with rfl | hb
    · show T.solid = true
      rw [← solidB_str, ← e]
      exact hs k (Nat.lt_succ_self k)
    · exact envTo_solid k (fun j hj => h j (by omega)) (fun j hj => hs j (by omega)) b hb
end Go.Proofs.YtdfadmhomjcmeaaDoor
