
/- Walks of trees, the document's: the depths of the nodes. -/
import Derived.Test.YtdobaililmkkcaaGreatDoorTrH
import Derived.Test.YtdobaililmkkcaaGreatDoorTrM
import Derived.Maps.AppendAt
namespace Culp
set_option linter.unusedSimpArgs false
set_option linter.unusedVariables false
open Go Go.RowKit
/-- One more struct onto a row of the call's own, and where the row lies then. -/
theorem append_agg_at {P : Program} {w : World} {ops : Array Oper} {rest : List Oper} {o : Oper} {a : Act} {Q : Exit → Act → World → Prop} (hgd : o.guard = none) (s x : Operand) (t e : TypeId)
    (ho : o.op = .call { callee := .builtin .append, args := #[s, x], argTypes := #[t, t] })
    (base : Nat) (z : Value) (size bytes : Nat) (ht : P.underlying t = some (.slice e)) (hi : (P.info? e).map (fun i => (i.zero, i.size, i.bytes)) = some (some z, size, bytes))
    (hzs : z.cells.size = size) (h0 : 0 < size)
    (v : Value) (n : Nat) (xs : List Value) (hs : a.eval s = v) (hown : w.ownsRow base e size v n xs) (us : List Value) (hus : us.length = size)
    (g : Nat) (hx : a.eval x = .slice (some ⟨g, 0, none⟩) 1 1) (hgg : w.heap.size = g) (h1 : ∀ u ∈ us, u.oneCell' = true)
    (h63 : n + 1 ≤ 1000000000000000) (hbytes : (n + 1) * bytes ≤ 140737488355328) (hbase : base ≤ w.heap.size)
    (h : ∀ v' w', w'.ownsRow base e size v' (n + 1) (xs ++ us) → w.grownBy w' v.ownBlock → Below base w w' → (v'.ownBlock = v.ownBlock ∨ v'.ownBlock = some (w.heap.size + 1)) → wpList P ops Q rest (a.put o.dst v') w') :
    wpList P ops Q (o :: rest) a (w.alloc (.cells us.toArray e)) := by
  subst hgg
  obtain ⟨i, hi, hz, hz1, hz2⟩ := info_parts hi
  refine wpList_append_own_at _ hgd s x t ho base e i z size bytes ht hi hz hz1 hz2 hzs h0 v n xs hs (hown.alloc _) ⟨w.heap.size, 0, none⟩ 1 1 us hx (by omega) ?_ h1 (by unfold maxLen; omega) hbytes (by simp; omega) ?_
  · intro j u hj
    have e1 : (⟨w.heap.size, 0, none⟩ : Addr).add j = ⟨w.heap.size, j, none⟩ := by
      unfold Addr.add
      split
      · rename_i h0; subst h0; rfl
      · simp
    rw [e1, World.cell?_alloc_at _ _ _ _ rfl]
    simpa using hj
  · intro v' w' hown' hg _ hat
    have hg' : w.grownBy w' v.ownBlock :=
      { os := hg.os, tape := hg.tape, output := hg.output,
        size := by have := hg.size; simp at this; omega,
        block := fun k hk hne => by
          rw [hg.block k (by simp; omega) hne]
          exact Below.heap_alloc _ _ _ hk }
    refine h v' w' hown' hg' ((Below.refl base w).grown hg' hbase fun k hk => ?_) (by simpa using hat)
    have := hown.lt k hk
    omega
/-- Two slices that lie in no row in common. -/
def Apart (a b : Value) : Prop := ∀ k, a.ownBlock = some k → b.ownBlock ≠ some k
section
variable {w w' : World} {base base2 size size2 n m : Nat} {e e2 : TypeId} {a a' b : Value} {xs ys : List Value}
theorem Apart.symm (h : Apart a b) : Apart b a := fun k hb ha => h k ha hb
theorem own_apart_grown (h : w.ownsRow base e size b n xs) (hg : w.grownBy w' a.ownBlock) (hA : Apart a b) : w'.ownsRow base e size b n xs := by
  refine ⟨h.1, ?_⟩
  rcases h.2 with h2 | ⟨g, cap, cur, rfl, hb, hh, h3⟩
  · exact .inl h2
  · refine .inr ⟨g, cap, cur, rfl, hb, ?_, h3⟩
    rw [hg.block g (h.lt g rfl).2 (fun e => hA g e.symm rfl)]; exact hh
theorem own_apart_keep {g : Nat} (h : w.ownsRow base e size b n xs) (hk : Keep g w w') (hA : b.ownBlock ≠ some g) : w'.ownsRow base e size b n xs := by
  refine ⟨h.1, ?_⟩
  rcases h.2 with h2 | ⟨g', cap, cur, rfl, hb, hh, h3⟩
  · exact .inl h2
  · refine .inr ⟨g', cap, cur, rfl, hb, ?_, h3⟩
    rw [hk.block g' (h.lt g' rfl).2 (fun e => hA (by rw [e]; rfl))]; exact hh
theorem Apart.grow (hA : Apart a b) (h : w.ownsRow base e size b n xs) (hat : a'.ownBlock = a.ownBlock ∨ a'.ownBlock = some (w.heap.size + 1)) : Apart a' b := by
  intro k hk hb
  rcases hat with h1 | h1
  · exact hA k (h1 ▸ hk) hb
  · rw [h1] at hk
    have := (h.lt k hb).2
    injection hk with hk
    omega
end
end Culp
namespace Culp.Tr
theorem deps_nil (S : List Int) : deps [] S = [] := rfl
theorem deps_stop {x : Nd} {l : List Nd} {S : List Int} (h : pop S = []) : deps (x :: l) S = [] := by rw [deps, h]
theorem deps_more {x : Nd} {l : List Nd} {S : List Int} {c : Int} {r : List Int} (h : pop S = c :: r) : deps (x :: l) S = (r.length + 1) :: deps l (max x.kids 0 :: (c - 1) :: r) := by rw [deps, h]
end Culp.Tr
namespace Go.Proofs.YtdobaililmkkcaaGreatDoor
open Go.RowKit Go.Maps Culp

def natV (n : Nat) : Value := .int .i64 (n : Int)
/-- What Depths answers. -/
def DepRes (T : List Nd) (w : World) (e : Ending) (w' : World) : Prop := ∃ v, e = .returned (.tuple #[v, .int .i64 ((Tr.deps T [1]).length : Nat)]) ∧ w'.ownsRow w.heap.size 3 1 v (Tr.deps T [1]).length ((Tr.deps T [1]).map natV) ∧ Below w.heap.size w w'
set_option maxRecDepth 100000 in
set_option maxHeartbeats 6400000 in
theorem Depths_any (T : List Nd) (tv : Value) (w : World) (hn : Nodes w tv T) (hT : T.length ≤ 1000000) (hk : ∀ x ∈ T, x.kids ≤ 9223372036854775807) :
    Calls Tryz.prog 80 #[tv] w (DepRes T w) := by
  have HN := Lib.hid hn
  have HK := Lib.hid hk
  obtain ⟨A, c, rfl, hlc, _⟩ := hn
  clear hk
  go_enter Tryz.func80, Tryz.ntmps80
  go_wp2_with fail
  have hst : Stk w.heap.size (.slice (some ⟨w.heap.size, 0, none⟩) 1 1) [1] (w.alloc (.cells #[.int .i64 1] 3)) := own_lit w _ _
  have HST0 := Lib.hid hst
  have HB0 : Hid (Below w.heap.size w (w.alloc (.cells #[.int .i64 1] 3))) := Lib.hid ((Below.refl _ _).alloc (Nat.le_refl _) _)
  clear hst
  generalize w.alloc (.cells #[.int .i64 1] 3) = w1 at *
  go_loopw [4, 5, 6] (fun ov v i wr => ∃ (k : Nat) (S : List Int) (D : List Nat) (u o : Value), o = ov ∧ v = u ∧ i = .int .i64 k ∧ k ≤ T.length ∧ S.length ≤ k + 1 ∧ D.length = k ∧ Hid (∀ n ∈ S, 0 ≤ n ∧ n ≤ 9223372036854775807) ∧ Hid (Tr.deps T [1] = D ++ Tr.deps (T.drop k) S) ∧ Hid (Stk w.heap.size u S wr) ∧ Hid (wr.ownsRow w.heap.size 3 1 o D.length (D.map natV)) ∧ Hid (Apart o u) ∧ Hid (Below w.heap.size w wr)) (fun _ _ i _ => T.length - (intOf i).toNat)
  case atStart => exact ⟨0, [1], [], _, _, rfl, rfl, rfl, Nat.zero_le _, Nat.le_refl _, rfl, Lib.hid (by simp), Lib.hid (by rw [List.drop_zero]; rfl), HST0, Lib.hid (World.ownsRow_nil _ _ _ _), Lib.hid (fun k hk => by cases hk), HB0⟩
  case round =>
    clear HST0 HB0
    obtain ⟨k, S, D, u, o, rfl, rfl, rfl, hk, hS, hD, HP, HDE, HST, HOW, HAP, HB⟩ := hrel
    by_cases hlt : k < T.length
    · have hx : T[k]? = some T[k] := List.getElem?_eq_getElem hlt
      have HX := Lib.hid hx
      have HKX := Lib.hid (HK.out _ (List.mem_of_getElem? hx))
      have hdrop : T.drop k = T[k] :: T.drop (k + 1) := List.drop_eq_getElem_cons hlt
      rw [hdrop] at HDE
      generalize T[k] = x at *
      clear hx hdrop
      go_wp2_with fail
      go_loopw [5] (fun v wx => wr = wx ∧ ∃ (S' : List Int) (u' : Value), v = u' ∧ S'.length ≤ S.length ∧ Hid (Tr.pop S' = Tr.pop S) ∧ Hid (∀ n ∈ S', n ∈ S) ∧ Hid (Stk w.heap.size u' S' wr) ∧ Hid (Apart o u')) (fun v _ => slLen v)
      case atStart => exact ⟨rfl, S, _, rfl, Nat.le_refl _, Lib.hid rfl, Lib.hid (fun _ h => h), HST, HAP⟩
      case round =>
        clear HST HAP
        obtain ⟨rfl, S', u', rfl, hS', HPO, HSU, HSTi, HAPi⟩ := hrel
        cases S' with
        | nil =>
          obtain ⟨A3, c3, rfl⟩ := HSTi.out.form
          have HF : Hid (Tr.deps T [1] = D) := Lib.hid (by rw [HDE.out, Tr.deps_stop (by rw [← HPO.out]; rfl), List.append_nil])
          rw [List.length_nil]
          go_wp2_with fail
          go_ret2
          exact ⟨o, by rw [HF.out, hD]; rfl, by rw [HF.out]; exact HOW.out, HB.out⟩
        | cons c r =>
          obtain ⟨g, cap, rfl, hg0, hg1, hcap, hc0, hf0⟩ := HSTi.out.top
          have hcS := HSU.out c List.mem_cons_self
          have hcb := HP.out c hcS
          rw [List.length_cons] at hS'
          by_cases hz : c = 0
          · have ez : (c == 0) = true := by rw [hz]; rfl
            have HPO2 : Hid (Tr.pop r = Tr.pop S) := Lib.hid (by rw [← HPO.out, hz]; rfl)
            have HSU2 : Hid (∀ n ∈ r, n ∈ S) := Lib.hid (fun n hn => HSU.out n (List.mem_cons_of_mem _ hn))
            have HST2 := Lib.hid HSTi.out.pop
            have HAP2 : Hid (Apart o (.slice (some ⟨g, 0, none⟩) r.length cap)) := Lib.hid (fun k hk he => HAPi.out k hk he)
            clear HPO HSU HSTi HAPi hcS hcb hz hg0 hg1
            go_wp2_with fail
            go_roundw
            case rel => exact ⟨trivial, r, _, rfl, by omega, HPO2, HSU2, HST2, HAP2⟩
            case measure => simp [slLen]
          have ez : (c == 0) = false := beq_no hz
          have hpop : Tr.pop S = c :: r := by rw [← HPO.out]; unfold Tr.pop; rw [List.dropWhile_cons, if_neg (by simp [hz])]
          have HDE2 : Hid (Tr.deps T [1] = (D ++ [r.length + 1]) ++ Tr.deps (T.drop (k + 1)) (max x.kids 0 :: (c - 1) :: r)) := Lib.hid (by rw [HDE.out, Tr.deps_more hpop]; simp)
          have HP5 : Hid (∀ n ∈ max x.kids 0 :: (c - 1) :: r, 0 ≤ n ∧ n ≤ 9223372036854775807) := Lib.hid (by
            have := HKX.out
            intro n hn
            rcases List.mem_cons.1 hn with rfl | hn
            · omega
            rcases List.mem_cons.1 hn with rfl | hn
            · omega
            · exact HP.out n (HSU.out n (List.mem_cons_of_mem _ hn)))
          obtain ⟨hc1, hc2⟩ := hcb
          have hcp : 0 < c := by omega
          have hog : o.ownBlock ≠ some g := fun he => HAPi.out g he rfl
          have HST4 : Hid (Stk w.heap.size (.slice (some ⟨g, 0, none⟩) (r.length + 1) cap) ((c - 1) :: r) (wr.setCell ⟨g, r.length, none⟩ (.int .i64 (c - 1)))) := Lib.hid (HSTi.out.dec (c - 1))
          have HB4 : Hid (Below w.heap.size w (wr.setCell ⟨g, r.length, none⟩ (.int .i64 (c - 1)))) := Lib.hid (HB.out.setCell hg0 _)
          have own4 : (wr.setCell ⟨g, r.length, none⟩ (.int .i64 (c - 1))).ownsRow w.heap.size 3 1 o D.length (D.map natV) := own_apart_keep HOW.out ((Keep.refl _ _).setCell _ _) hog
          clear HPO HSU HSTi HDE hpop hcS hz hg1 hog HOW HP
          go_wp2_with (at_builtin; refine append_agg_at rfl (.tmp 44) (.tmp 47) 83 3 rfl w.heap.size _ 1 8 Tryz.underlying83 int_info rfl (by decide) _ _ _ rfl own4 [.int .i64 ((r.length : Int) + 1)] rfl wr.heap.size rfl (by simp) ?_ ?_ ?_ ?_ ?_)
          · first
              | rfl
              | (intro y hy; simp only [List.mem_cons, List.not_mem_nil, or_false] at hy; subst hy; rfl)
          · omega
          · omega
          · have := HB4.out.size
            simpa using this
          intro o' w5 hown' hg' hb' hat
          have hS4 : (wr.setCell ⟨g, r.length, none⟩ (.int .i64 (c - 1))).ownsRow w.heap.size 3 1 (.slice (some ⟨g, 0, none⟩) (r.length + 1) cap) (r.length + 1) (((c - 1) :: r).reverse.map (Value.int .i64)) := HST4.out
          have hAP4 : Apart o (.slice (some ⟨g, 0, none⟩) (r.length + 1) cap) := fun k hk he => HAPi.out k hk he
          have own5 := own_apart_grown hS4 hg' hAP4
          have hAP5 := hAP4.grow (a' := o') hS4 (by simpa using hat)
          have HAP5 := Lib.hid hAP5
          have HO5 : Hid (w5.ownsRow w.heap.size 3 1 o' (D.length + 1) (D.map natV ++ [.int .i64 ((r.length : Int) + 1)])) := Lib.hid (by first | exact hown' | (rw [hD]; exact hown'))
          have HB5 := Lib.hid (HB4.out.trans hb')
          obtain ⟨A2, c2, e2, _, hN⟩ := HN.out.later HB5.out
          simp only [Value.slice.injEq] at e2
          obtain ⟨rfl, _, rfl⟩ := e2
          obtain ⟨b, off, rfl, hM⟩ := hN (by omega)
          have n1 := (hM.at_ HX.out).2.1
          clear own4 hown' hg' hb' hat hS4 hAP4 hAP5 HST4 HB4 hN hM HAPi hc0 hf0
          go_wp2_with (at_builtin; refine append_agg_at rfl (.tmp 49) (.tmp 56) 83 3 rfl w.heap.size _ 1 8 Tryz.underlying83 int_info rfl (by decide) _ _ _ rfl own5 [.int .i64 (max x.kids 0)] rfl w5.heap.size rfl (by simp) ?_ ?_ ?_ ?_ ?_)
          · first
              | rfl
              | (intro y hy; simp only [List.mem_cons, List.not_mem_nil, or_false] at hy; subst hy; rfl)
          · omega
          · omega
          · exact HB5.out.size
          intro v' w6 hown' hg' hb' hat
          have HST6 : Hid (Stk w.heap.size v' (max x.kids 0 :: (c - 1) :: r) w6) := Lib.hid (Stk.push (S := (c - 1) :: r) (by simpa using hown'))
          have HO6 : Hid (w6.ownsRow w.heap.size 3 1 o' (D ++ [r.length + 1]).length ((D ++ [r.length + 1]).map natV)) := Lib.hid (by
            have := own_apart_grown HO5.out hg' HAP5.out.symm
            rw [List.length_append, List.map_append]
            exact this)
          have HAP6 := Lib.hid ((HAP5.out.symm.grow HO5.out hat).symm)
          have HB6 := Lib.hid (HB5.out.trans hb')
          clear own5 hown' hg' hb' hat HO5 HAP5 HB5 n1
          go_wp2_with fail
          go_roundw
          case rel => exact ⟨k + 1, max x.kids 0 :: (c - 1) :: r, D ++ [r.length + 1], v', o', rfl, rfl, by go_num, by omega, by simp only [List.length_cons]; omega, by rw [List.length_append, hD]; rfl, HP5, HDE2, HST6, HO6, HAP6, HB6⟩
          case measure => simp [intOf]; omega
    · have hkT : k = T.length := by omega
      have hTD : D.length = T.length := by omega
      have HF : Hid (Tr.deps T [1] = D) := Lib.hid (by rw [HDE.out, hkT, List.drop_length, Tr.deps_nil, List.append_nil])
      clear HDE hkT
      go_wp2_with fail
      go_ret2
      exact ⟨o, by rw [HF.out, hTD]; rfl, by rw [HF.out]; exact HOW.out, HB.out⟩
end Go.Proofs.YtdobaililmkkcaaGreatDoor
