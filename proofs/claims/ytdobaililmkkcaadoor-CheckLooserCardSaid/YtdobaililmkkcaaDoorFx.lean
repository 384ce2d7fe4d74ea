
/- Walks of trees: the free names. -/
import Derived.Test.YtdobaililmkkcaaDoorFq
import Derived.Test.YtdobaililmkkcaaDoorTrR
import Derived.Test.YtdobaililmkkcaaDoorFr
import Derived.Test.YtdobaililmkkcaaDoorShelf
namespace Culp.Tr
set_option linter.unusedSimpArgs false
set_option linter.unusedVariables false
open Go
theorem inner_sp {c : UInt8} (h : Tx.inner c = true) : Lib.isSp c = false ∧ c.toNat < 128 := by
  unfold Tx.inner Tx.letter Tx.digit at h
  simp only [Bool.or_eq_true, decide_eq_true_eq] at h
  refine ⟨?_, by omega⟩
  unfold Lib.isSp
  have hk : ∀ n : UInt8, n.toNat ≤ 32 → (c == n) = false := fun n hn => by
    rw [beq_eq_false_iff_ne]
    intro he
    subst he
    omega
  rw [hk 9 (by decide), hk 10 (by decide), hk 11 (by decide), hk 12 (by decide), hk 13 (by decide), hk 32 (by decide)]
  rfl
theorem name_inner {s : List UInt8} (h : Tx.isName s = true) : s ≠ [] ∧ s.length ≤ 32 ∧ ∀ c ∈ s, Tx.inner c = true := by
  unfold Tx.isName at h
  simp only [Bool.and_eq_true, decide_eq_true_eq, List.all_eq_true] at h
  exact ⟨h.1.1.1.1, h.1.1.1.2, h.2⟩
theorem fieldsGo_word : ∀ (l cur rest : List UInt8), (∀ c ∈ l, Lib.isSp c = false) → Lib.fieldsGo cur (l ++ rest) = Lib.fieldsGo (cur ++ l) rest
  | [], cur, rest, _ => by simp
  | c :: l, cur, rest, h => by
    rw [List.cons_append, Lib.fieldsGo_more _ _ _ (h c List.mem_cons_self), fieldsGo_word l (cur ++ [c]) rest (fun d hd => h d (List.mem_cons_of_mem _ hd))]
    simp
theorem fields_name {s : List UInt8} (h : Tx.isName s = true) : Lib.fields s = [s] := by
  obtain ⟨h1, _, h2⟩ := name_inner h
  unfold Lib.fields
  have := fieldsGo_word s [] [] (fun c hc => (inner_sp (h2 c hc)).1)
  rw [List.append_nil, List.nil_append] at this
  rw [this]
  cases s with
  | nil => exact absurd rfl h1
  | cons c s => rfl
theorem two_split : ∀ {l a b : List UInt8}, two l = some (a, b) → l = a ++ 32 :: b
  | [], a, b, h => by simp [two] at h
  | c :: l, a, b, h => by
    unfold two at h
    split at h
    · rename_i hc
      simp only [Option.some.injEq, Prod.mk.injEq] at h
      obtain ⟨rfl, rfl⟩ := h
      have : c = 32 := UInt8.toNat_inj.1 hc
      rw [this]; rfl
    · simp only [Option.map_eq_some_iff, Prod.exists, Prod.mk.injEq] at h
      obtain ⟨x, y, h1, rfl, rfl⟩ := h
      rw [two_split h1]; rfl
theorem fields_two {s a b : List UInt8} (h : two s = some (a, b)) (ha : Tx.isName a = true) (hb : Tx.isName b = true) : Lib.fields s = [a, b] := by
  obtain ⟨h1, _, h2⟩ := name_inner ha
  have h3 := fields_name hb
  unfold Lib.fields at h3 ⊢
  rw [two_split h, fieldsGo_word a [] _ (fun c hc => (inner_sp (h2 c hc)).1), List.nil_append, Lib.fieldsGo_end _ _ _ (by decide) h1, h3]
/-- What a node that binds says, in the library's words. -/
structure Fld (x : Nd) : Prop where
  eq : (Lib.fields x.s.data.toList).map (fun l => (⟨l.toArray⟩ : ByteArray)) = binds x 0
  len : 0 < (Lib.fields x.s.data.toList).length ∧ (Lib.fields x.s.data.toList).length ≤ 2
  size : x.s.size < 100
  ascii : ∀ (j : Nat) b, x.s.data.toList[j]? = some b → b.toNat < 128
theorem fld_of {x : Nd} (h : may x = true) (hk : x.kind = 5 ∨ x.kind = 6) : Fld x := by
  have hs : sOk x.kind x.s.data.toList = true := by
    unfold may at h
    simp only [Bool.and_eq_true] at h
    exact h.1.1.2
  rcases hk with hk | hk
  · rw [hk] at hs
    have hn : Tx.isName x.s.data.toList = true := hs
    obtain ⟨h1, h2, h3⟩ := name_inner hn
    refine ⟨?_, ?_, ?_, ?_⟩
    · rw [fields_name hn]
      unfold binds
      rw [if_pos hk]
      rfl
    · rw [fields_name hn]; exact ⟨Nat.succ_pos _, by simp⟩
    · have : x.s.size = x.s.data.toList.length := by rw [Array.length_toList]; rfl
      omega
    · intro j b hb
      exact (inner_sp (h3 b (List.mem_of_getElem? hb))).2
  · rw [hk] at hs
    have hn : twoOk x.s.data.toList = true := hs
    unfold twoOk at hn
    split at hn
    · cases hn
    · rename_i a b hab
      simp only [Bool.and_eq_true] at hn
      obtain ⟨ha, hb⟩ := hn
      have hf := fields_two hab ha hb
      obtain ⟨_, a2, a3⟩ := name_inner ha
      obtain ⟨_, b2, b3⟩ := name_inner hb
      have hsp := two_split hab
      refine ⟨?_, ?_, ?_, ?_⟩
      · rw [hf]
        unfold binds
        rw [if_neg (by omega), if_pos hk, hab]
        rfl
      · rw [hf]; exact ⟨Nat.succ_pos _, by simp⟩
      · have h4 : x.s.size = x.s.data.toList.length := by rw [Array.length_toList]; rfl
        rw [hsp, List.length_append, List.length_cons] at h4
        omega
      · intro j c hc
        have hm := List.mem_of_getElem? hc
        rw [hsp, List.mem_append, List.mem_cons] at hm
        rcases hm with hm | rfl | hm
        · exact (inner_sp (a3 c hm)).2
        · decide
        · exact (inner_sp (b3 c hm)).2
theorem kids_of_may {x : Nd} {ks : F} (h : may x = true) (ho : (F.cons x ks .nil).Ok) (n : Nat) (hn : arit x.kind = n) : ks.cnt = n := by
  unfold may kOk at h
  simp only [Bool.and_eq_true, decide_eq_true_eq, Bool.or_eq_true] at h
  have := ho.1
  omega
namespace F
set_option linter.unusedSimpArgs false
set_option linter.unusedVariables false
variable {x y : Nd} {ks ky r : F} {bd : List ByteArray} {g : Nat → List ByteArray} {k : Nat}
theorem vars_leaf (h : x.kind = 4) : (cons x ks nil).vars (fun _ => bd) 0 = if x.s ∈ bd then [] else [x.s] := by
  simp only [vars, if_pos h, List.append_nil]
theorem vars_one (h : x.kind ≠ 4) : (cons x ks nil).vars (fun _ => bd) 0 = ks.vars (fun j => bd ++ binds x j) 0 := by
  simp only [vars, if_neg h, List.append_nil]
theorem vars_first : (cons y ky r).vars g k = (cons y ky nil).vars (fun _ => g k) 0 ++ r.vars g (k + 1) := by
  simp only [vars, List.append_nil]
theorem vars_plain (h : ∀ j, binds x j = []) : ks.vars (fun j => bd ++ binds x j) 0 = ks.vars (fun _ => bd) 0 := vars_congr _ _ _ _ _ fun i _ => by simp [h]
theorem vars_move (k m : Nat) : ks.vars (fun _ => bd) k = ks.vars (fun _ => bd) m := vars_congr _ _ _ _ _ fun _ _ => rfl
end F
theorem binds_plain {x : Nd} (h5 : x.kind ≠ 5) (h6 : x.kind ≠ 6) (h8 : x.kind ≠ 8) (j : Nat) : binds x j = [] := by
  unfold binds
  rw [if_neg h5, if_neg h6, if_neg (fun h => h8 h.1)]
theorem binds_let0 {x : Nd} (h8 : x.kind = 8) : binds x 0 = [] := by
  unfold binds
  rw [if_neg (by omega), if_neg (by omega), if_neg (by omega)]
theorem binds_let1 {x : Nd} (h8 : x.kind = 8) : binds x 1 = [x.s] := by
  unfold binds
  rw [if_neg (by omega), if_neg (by omega), if_pos ⟨h8, rfl⟩]
end Culp.Tr
namespace Go.Proofs.YtdobaililmkkcaaDoor
set_option linter.unusedSimpArgs false
set_option linter.unusedVariables false
open Go.RowKit Go.Maps Culp

set_option maxRecDepth 100000 in
set_option maxHeartbeats 1600000 in
theorem add_any (a B : Nat) (L : List ByteArray) (v : Value) (s : ByteArray) (w : World) (hN : NamesAt 22 9 a B L v w) (hL : L.length ≤ 1000000) (hB : B ≤ w.heap.size) :
    Calls Tryd.prog 28 #[.string s, .pointer (some ⟨a, 0, none⟩)] w (NamesRes 22 9 a B (Tr.add1 L s) v.ownBlock w) := by
  have c0 := hN.one.cell
  have f0 := hN.one.free
  have HN := Lib.hid hN
  obtain ⟨A, c, rfl, _, hA⟩ := own_form hN.own
  have HA := Lib.hid hA
  clear hN hA
  go_enter Tryd.func28, Tryd.ntmps28
  go_wp2_with fail
  go_loop [7] (fun i => ∃ k : Nat, k ≤ L.length ∧ i = .int .i64 k ∧ Hid (s ∉ L.take k)) (fun i => L.length - (intOf i).toNat)
  case atStart => exact ⟨0, Nat.zero_le _, rfl, Lib.hid (by simp)⟩
  case round =>
    obtain ⟨k, hk, rfl, HS⟩ := hrel
    by_cases hlt : k < L.length
    · obtain ⟨g, rfl, _, hc⟩ := HA.out (by omega)
      have x0 : w.cell? ⟨g, k, none⟩ = some (.string L[k]) := hc k _ (by rw [List.getElem?_map, List.getElem?_eq_getElem hlt]; rfl)
      have HT := Lib.hid (List.take_succ_eq_append_getElem hlt)
      have HM := Lib.hid (List.getElem_mem hlt)
      generalize L[k] = t at *
      clear hc
      by_cases he : t = s
      · have es : (t.toList == s.toList) = true := by rw [he]; exact beq_self_eq_true _
        have HR := Lib.hid (HN.out.had (s := s) (by rw [← he]; exact HM.out))
        clear he
        go_wp2_with fail
        exact bodyPost_end (v := .tuple #[]) (by simp [results, Tryd.results28, go_sem]) rfl HR.out
      · have es : (t.toList == s.toList) = false := beq_eq_false_iff_ne.2 (by rw [toL', toL']; exact fun h => he (str_inj' h))
        have HS2 : Hid (s ∉ L.take (k + 1)) := Lib.hid (by
          rw [HT.out, List.mem_append, List.mem_singleton]
          rintro (h | h)
          · exact HS.out h
          · exact he h.symm)
        clear he
        go_wp2_with fail
        go_round
        case rel => exact ⟨k + 1, by omega, by go_num, HS2⟩
        case measure => simp [intOf]; omega
    · obtain rfl : k = L.length := by omega
      have HS2 : Hid (s ∉ L) := Lib.hid (by have := HS.out; rwa [List.take_length] at this)
      have own4 := HN.out.own
      clear HS
      go_wp2_with (at_builtin; refine append_agg_at rfl (.tmp 15) (.tmp 17) 22 9 rfl B _ 1 16 Tryd.underlying22 strings_info rfl (by decide) _ _ _ rfl own4 [.string s] rfl w.heap.size rfl rfl ?_ ?_ ?_ hB ?_)
      · first
          | rfl
          | (intro y hy; simp only [List.mem_cons, List.not_mem_nil, or_false] at hy; subst hy; rfl)
      · omega
      · omega
      intro v' w5 hown' hg' hb' hat
      obtain ⟨A5, k5, rfl⟩ := own_shape hown'
      have HR := Lib.hid (HN.out.add (by decide) hown' hg' hat HS2.out)
      have h5 : One a 22 (.slice A L.length c) w5 := (hg'.block a (Array.getElem?_eq_some_iff.1 HN.out.one).1 (fun e => HN.out.ne (by decide) e.symm)).trans HN.out.one
      have c5 := h5.cell
      have f5 := h5.free
      clear hown' hg' hb' hat own4 h5 c0 f0
      go_wp2_with fail
      exact bodyPost_end (v := .tuple #[]) (by simp [results, Tryd.results28, go_sem]) rfl HR.out
/-- What is asked of the free names of a part that is not so high. -/
def FreeUp (T : List Nd) (tv : Value) (W : World) (a n : Nat) : Prop :=
  ∀ (x : Nd) (ks : Tr.F) (pre post : List Nd) (p : Nat) (bd : List ByteArray) (bv : Value) (w : World) (L : List ByteArray) (v : Value),
    ks.hgt < n → T = pre ++ x :: (ks.flat ++ post) → pre.length = p → (Tr.F.cons x ks .nil).Ok → Below W.heap.size W w → Nms w bv bd → Culp.Apart bv v → bd.length + 2 * ks.hgt ≤ 1000000 → L.length + (x :: ks.flat).length ≤ 1000000 →
    NamesAt 22 9 a W.heap.size L v w →
    Calls Tryd.prog 27 #[tv, .int .i64 p, bv, .func (.func 28) #[] #[.pointer (some ⟨a, 0, none⟩)]] w
      (NamesRes 22 9 a W.heap.size (Tr.addAll L ((Tr.F.cons x ks .nil).vars (fun _ => bd) 0)) v.ownBlock w)
end Go.Proofs.YtdobaililmkkcaaDoor

/- Walks of trees: the free names of a part, kind by kind. -/
namespace Go.Proofs.YtdobaililmkkcaaDoor
set_option linter.unusedSimpArgs false
set_option linter.unusedVariables false
open Go.RowKit Go.Maps Culp

/-- What a part's walk finds when its kids were told. -/
theorem Box.keepN {g a : Nat} {x : Nd} {o : Option Nat} {w w1 : World} (h : Box g x w) (k : KeepN a o w w1) {ts : TypeId} {u v : Value} {n B : Nat} {xs : List Value} (h1 : One a ts u w) (hts : ts ≠ 32) (hv : w.ownsRow B 9 1 v n xs) (ho : v.ownBlock = o) : Box g x w1 := by
  have hlt := h.lt
  refine (k.block g hlt ?_ ?_).trans h
  · rintro rfl
    unfold Box at h
    unfold One at h1
    rw [h] at h1
    simp only [Option.some.injEq, Obj.cells.injEq] at h1
    exact hts h1.2.1.symm
  · subst ho
    exact own_ne hv (fun cur hc => by
      unfold Box at h
      rw [h] at hc
      simp only [Option.some.injEq, Obj.cells.injEq] at hc
      exact absurd hc.2.1 (by decide))
theorem own_keepN {a : Nat} {o : Option Nat} {w w1 : World} (k : KeepN a o w w1) {kv u v : Value} {n m B C : Nat} {xs ys : List Value} (h : w.ownsRow C 3 1 kv m ys) (h1 : One a 22 u w) (hv : w.ownsRow B 9 1 v n xs) (ho : v.ownBlock = o) : w1.ownsRow C 3 1 kv m ys := by
  refine k.own h (own_ne h fun cur hc => ?_) fun g hg he => ?_
  · unfold One at h1
    rw [h1] at hc
    simp only [Option.some.injEq, Obj.cells.injEq] at hc
    exact absurd hc.2.1 (by decide)
  · subst ho
    exact own_apart_type h hv (by decide) g hg he
section
variable (T : List Nd) (tv : Value) (W : World) (a n : Nat) (hN : Nodes W tv T) (hTl : T.length ≤ 1000000)
  (x : Nd) (ks : Tr.F) (pre post : List Nd) (p : Nat) (bd : List ByteArray) (bv : Value) (w : World) (L : List ByteArray) (v : Value)
  (hT : T = pre ++ x :: (ks.flat ++ post)) (hp : pre.length = p) (hO : (Tr.F.cons x ks .nil).Ok) (hB : Below W.heap.size W w) (hS : Nms w bv bd) (hAp : Culp.Apart bv v) (hbd : bd.length + 2 * ks.hgt ≤ 1000000) (hL : L.length + (x :: ks.flat).length ≤ 1000000)
  (hNm : NamesAt 22 9 a W.heap.size L v w)
include hN hTl hT hp hO hB hS hAp hbd hL hNm
set_option maxRecDepth 100000 in
set_option maxHeartbeats 1600000 in
theorem free_v (h4 : x.kind = 4) : Calls Tryd.prog 27 #[tv, .int .i64 p, bv, .func (.func 28) #[] #[.pointer (some ⟨a, 0, none⟩)]] w
      (NamesRes 22 9 a W.heap.size (Tr.addAll L ((Tr.F.cons x ks .nil).vars (fun _ => bd) 0)) v.ownBlock w) := by
  have HVL := Lib.hid (Tr.F.vars_leaf (ks := ks) (bd := bd) h4)
  generalize (Tr.F.cons x ks .nil).vars (fun _ => bd) 0 = vs at *
  have e4 : (x.kind == 4) = true := by rw [h4]; rfl
  clear h4
  rw [List.length_cons] at hL
  have HND : Hid (Nodes w tv T) := Lib.hid (hN.later hB)
  have hx : T[p]? = some x := by rw [hT, ← hp]; simp
  have hpT : p < T.length := (List.getElem?_eq_some_iff.1 hx).1
  have HKD := Lib.hid (fun w' (hb : Below w.heap.size w w') => tKids_any T tv (p : Int) w' (HND.out.later hb) hTl)
  have HKS : Hid (Tr.kidsOf T (p : Int) = ks.places (p + 1)) := Lib.hid (by have := Tr.F.kids_at hT hO; rw [hp] at this; exact this)
  have HNM := Lib.hid hNm
  have HBW := Lib.hid hB
  have HST := Lib.hid hS
  have HAP := Lib.hid hAp
  have HT := Lib.hid hT
  have HO := Lib.hid hO
  have HP := Lib.hid hp
  have HX := Lib.hid hx
  have HWN := Lib.hid hN
  obtain ⟨A, c, rfl, hlc, hNN⟩ := HND.out
  obtain ⟨b, off, rfl, hM⟩ := hNN (by omega)
  obtain ⟨n0, n1, n2, n3, n4, n5, n6, n7⟩ := hM.at_ hx
  have HB : Hid (Below w.heap.size w (w.alloc (.cells #[.int .i8 x.kind, .int .i64 x.kids, .int .i64 x.n, .string x.s, .string x.t, .string x.u, .int .i64 x.line, .int .i64 x.col] 32))) := Lib.hid ((Below.refl _ _).alloc (Nat.le_refl _) _)
  have HBX : Hid (Box w.heap.size x (w.alloc (.cells #[.int .i8 x.kind, .int .i64 x.kids, .int .i64 x.n, .string x.s, .string x.t, .string x.u, .int .i64 x.line, .int .i64 x.col] 32))) := Lib.hid (MapKept.heap_alloc w _).1
  clear hM hNN hS hAp hT hO hp hx hN hB hNm
  go_enter Tryd.func27, Tryd.ntmps27
  go_wp2_with fail
  refine (HKD.out _ HB.out).mono ?_
  rintro e w2 ⟨kv, rfl, hown, hb2⟩
  rw [HKS.out, Tr.F.places_len] at hown
  have HBX2 : Hid (Box w.heap.size x w2) := Lib.hid ((hb2.block _ HBX.out.lt).trans HBX.out)
  have HKW : Hid (w2.ownsRow (w.heap.size + 1) 3 1 kv ks.cnt ((ks.places (p + 1)).map natV)) := Lib.hid (by simpa using hown)
  obtain ⟨Ak, ck, rfl⟩ := own_shape hown
  have HB2 := Lib.hid (below_later hb2 HB.out)
  have HST2 := Lib.hid (HST.out.later HB2.out)
  have HNM2 := Lib.hid (HNM.out.later HB2.out)
  have HBW2 := Lib.hid (below_later HB2.out HBW.out)
  have k0 : w2.cell? ⟨w.heap.size, 0, none⟩ = some (.int .i8 x.kind) := HBX2.out.cell 0
  clear hown hb2 n0 n1 n2 n3 n4 n5 n6 n7 HBX HB HKD
  have k3 : w2.cell? ⟨w.heap.size, 3, none⟩ = some (.string x.s) := HBX2.out.cell 3
  have HADD := Lib.hid (add_any a W.heap.size L v x.s w2 HNM2.out (by omega) HBW2.out.size)
  obtain ⟨Ab, cb, rfl, _, _, hb4⟩ := HST2.out
  have HB4 := Lib.hid hb4
  clear hb4
  go_wp2_with fail
  go_loopw [39] (fun i wr => w2 = wr ∧ ∃ k : Nat, k ≤ bd.length ∧ i = .int .i64 k ∧ Hid (x.s ∉ bd.take k)) (fun i _ => bd.length - (intOf i).toNat)
  case atStart => exact ⟨rfl, 0, Nat.zero_le _, rfl, Lib.hid (by simp)⟩
  case round =>
    obtain ⟨rfl, k, hk, rfl, HS⟩ := hrel
    by_cases hlt : k < bd.length
    · obtain ⟨g, rfl, _, hc⟩ : ∃ g, Ab = some ⟨g, 0, none⟩ ∧ g < w2.heap.size ∧ ∀ (j : Nat) (s : ByteArray), bd[j]? = some s → w2.cell? ⟨g, j, none⟩ = some (.string s) := by
        cases Ab with
        | none =>
          obtain ⟨_, _, e1, _, h3, _⟩ := HST2.out
          simp only [Value.slice.injEq] at e1
          obtain ⟨rfl, _, _⟩ := e1
          have := (h3 rfl).1
          rw [this] at hlt
          simp at hlt
        | some b0 =>
          obtain ⟨g, rfl, h1, h2⟩ := HB4.out b0 rfl
          exact ⟨g, rfl, h1, h2⟩
      have x0 : w2.cell? ⟨g, k, none⟩ = some (.string bd[k]) := hc k _ (List.getElem?_eq_getElem hlt)
      have HTK := Lib.hid (List.take_succ_eq_append_getElem hlt)
      have HM := Lib.hid (List.getElem_mem hlt)
      generalize bd[k] = t at *
      clear hc
      by_cases he : t = x.s
      · have es : (t.toList == x.s.toList) = true := by rw [he]; exact beq_self_eq_true _
        have HR : Hid (NamesRes 22 9 a W.heap.size (Tr.addAll L vs) v.ownBlock w (.returned (.tuple #[])) w2) := Lib.hid (by
          rw [HVL.out, if_pos (by rw [← he]; exact HM.out)]
          exact ⟨rfl, v, HNM2.out, KeepN.of a _ HB2.out, .inl rfl⟩)
        clear he
        go_wp2_with fail
        exact bodyPost_end (v := .tuple #[]) (by simp [results, Tryd.results27, go_sem]) rfl HR.out
      · have es : (t.toList == x.s.toList) = false := beq_eq_false_iff_ne.2 (by rw [toL', toL']; exact fun h => he (str_inj' h))
        have HS2 : Hid (x.s ∉ bd.take (k + 1)) := Lib.hid (by
          rw [HTK.out, List.mem_append, List.mem_singleton]
          rintro (h | h)
          · exact HS.out h
          · exact he h.symm)
        clear he
        go_wp2_with fail
        go_roundw
        case rel => exact ⟨trivial, k + 1, by omega, by go_num, HS2⟩
        case measure => simp [intOf]; omega
    · obtain rfl : k = bd.length := by omega
      have HS2 : Hid (x.s ∉ bd) := Lib.hid (by have := HS.out; rwa [List.take_length] at this)
      clear HS
      go_wp2_with fail
      refine HADD.out.mono ?_
      rintro e w3 hr
      have HR : Hid (NamesRes 22 9 a W.heap.size (Tr.addAll L vs) v.ownBlock w (.returned (.tuple #[])) w3) := Lib.hid (by
        rw [HVL.out, if_neg HS2.out]
        obtain ⟨_, hr⟩ := hr
        exact NamesRes.after (KeepN.of a _ HB2.out) (.inl rfl) ⟨rfl, hr⟩)
      obtain ⟨rfl, _⟩ := hr
      go_wp2_with fail
      exact bodyPost_end (v := .tuple #[]) (by simp [results, Tryd.results27, go_sem]) rfl HR.out
end
end Go.Proofs.YtdobaililmkkcaaDoor

/- Walks of trees: the free names of a part that binds nothing. -/
namespace Go.Proofs.YtdobaililmkkcaaDoor
set_option linter.unusedSimpArgs false
set_option linter.unusedVariables false
open Go.RowKit Go.Maps Culp

theorem NamesAt.base {ts te : TypeId} {a B : Nat} {L : List ByteArray} {v : Value} {w : World} (h : NamesAt ts te a B L v w) : ∀ k, v.ownBlock = some k → B ≤ k := fun k hk => (h.own.lt k hk).1
section
variable (T : List Nd) (tv : Value) (W : World) (a n : Nat) (hN : Nodes W tv T) (hTl : T.length ≤ 1000000) (ha : W.heap.size ≤ a)
  (x : Nd) (ks : Tr.F) (pre post : List Nd) (p : Nat) (bd : List ByteArray) (bv : Value) (w : World) (L : List ByteArray) (v : Value)
  (hT : T = pre ++ x :: (ks.flat ++ post)) (hp : pre.length = p) (hO : (Tr.F.cons x ks .nil).Ok) (hB : Below W.heap.size W w) (hS : Nms w bv bd) (hAp : Culp.Apart bv v) (hbd : bd.length + 2 * ks.hgt ≤ 1000000) (hL : L.length + (x :: ks.flat).length ≤ 1000000)
  (hNm : NamesAt 22 9 a W.heap.size L v w) (hup : FreeUp T tv W a n) (hh : ks.hgt ≤ n)
include hN hTl ha hT hp hO hB hS hAp hbd hL hNm hup hh
set_option maxRecDepth 100000 in
set_option maxHeartbeats 3200000 in
theorem free_p (h4 : x.kind ≠ 4) (h5 : x.kind ≠ 5) (h6 : x.kind ≠ 6) (h8 : x.kind ≠ 8) : Calls Tryd.prog 27 #[tv, .int .i64 p, bv, .func (.func 28) #[] #[.pointer (some ⟨a, 0, none⟩)]] w
      (NamesRes 22 9 a W.heap.size (Tr.addAll L ((Tr.F.cons x ks .nil).vars (fun _ => bd) 0)) v.ownBlock w) := by
  have HVL : Hid ((Tr.F.cons x ks .nil).vars (fun _ => bd) 0 = ks.vars (fun _ => bd) 0) := Lib.hid (by rw [Tr.F.vars_one h4, Tr.F.vars_plain (Tr.binds_plain h5 h6 h8)])
  generalize (Tr.F.cons x ks .nil).vars (fun _ => bd) 0 = vs at *
  have e4 : (x.kind == 4) = false := beq_no h4
  have e5 : (x.kind == 5) = false := beq_no h5
  have e6 : (x.kind == 6) = false := beq_no h6
  have e8 : (x.kind == 8) = false := beq_no h8
  have HUP := Lib.hid hup
  clear h4 h5 h6 h8 hup
  rw [List.length_cons] at hL
  have hcnt := Tr.F.cnt_le ks
  have HND : Hid (Nodes w tv T) := Lib.hid (hN.later hB)
  have hx : T[p]? = some x := by rw [hT, ← hp]; simp
  have hpT : p < T.length := (List.getElem?_eq_some_iff.1 hx).1
  have HKD := Lib.hid (fun w' (hb : Below w.heap.size w w') => tKids_any T tv (p : Int) w' (HND.out.later hb) hTl)
  have HKS : Hid (Tr.kidsOf T (p : Int) = ks.places (p + 1)) := Lib.hid (by have := Tr.F.kids_at hT hO; rw [hp] at this; exact this)
  have HNM := Lib.hid hNm
  have HBW := Lib.hid hB
  have HST := Lib.hid hS
  have HAP := Lib.hid hAp
  have HT := Lib.hid hT
  have HO := Lib.hid hO
  have HP := Lib.hid hp
  have HX := Lib.hid hx
  have HWN := Lib.hid hN
  obtain ⟨A, c, rfl, hlc, hNN⟩ := HND.out
  obtain ⟨b, off, rfl, hM⟩ := hNN (by omega)
  obtain ⟨n0, n1, n2, n3, n4, n5, n6, n7⟩ := hM.at_ hx
  have HB : Hid (Below w.heap.size w (w.alloc (.cells #[.int .i8 x.kind, .int .i64 x.kids, .int .i64 x.n, .string x.s, .string x.t, .string x.u, .int .i64 x.line, .int .i64 x.col] 32))) := Lib.hid ((Below.refl _ _).alloc (Nat.le_refl _) _)
  have HBX : Hid (Box w.heap.size x (w.alloc (.cells #[.int .i8 x.kind, .int .i64 x.kids, .int .i64 x.n, .string x.s, .string x.t, .string x.u, .int .i64 x.line, .int .i64 x.col] 32))) := Lib.hid (MapKept.heap_alloc w _).1
  clear hM hNN hS hAp hT hO hp hx hN hB hNm
  go_enter Tryd.func27, Tryd.ntmps27
  go_wp2_with fail
  refine (HKD.out _ HB.out).mono ?_
  rintro e w2 ⟨kv, rfl, hown, hb2⟩
  rw [HKS.out, Tr.F.places_len] at hown
  have HBX2 : Hid (Box w.heap.size x w2) := Lib.hid ((hb2.block _ HBX.out.lt).trans HBX.out)
  have HKW : Hid (w2.ownsRow (w.heap.size + 1) 3 1 kv ks.cnt ((ks.places (p + 1)).map natV)) := Lib.hid (by simpa using hown)
  obtain ⟨Ak, ck, rfl⟩ := own_shape hown
  have HB2 := Lib.hid (below_later hb2 HB.out)
  have HST2 := Lib.hid (HST.out.later HB2.out)
  have HNM2 := Lib.hid (HNM.out.later HB2.out)
  have HBW2 := Lib.hid (below_later HB2.out HBW.out)
  have k0 : w2.cell? ⟨w.heap.size, 0, none⟩ = some (.int .i8 x.kind) := HBX2.out.cell 0
  clear hown hb2 n0 n1 n2 n3 n4 n5 n6 n7 HBX HB HKD
  go_wp2_with fail
  go_loopw [25] (fun i wr => ∃ (k : Nat) (r : Tr.F) (pr : List Nd) (Lr : List ByteArray) (u : Value), i = .int .i64 k ∧ k + r.cnt = ks.cnt ∧ Lr.length + r.flat.length ≤ 1000000 ∧ Hid (T = pr ++ (r.flat ++ post)) ∧ Hid r.Ok ∧ Hid (r.hgt ≤ ks.hgt) ∧ Hid (∀ j, (r.places pr.length)[j]? = (ks.places (p + 1))[k + j]?) ∧ Hid (Tr.addAll Lr (r.vars (fun _ => bd) k) = Tr.addAll L vs) ∧ Hid (NamesAt 22 9 a W.heap.size Lr u wr) ∧ Hid (Nms wr bv bd) ∧ Hid (Culp.Apart bv u) ∧ Hid (KeepN a v.ownBlock w wr) ∧ Hid (u.ownBlock = v.ownBlock ∨ ∃ b, u.ownBlock = some b ∧ w.heap.size ≤ b) ∧ Hid (wr.ownsRow (w.heap.size + 1) 3 1 (.slice Ak ks.cnt ck) ks.cnt ((ks.places (p + 1)).map natV)) ∧ Hid (Below W.heap.size W wr)) (fun i _ => ks.cnt - (intOf i).toNat)
  case atStart =>
    exact ⟨0, ks, pre ++ [x], L, v, rfl, by omega, by omega, Lib.hid (by rw [HT.out]; simp), Lib.hid HO.out.2.1, Lib.hid (Nat.le_refl _), Lib.hid (fun j => by rw [List.length_append, HP.out, Nat.zero_add]; rfl), Lib.hid (by rw [HVL.out]), HNM2, HST2, HAP, Lib.hid (KeepN.of a _ HB2.out), Lib.hid (.inl rfl), HKW, HBW2⟩
  case round =>
    clear HKW HNM2 HST2 HAP HB2 HBW2 HBX2 HNM HST HBW HX HVL HT k0 hpT HND
    obtain ⟨k, r, pr, Lr, u, rfl, hk, hLr, HT, HOr, HGr, HKP, HV, HNM, HST, HAP, HKN, HU, HKW, HBW⟩ := hrel
    cases r with
    | nil =>
      have hkc : k = ks.cnt := by simp only [Tr.F.cnt] at hk; omega
      have HR : Hid (NamesRes 22 9 a W.heap.size (Tr.addAll L vs) v.ownBlock w (.returned (.tuple #[])) wr) := Lib.hid (by
        have := HV.out
        rw [Tr.F.vars, Tr.addAll_nil] at this
        rw [← this]
        exact ⟨rfl, u, HNM.out, HKN.out, HU.out⟩)
      subst hkc
      clear hk hLr
      go_wp2_with fail
      exact bodyPost_end (v := .tuple #[]) (by simp [results, Tryd.results27, go_sem]) rfl HR.out
    | cons y ky r' =>
      have hkl : k < ks.cnt := by simp only [Tr.F.cnt] at hk; omega
      simp only [Tr.F.flat, List.length_cons, List.length_append] at hLr
      obtain ⟨gk, _, e1, _, _, _, _, hc⟩ := own_read HKW.out (by omega)
      simp only [Value.slice.injEq] at e1
      obtain ⟨rfl, _, rfl⟩ := e1
      have x0 : wr.cell? ⟨gk, k, none⟩ = some (.int .i64 ((pr.length : Nat) : Int)) := hc k _ (by
        have h2 : (ks.places (p + 1))[k]? = some pr.length := (HKP.out 0).symm
        rw [List.getElem?_map, h2]; rfl)
      have hg0 : ky.hgt + 1 ≤ ks.hgt := by have := HGr.out; simp only [Tr.F.hgt] at this; omega
      have HC := Lib.hid (HUP.out y ky pr (r'.flat ++ post) pr.length bd bv wr Lr u (by omega) (by rw [HT.out]; simp [Tr.F.flat]) rfl ⟨HOr.out.1, HOr.out.2.1, trivial⟩ HBW.out HST.out HAP.out (by omega) (by rw [List.length_cons]; omega) HNM.out)
      have hL' := Tr.addAll_len ((Tr.F.cons y ky .nil).vars (fun _ => bd) 0) Lr
      have hvl := Tr.F.vars_len (Tr.F.cons y ky .nil) (fun _ => bd) 0
      simp only [Tr.F.flat, List.append_nil, List.length_cons] at hvl
      have HV' : Hid (Tr.addAll (Tr.addAll Lr ((Tr.F.cons y ky .nil).vars (fun _ => bd) 0)) (r'.vars (fun _ => bd) (k + 1)) = Tr.addAll L vs) := Lib.hid (by
        have := HV.out
        rw [Tr.F.vars_first, Tr.addAll_append] at this
        exact this)
      generalize Tr.addAll Lr ((Tr.F.cons y ky .nil).vars (fun _ => bd) 0) = L' at *
      generalize (Tr.F.cons y ky .nil).vars (fun _ => bd) 0 = vy at *
      have HKP' : Hid (∀ j, (r'.places (pr ++ y :: ky.flat).length)[j]? = (ks.places (p + 1))[k + 1 + j]?) := Lib.hid (fun j => by
        have := HKP.out (j + 1)
        rw [show k + 1 + j = k + (j + 1) by omega, ← this, List.length_append, List.length_cons, show pr.length + (ky.flat.length + 1) = pr.length + 1 + ky.flat.length by omega]
        rfl)
      have HT' : Hid (T = (pr ++ y :: ky.flat) ++ (r'.flat ++ post)) := Lib.hid (by rw [HT.out]; simp [Tr.F.flat])
      have HG' : Hid (r'.hgt ≤ ks.hgt) := Lib.hid (by have := HGr.out; simp only [Tr.F.hgt] at this; omega)
      have HOr' : Hid r'.Ok := Lib.hid HOr.out.2.2
      have hk' : k + 1 + r'.cnt = ks.cnt := by simp only [Tr.F.cnt] at hk; omega
      have hLr' : L'.length + r'.flat.length ≤ 1000000 := by omega
      clear HKP HV HT HGr HOr hk hc hL' hvl hg0
      go_wp2_with fail
      refine HC.out.mono ?_
      rintro e w3 ⟨rfl, u', hNM3, hKN3, hU3⟩
      have HNM3 := Lib.hid hNM3
      have HST3 : Hid (Nms w3 bv bd) := Lib.hid (HST.out.keep hKN3 HNM.out.one (by
        obtain ⟨A9, c9, h9⟩ := own_shape HNM.out.own
        intro s hs
        rw [h9] at hs
        cases hs) HAP.out)
      have HAP3 : Hid (Culp.Apart bv u') := Lib.hid (HST.out.apart HAP.out hU3)
      have HKN3 : Hid (KeepN a v.ownBlock w w3) := Lib.hid (HKN.out.trans hKN3 HU.out)
      have HU3 : Hid (u'.ownBlock = v.ownBlock ∨ ∃ b, u'.ownBlock = some b ∧ w.heap.size ≤ b) := Lib.hid (by
        have := HKN.out.size
        rcases hU3 with e | ⟨b, e, hb⟩
        · rw [e]; exact HU.out
        · exact .inr ⟨b, e, by omega⟩)
      have HKW3 := Lib.hid (own_keepN hKN3 HKW.out HNM.out.one HNM.out.own rfl)
      have HBW3 : Hid (Below W.heap.size W w3) := Lib.hid (hKN3.below HBW.out HBW.out.size ha HNM.out.base)
      clear hNM3 hKN3 hU3 HC HNM HST HAP HKN HU HKW HBW x0
      go_wp2_with fail
      go_roundw
      case rel => exact ⟨k + 1, r', _, L', u', by go_num, hk', hLr', HT', HOr', HG', HKP', HV', HNM3, HST3, HAP3, HKN3, HU3, HKW3, HBW3⟩
      case measure => simp [intOf]; omega
end
end Go.Proofs.YtdobaililmkkcaaDoor

/- Walks of trees: the free names of a function. -/
namespace Culp.Tr.F
set_option linter.unusedSimpArgs false
set_option linter.unusedVariables false
theorem cnt_one {f : F} (h : f.cnt = 1) : ∃ y ky, f = cons y ky nil := by
  cases f with
  | nil => simp [cnt] at h
  | cons y ky r =>
    have : r = nil := cnt_zero (by simp only [cnt] at h; omega)
    subst this
    exact ⟨y, ky, rfl⟩
theorem cnt_two {f : F} (h : f.cnt = 2) : ∃ y ky z kz, f = cons y ky (cons z kz nil) := by
  cases f with
  | nil => simp [cnt] at h
  | cons y ky r =>
    obtain ⟨z, kz, rfl⟩ := cnt_one (f := r) (by simp only [cnt] at h; omega)
    exact ⟨y, ky, z, kz, rfl⟩
end Culp.Tr.F
namespace Go.Proofs.YtdobaililmkkcaaDoor
set_option linter.unusedSimpArgs false
set_option linter.unusedVariables false
open Go.RowKit Go.Maps Culp

theorem fields_cell {w : World} {t : TypeId} {l : List (List UInt8)} {B : Nat} (hB : w.heap.size = B) : ∀ (j : Nat) (s : ByteArray), (l.map (fun l => (⟨l.toArray⟩ : ByteArray)))[j]? = some s → (w.alloc (.cells (l.map fun l => Value.string ⟨l.toArray⟩).toArray t)).cell? ⟨B, j, none⟩ = some (.string s) := by
  intro j s hj
  subst hB
  rw [World.cell?_alloc_at _ _ _ _ rfl]
  rw [List.getElem?_map, Option.map_eq_some_iff] at hj
  obtain ⟨x, hx, rfl⟩ := hj
  simp [hx]
section
variable (T : List Nd) (tv : Value) (W : World) (a n : Nat) (hN : Nodes W tv T) (hTl : T.length ≤ 1000000) (hSp : Sp W)
  (x : Nd) (ks : Tr.F) (pre post : List Nd) (p : Nat) (bd : List ByteArray) (bv : Value) (w : World) (L : List ByteArray) (v : Value)
  (hT : T = pre ++ x :: (ks.flat ++ post)) (hp : pre.length = p) (hO : (Tr.F.cons x ks .nil).Ok) (hB : Below W.heap.size W w) (hS : Nms w bv bd) (hAp : Culp.Apart bv v) (hbd : bd.length + 2 * ks.hgt ≤ 1000000) (hL : L.length + (x :: ks.flat).length ≤ 1000000)
  (hNm : NamesAt 22 9 a W.heap.size L v w) (hup : FreeUp T tv W a n) (hh : ks.hgt ≤ n)
include hN hTl hSp hT hp hO hB hS hAp hbd hL hNm hup hh
set_option maxRecDepth 100000 in
set_option maxHeartbeats 3200000 in
theorem free_f5 (hk : x.kind = 5) (hf : Tr.Fld x) (h1 : ks.cnt = 1) : Calls Tryd.prog 27 #[tv, .int .i64 p, bv, .func (.func 28) #[] #[.pointer (some ⟨a, 0, none⟩)]] w
      (NamesRes 22 9 a W.heap.size (Tr.addAll L ((Tr.F.cons x ks .nil).vars (fun _ => bd) 0)) v.ownBlock w) := by
  obtain ⟨y, ky, he⟩ := Tr.F.cnt_one h1
  have HVL : Hid ((Tr.F.cons x ks .nil).vars (fun _ => bd) 0 = (Tr.F.cons y ky .nil).vars (fun _ => bd ++ Tr.binds x 0) 0) := Lib.hid (by
    rw [Tr.F.vars_one (by omega), he]
    exact Tr.F.vars_congr _ _ _ _ _ fun i hi => by
      simp only [Tr.F.cnt] at hi
      obtain rfl : i = 0 := by omega
      rfl)
  generalize (Tr.F.cons x ks .nil).vars (fun _ => bd) 0 = vs at *
  have e4 : (x.kind == 4) = false := by rw [hk]; rfl
  have e5 : (x.kind == 5) = true := by rw [hk]; rfl
  have e6 : (x.kind == 6) = false := by rw [hk]; rfl
  have HUP := Lib.hid hup
  have HF := Lib.hid hf
  have HSP := Lib.hid (hSp.later hB)
  have hg0 : ky.hgt + 1 ≤ ks.hgt := by rw [he]; simp only [Tr.F.hgt]; omega
  have hL1 : L.length + (ky.flat.length + 1) ≤ 1000000 := by rw [he] at hL; simp only [Tr.F.flat, List.append_nil, List.length_cons] at hL; omega
  have HE := Lib.hid he
  have HCN := Lib.hid h1
  clear hk hf h1 hup hSp he hL
  have HND : Hid (Nodes w tv T) := Lib.hid (hN.later hB)
  have hx : T[p]? = some x := by rw [hT, ← hp]; simp
  have hpT : p < T.length := (List.getElem?_eq_some_iff.1 hx).1
  have HKD := Lib.hid (fun w' (hb : Below w.heap.size w w') => tKids_any T tv (p : Int) w' (HND.out.later hb) hTl)
  have HKS : Hid (Tr.kidsOf T (p : Int) = ks.places (p + 1)) := Lib.hid (by have := Tr.F.kids_at hT hO; rw [hp] at this; exact this)
  have HNM := Lib.hid hNm
  have HBW := Lib.hid hB
  have HST := Lib.hid hS
  have HAP := Lib.hid hAp
  have HT := Lib.hid hT
  have HO := Lib.hid hO
  have HP := Lib.hid hp
  have HX := Lib.hid hx
  have HWN := Lib.hid hN
  obtain ⟨A, c, rfl, hlc, hNN⟩ := HND.out
  obtain ⟨b, off, rfl, hM⟩ := hNN (by omega)
  obtain ⟨n0, n1, n2, n3, n4, n5, n6, n7⟩ := hM.at_ hx
  have HB : Hid (Below w.heap.size w (w.alloc (.cells #[.int .i8 x.kind, .int .i64 x.kids, .int .i64 x.n, .string x.s, .string x.t, .string x.u, .int .i64 x.line, .int .i64 x.col] 32))) := Lib.hid ((Below.refl _ _).alloc (Nat.le_refl _) _)
  have HBX : Hid (Box w.heap.size x (w.alloc (.cells #[.int .i8 x.kind, .int .i64 x.kids, .int .i64 x.n, .string x.s, .string x.t, .string x.u, .int .i64 x.line, .int .i64 x.col] 32))) := Lib.hid (MapKept.heap_alloc w _).1
  clear hM hNN hS hAp hT hO hp hx hN hB hNm
  go_enter Tryd.func27, Tryd.ntmps27
  go_wp2_with fail
  refine (HKD.out _ HB.out).mono ?_
  rintro e w2 ⟨kv, rfl, hown, hb2⟩
  rw [HKS.out, Tr.F.places_len] at hown
  have HBX2 : Hid (Box w.heap.size x w2) := Lib.hid ((hb2.block _ HBX.out.lt).trans HBX.out)
  have HKW : Hid (w2.ownsRow (w.heap.size + 1) 3 1 kv ks.cnt ((ks.places (p + 1)).map natV)) := Lib.hid (by simpa using hown)
  obtain ⟨Ak, ck, rfl⟩ := own_shape hown
  have HB2 := Lib.hid (below_later hb2 HB.out)
  have HST2 := Lib.hid (HST.out.later HB2.out)
  have HNM2 := Lib.hid (HNM.out.later HB2.out)
  have HBW2 := Lib.hid (below_later HB2.out HBW.out)
  have k0 : w2.cell? ⟨w.heap.size, 0, none⟩ = some (.int .i8 x.kind) := HBX2.out.cell 0
  clear hown hb2 n0 n1 n2 n3 n4 n5 n6 n7 HBX HB HKD
  have HKW1 : Hid (w2.ownsRow (w.heap.size + 1) 3 1 (.slice Ak 1 ck) 1 [.int .i64 ((p + 1 : Nat) : Int)]) := Lib.hid (by have := HKW.out; rw [HE.out] at this; exact this)
  rw [HCN.out]
  clear HKW
  obtain ⟨gk, _, e1, q0⟩ := own_single HKW1.out rfl
  simp only [Value.slice.injEq] at e1
  obtain ⟨rfl, _, rfl⟩ := e1
  have k3 : w2.cell? ⟨w.heap.size, 3, none⟩ = some (.string x.s) := HBX2.out.cell 3
  have HSP2 := Lib.hid (HSP.out.later HB2.out)
  obtain ⟨Ab, cb, rfl, hbc, _, _⟩ := HST2.out
  have HC := Lib.hid (fun bv' w' hB' hS' hA' hNm' => HUP.out y ky (pre ++ [x]) post (p + 1) (bd ++ Tr.binds x 0) bv' w' L v (by omega) (by rw [HT.out, HE.out]; simp [Tr.F.flat]) (by rw [List.length_append, HP.out]; rfl) (by have := HO.out.2.1; rw [HE.out] at this; exact ⟨this.1, this.2.1, trivial⟩) hB' hS' hA' (by
    have h5 := HF.out.len
    have h6 := congrArg List.length HF.out.eq
    rw [List.length_map] at h6
    rw [List.length_append]; omega) (by rw [List.length_cons]; omega) hNm')
  clear HUP HT HO HP HBW HNM HST HX HND HSP hpT
  go_wp2_with fail
  refine wp_region_plan (S := fun w' => w'.cell? ⟨gk, 0, none⟩ = some (.int .i64 ((p + 1 : Nat) : Int)) ∧ w'.cell? ⟨w.heap.size, 3, none⟩ = some (.string x.s))
    [(0, true), (1, true), (2, true), (3, true), (4, true), (5, true), (6, true), (7, true), (8, true), (9, true), (10, true), (11, true), (14, true), (12, false), (13, false), (15, false)] (by kernel_rfl) (by kernel_rfl) (by kernel_rfl) (fun _ _ _ _ _ h => h) ⟨q0, k3⟩ ?_
  intro HS
  repeat (first | (apply wpPlan_look; rfl; rfl; (intro wq hq; (try dsimp only at hq); go_split_ands; go_simp; (try rw [if_neg (by omega)]); (try rw [if_pos (by omega)]); try with_reducible rfl); simp only [Act.put, List.setIfInBounds_toArray, List.set_cons_zero, List.set_cons_succ]) | (apply wpPlan_skip; rfl; rfl; simp only [Act.put, List.setIfInBounds_toArray, List.set_cons_zero, List.set_cons_succ]) | (apply wpPlan_pass; rfl; rfl; assumption; simp only [Act.put, List.setIfInBounds_toArray, List.set_cons_zero, List.set_cons_succ]))
  apply wpPlan_call; rfl; rfl; rfl; rfl; kernel_rfl; exact Tryd.strings_Fields x.s _ (by have := HF.out.size; omega) HF.out.ascii HSP2.out; rfl; rintro e w' ⟨rfl, rfl⟩
  have hb4 : Below w2.heap.size w2 (w2.drew.alloc (.cells ((Lib.fields x.s.data.toList).map fun l => Value.string ⟨l.toArray⟩).toArray 9)) := (Below.refl _ _).drew.alloc (Nat.le_refl _) _
  have q4 := cell_later hb4 q0
  have r4 := cell_later hb4 k3
  refine ⟨_, rfl, as_S ⟨q4, r4⟩ ?_⟩
  intro _
  simp only [Act.put, List.setIfInBounds_toArray, List.set_cons_zero, List.set_cons_succ]
  have hfl := HF.out.len
  obtain ⟨v5, w5, hrun, hown5, hg5⟩ := run_append_strs (P := Tryd.prog) (t := 22) (ty := 22) (e := 9) Tryd.underlying22 strings_info rfl (HST2.out.later hb4) w2.heap.size (Lib.fields x.s.data.toList).length (Lib.fields x.s.data.toList).length ((Lib.fields x.s.data.toList).map (fun l => (⟨l.toArray⟩ : ByteArray))) (by rw [List.length_map]) hfl.1 (fields_cell rfl) (by omega) (by omega)
  rw [HF.out.eq] at hown5
  have hb5 : Below w2.heap.size w2 w5 := hb4.grown hg5 hb4.size fun k hk => by cases hk
  have q5 := cell_later hb5 q0
  have r5 := cell_later hb5 k3
  refine wpPlan_run rfl rfl (exec_append rfl rfl rfl rfl hrun) _ (fun _ h => h) ⟨q5, r5⟩ ?_
  simp only [Act.put, List.setIfInBounds_toArray, List.set_cons_zero, List.set_cons_succ]
  have HNM5 := Lib.hid (HNM2.out.later hb5)
  have HBW5 := Lib.hid (below_later hb5 HBW2.out)
  have hAp5 : Culp.Apart v5 v := apart_base hown5 fun g hg => by
    have := (HNM2.out.own.lt g hg).2
    have := hb4.size
    omega
  have HC5 := Lib.hid (HC.out v5 w5 HBW5.out (Nms.own hown5) hAp5 HNM5.out)
  have HKW5 := Lib.hid (own_later HKW1.out hb5)
  have HBX5 : Hid (Box w.heap.size x w5) := Lib.hid ((hb5.block _ HBX2.out.lt).trans HBX2.out)
  have HB5 := Lib.hid (below_later hb5 HB2.out)
  obtain ⟨A5, c5, rfl⟩ := own_shape hown5
  clear hb4 hb5 hown5 hg5 hrun hAp5 q4 r4 HC hfl
  apply wpPlan_call; rfl; rfl; rfl; rfl; kernel_rfl; exact HC5.out; rfl; rintro e w6 ⟨rfl, v6, hNM6, hKN6, hV6⟩
  have q6 := (own_get (own_keepN hKN6 HKW5.out HNM5.out.one HNM5.out.own rfl) (i := 0) rfl).1
  have r6 := (HBX5.out.keepN hKN6 HNM5.out.one (by decide) HNM5.out.own rfl).cell 3
  refine ⟨_, rfl, as_S ⟨q6, r6⟩ ?_⟩
  intro _
  have HR : Hid (NamesRes 22 9 a W.heap.size (Tr.addAll L vs) v.ownBlock w (.returned (.tuple #[])) w6) := Lib.hid (by
    rw [HVL.out]
    exact NamesRes.after (KeepN.of a _ HB5.out) (.inl rfl) ⟨rfl, v6, hNM6, hKN6, hV6⟩)
  clear hNM6 hKN6 hV6 q6 r6 HC5 HNM5 HKW5 HBX5 HB5
  simp only [Act.put, List.setIfInBounds_toArray, List.set_cons_zero, List.set_cons_succ]
  apply wpPlan_done
  go_wp2_with fail
  exact bodyPost_end (v := .tuple #[]) (by simp [results, Tryd.results27, go_sem]) rfl HR.out
set_option maxRecDepth 100000 in
set_option maxHeartbeats 3200000 in
theorem free_f6 (hk : x.kind = 6) (hf : Tr.Fld x) (h1 : ks.cnt = 1) : Calls Tryd.prog 27 #[tv, .int .i64 p, bv, .func (.func 28) #[] #[.pointer (some ⟨a, 0, none⟩)]] w
      (NamesRes 22 9 a W.heap.size (Tr.addAll L ((Tr.F.cons x ks .nil).vars (fun _ => bd) 0)) v.ownBlock w) := by
  obtain ⟨y, ky, he⟩ := Tr.F.cnt_one h1
  have HVL : Hid ((Tr.F.cons x ks .nil).vars (fun _ => bd) 0 = (Tr.F.cons y ky .nil).vars (fun _ => bd ++ Tr.binds x 0) 0) := Lib.hid (by
    rw [Tr.F.vars_one (by omega), he]
    exact Tr.F.vars_congr _ _ _ _ _ fun i hi => by
      simp only [Tr.F.cnt] at hi
      obtain rfl : i = 0 := by omega
      rfl)
  generalize (Tr.F.cons x ks .nil).vars (fun _ => bd) 0 = vs at *
  have e4 : (x.kind == 4) = false := by rw [hk]; rfl
  have e5 : (x.kind == 5) = false := by rw [hk]; rfl
  have e6 : (x.kind == 6) = true := by rw [hk]; rfl
  have HUP := Lib.hid hup
  have HF := Lib.hid hf
  have HSP := Lib.hid (hSp.later hB)
  have hg0 : ky.hgt + 1 ≤ ks.hgt := by rw [he]; simp only [Tr.F.hgt]; omega
  have hL1 : L.length + (ky.flat.length + 1) ≤ 1000000 := by rw [he] at hL; simp only [Tr.F.flat, List.append_nil, List.length_cons] at hL; omega
  have HE := Lib.hid he
  have HCN := Lib.hid h1
  clear hk hf h1 hup hSp he hL
  have HND : Hid (Nodes w tv T) := Lib.hid (hN.later hB)
  have hx : T[p]? = some x := by rw [hT, ← hp]; simp
  have hpT : p < T.length := (List.getElem?_eq_some_iff.1 hx).1
  have HKD := Lib.hid (fun w' (hb : Below w.heap.size w w') => tKids_any T tv (p : Int) w' (HND.out.later hb) hTl)
  have HKS : Hid (Tr.kidsOf T (p : Int) = ks.places (p + 1)) := Lib.hid (by have := Tr.F.kids_at hT hO; rw [hp] at this; exact this)
  have HNM := Lib.hid hNm
  have HBW := Lib.hid hB
  have HST := Lib.hid hS
  have HAP := Lib.hid hAp
  have HT := Lib.hid hT
  have HO := Lib.hid hO
  have HP := Lib.hid hp
  have HX := Lib.hid hx
  have HWN := Lib.hid hN
  obtain ⟨A, c, rfl, hlc, hNN⟩ := HND.out
  obtain ⟨b, off, rfl, hM⟩ := hNN (by omega)
  obtain ⟨n0, n1, n2, n3, n4, n5, n6, n7⟩ := hM.at_ hx
  have HB : Hid (Below w.heap.size w (w.alloc (.cells #[.int .i8 x.kind, .int .i64 x.kids, .int .i64 x.n, .string x.s, .string x.t, .string x.u, .int .i64 x.line, .int .i64 x.col] 32))) := Lib.hid ((Below.refl _ _).alloc (Nat.le_refl _) _)
  have HBX : Hid (Box w.heap.size x (w.alloc (.cells #[.int .i8 x.kind, .int .i64 x.kids, .int .i64 x.n, .string x.s, .string x.t, .string x.u, .int .i64 x.line, .int .i64 x.col] 32))) := Lib.hid (MapKept.heap_alloc w _).1
  clear hM hNN hS hAp hT hO hp hx hN hB hNm
  go_enter Tryd.func27, Tryd.ntmps27
  go_wp2_with fail
  refine (HKD.out _ HB.out).mono ?_
  rintro e w2 ⟨kv, rfl, hown, hb2⟩
  rw [HKS.out, Tr.F.places_len] at hown
  have HBX2 : Hid (Box w.heap.size x w2) := Lib.hid ((hb2.block _ HBX.out.lt).trans HBX.out)
  have HKW : Hid (w2.ownsRow (w.heap.size + 1) 3 1 kv ks.cnt ((ks.places (p + 1)).map natV)) := Lib.hid (by simpa using hown)
  obtain ⟨Ak, ck, rfl⟩ := own_shape hown
  have HB2 := Lib.hid (below_later hb2 HB.out)
  have HST2 := Lib.hid (HST.out.later HB2.out)
  have HNM2 := Lib.hid (HNM.out.later HB2.out)
  have HBW2 := Lib.hid (below_later HB2.out HBW.out)
  have k0 : w2.cell? ⟨w.heap.size, 0, none⟩ = some (.int .i8 x.kind) := HBX2.out.cell 0
  clear hown hb2 n0 n1 n2 n3 n4 n5 n6 n7 HBX HB HKD
  have HKW1 : Hid (w2.ownsRow (w.heap.size + 1) 3 1 (.slice Ak 1 ck) 1 [.int .i64 ((p + 1 : Nat) : Int)]) := Lib.hid (by have := HKW.out; rw [HE.out] at this; exact this)
  rw [HCN.out]
  clear HKW
  obtain ⟨gk, _, e1, q0⟩ := own_single HKW1.out rfl
  simp only [Value.slice.injEq] at e1
  obtain ⟨rfl, _, rfl⟩ := e1
  have k3 : w2.cell? ⟨w.heap.size, 3, none⟩ = some (.string x.s) := HBX2.out.cell 3
  have HSP2 := Lib.hid (HSP.out.later HB2.out)
  obtain ⟨Ab, cb, rfl, hbc, _, _⟩ := HST2.out
  have HC := Lib.hid (fun bv' w' hB' hS' hA' hNm' => HUP.out y ky (pre ++ [x]) post (p + 1) (bd ++ Tr.binds x 0) bv' w' L v (by omega) (by rw [HT.out, HE.out]; simp [Tr.F.flat]) (by rw [List.length_append, HP.out]; rfl) (by have := HO.out.2.1; rw [HE.out] at this; exact ⟨this.1, this.2.1, trivial⟩) hB' hS' hA' (by
    have h5 := HF.out.len
    have h6 := congrArg List.length HF.out.eq
    rw [List.length_map] at h6
    rw [List.length_append]; omega) (by rw [List.length_cons]; omega) hNm')
  clear HUP HT HO HP HBW HNM HST HX HND HSP hpT
  go_wp2_with fail
  refine wp_region_plan (S := fun w' => w'.cell? ⟨gk, 0, none⟩ = some (.int .i64 ((p + 1 : Nat) : Int)) ∧ w'.cell? ⟨w.heap.size, 3, none⟩ = some (.string x.s))
    [(0, true), (1, true), (2, true), (3, true), (4, true), (5, true), (6, true), (7, true), (8, true), (9, true), (10, true), (11, true), (14, true), (12, false), (13, false), (15, false)] (by kernel_rfl) (by kernel_rfl) (by kernel_rfl) (fun _ _ _ _ _ h => h) ⟨q0, k3⟩ ?_
  intro HS
  repeat (first | (apply wpPlan_look; rfl; rfl; (intro wq hq; (try dsimp only at hq); go_split_ands; go_simp; (try rw [if_neg (by omega)]); (try rw [if_pos (by omega)]); try with_reducible rfl); simp only [Act.put, List.setIfInBounds_toArray, List.set_cons_zero, List.set_cons_succ]) | (apply wpPlan_skip; rfl; rfl; simp only [Act.put, List.setIfInBounds_toArray, List.set_cons_zero, List.set_cons_succ]) | (apply wpPlan_pass; rfl; rfl; assumption; simp only [Act.put, List.setIfInBounds_toArray, List.set_cons_zero, List.set_cons_succ]))
  apply wpPlan_call; rfl; rfl; rfl; rfl; kernel_rfl; exact Tryd.strings_Fields x.s _ (by have := HF.out.size; omega) HF.out.ascii HSP2.out; rfl; rintro e w' ⟨rfl, rfl⟩
  have hb4 : Below w2.heap.size w2 (w2.drew.alloc (.cells ((Lib.fields x.s.data.toList).map fun l => Value.string ⟨l.toArray⟩).toArray 9)) := (Below.refl _ _).drew.alloc (Nat.le_refl _) _
  have q4 := cell_later hb4 q0
  have r4 := cell_later hb4 k3
  refine ⟨_, rfl, as_S ⟨q4, r4⟩ ?_⟩
  intro _
  simp only [Act.put, List.setIfInBounds_toArray, List.set_cons_zero, List.set_cons_succ]
  have hfl := HF.out.len
  obtain ⟨v5, w5, hrun, hown5, hg5⟩ := run_append_strs (P := Tryd.prog) (t := 22) (ty := 22) (e := 9) Tryd.underlying22 strings_info rfl (HST2.out.later hb4) w2.heap.size (Lib.fields x.s.data.toList).length (Lib.fields x.s.data.toList).length ((Lib.fields x.s.data.toList).map (fun l => (⟨l.toArray⟩ : ByteArray))) (by rw [List.length_map]) hfl.1 (fields_cell rfl) (by omega) (by omega)
  rw [HF.out.eq] at hown5
  have hb5 : Below w2.heap.size w2 w5 := hb4.grown hg5 hb4.size fun k hk => by cases hk
  have q5 := cell_later hb5 q0
  have r5 := cell_later hb5 k3
  refine wpPlan_run rfl rfl (exec_append rfl rfl rfl rfl hrun) _ (fun _ h => h) ⟨q5, r5⟩ ?_
  simp only [Act.put, List.setIfInBounds_toArray, List.set_cons_zero, List.set_cons_succ]
  have HNM5 := Lib.hid (HNM2.out.later hb5)
  have HBW5 := Lib.hid (below_later hb5 HBW2.out)
  have hAp5 : Culp.Apart v5 v := apart_base hown5 fun g hg => by
    have := (HNM2.out.own.lt g hg).2
    have := hb4.size
    omega
  have HC5 := Lib.hid (HC.out v5 w5 HBW5.out (Nms.own hown5) hAp5 HNM5.out)
  have HKW5 := Lib.hid (own_later HKW1.out hb5)
  have HBX5 : Hid (Box w.heap.size x w5) := Lib.hid ((hb5.block _ HBX2.out.lt).trans HBX2.out)
  have HB5 := Lib.hid (below_later hb5 HB2.out)
  obtain ⟨A5, c5, rfl⟩ := own_shape hown5
  clear hb4 hb5 hown5 hg5 hrun hAp5 q4 r4 HC hfl
  apply wpPlan_call; rfl; rfl; rfl; rfl; kernel_rfl; exact HC5.out; rfl; rintro e w6 ⟨rfl, v6, hNM6, hKN6, hV6⟩
  have q6 := (own_get (own_keepN hKN6 HKW5.out HNM5.out.one HNM5.out.own rfl) (i := 0) rfl).1
  have r6 := (HBX5.out.keepN hKN6 HNM5.out.one (by decide) HNM5.out.own rfl).cell 3
  refine ⟨_, rfl, as_S ⟨q6, r6⟩ ?_⟩
  intro _
  have HR : Hid (NamesRes 22 9 a W.heap.size (Tr.addAll L vs) v.ownBlock w (.returned (.tuple #[])) w6) := Lib.hid (by
    rw [HVL.out]
    exact NamesRes.after (KeepN.of a _ HB5.out) (.inl rfl) ⟨rfl, v6, hNM6, hKN6, hV6⟩)
  clear hNM6 hKN6 hV6 q6 r6 HC5 HNM5 HKW5 HBX5 HB5
  simp only [Act.put, List.setIfInBounds_toArray, List.set_cons_zero, List.set_cons_succ]
  apply wpPlan_done
  go_wp2_with fail
  exact bodyPost_end (v := .tuple #[]) (by simp [results, Tryd.results27, go_sem]) rfl HR.out
end
end Go.Proofs.YtdobaililmkkcaaDoor

/- Walks of trees: the free names of a let; of any part; of a tree. -/
namespace Go.Proofs.YtdobaililmkkcaaDoor
set_option linter.unusedSimpArgs false
set_option linter.unusedVariables false
open Go.RowKit Go.Maps Culp

theorem build_s (w : World) (s : ByteArray) : (Instr.buildSlice 22 1 #[(0, .string s)]).run Tryd.prog w = .ok (.slice (some ⟨w.heap.size, 0, none⟩) 1 1) (w.alloc (.cells #[.string s] 9)) := by
  simp [go_sem, Instr.buildSlice, run_underlying Tryd.underlying22]
theorem one_cell {w : World} {B : Nat} {t : TypeId} {v : Value} (hB : w.heap.size = B) : (w.alloc (.cells #[v] t)).cell? ⟨B, 0, none⟩ = some v := by
  subst hB
  rw [World.cell?_alloc_at _ _ _ _ rfl]
  rfl
section
variable (T : List Nd) (tv : Value) (W : World) (a n : Nat) (hN : Nodes W tv T) (hTl : T.length ≤ 1000000) (ha : W.heap.size ≤ a)
  (x : Nd) (ks : Tr.F) (pre post : List Nd) (p : Nat) (bd : List ByteArray) (bv : Value) (w : World) (L : List ByteArray) (v : Value)
  (hT : T = pre ++ x :: (ks.flat ++ post)) (hp : pre.length = p) (hO : (Tr.F.cons x ks .nil).Ok) (hB : Below W.heap.size W w) (hS : Nms w bv bd) (hAp : Culp.Apart bv v) (hbd : bd.length + 2 * ks.hgt ≤ 1000000) (hL : L.length + (x :: ks.flat).length ≤ 1000000)
  (hNm : NamesAt 22 9 a W.heap.size L v w) (hup : FreeUp T tv W a n) (hh : ks.hgt ≤ n)
include hN hTl ha hT hp hO hB hS hAp hbd hL hNm hup hh
set_option maxRecDepth 100000 in
set_option maxHeartbeats 3200000 in
theorem free_let (hk : x.kind = 8) (h1 : ks.cnt = 2) : Calls Tryd.prog 27 #[tv, .int .i64 p, bv, .func (.func 28) #[] #[.pointer (some ⟨a, 0, none⟩)]] w
      (NamesRes 22 9 a W.heap.size (Tr.addAll L ((Tr.F.cons x ks .nil).vars (fun _ => bd) 0)) v.ownBlock w) := by
  obtain ⟨y, ky, z, kz, he⟩ := Tr.F.cnt_two h1
  have HVL : Hid (Tr.addAll L ((Tr.F.cons x ks .nil).vars (fun _ => bd) 0) = Tr.addAll (Tr.addAll L ((Tr.F.cons y ky .nil).vars (fun _ => bd) 0)) ((Tr.F.cons z kz .nil).vars (fun _ => bd ++ [x.s]) 0)) := Lib.hid (by
    rw [Tr.F.vars_one (by omega), he, Tr.F.vars_first, Tr.addAll_append, Tr.binds_let0 hk, List.append_nil]
    congr 1
    exact Tr.F.vars_congr _ _ _ _ _ fun i hi => by
      simp only [Tr.F.cnt] at hi
      obtain rfl : i = 0 := by omega
      rw [show 0 + 1 + 0 = 1 from rfl, Tr.binds_let1 hk])
  have hL1 : L.length + (ky.flat.length + kz.flat.length + 3) ≤ 1000000 := by rw [he] at hL; simp only [Tr.F.flat, List.append_nil, List.length_cons, List.length_append] at hL; omega
  have hLe := Tr.addAll_len ((Tr.F.cons y ky .nil).vars (fun _ => bd) 0) L
  have hvl := Tr.F.vars_len (Tr.F.cons y ky .nil) (fun _ => bd) 0
  simp only [Tr.F.flat, List.append_nil, List.length_cons] at hvl
  generalize Tr.addAll L ((Tr.F.cons x ks .nil).vars (fun _ => bd) 0) = LL at *
  have e4 : (x.kind == 4) = false := by rw [hk]; rfl
  have e5 : (x.kind == 5) = false := by rw [hk]; rfl
  have e6 : (x.kind == 6) = false := by rw [hk]; rfl
  have e8 : (x.kind == 8) = true := by rw [hk]; rfl
  have HUP := Lib.hid hup
  have hg0 : ky.hgt + 1 ≤ ks.hgt := by rw [he]; simp only [Tr.F.hgt]; omega
  have hg1 : kz.hgt + 1 ≤ ks.hgt := by rw [he]; simp only [Tr.F.hgt]; omega
  have HE := Lib.hid he
  have HCN := Lib.hid h1
  clear hk h1 hup he hL
  have HND : Hid (Nodes w tv T) := Lib.hid (hN.later hB)
  have hx : T[p]? = some x := by rw [hT, ← hp]; simp
  have hpT : p < T.length := (List.getElem?_eq_some_iff.1 hx).1
  have HKD := Lib.hid (fun w' (hb : Below w.heap.size w w') => tKids_any T tv (p : Int) w' (HND.out.later hb) hTl)
  have HKS : Hid (Tr.kidsOf T (p : Int) = ks.places (p + 1)) := Lib.hid (by have := Tr.F.kids_at hT hO; rw [hp] at this; exact this)
  have HNM := Lib.hid hNm
  have HBW := Lib.hid hB
  have HST := Lib.hid hS
  have HAP := Lib.hid hAp
  have HT := Lib.hid hT
  have HO := Lib.hid hO
  have HP := Lib.hid hp
  have HX := Lib.hid hx
  have HWN := Lib.hid hN
  obtain ⟨A, c, rfl, hlc, hNN⟩ := HND.out
  obtain ⟨b, off, rfl, hM⟩ := hNN (by omega)
  obtain ⟨n0, n1, n2, n3, n4, n5, n6, n7⟩ := hM.at_ hx
  have HB : Hid (Below w.heap.size w (w.alloc (.cells #[.int .i8 x.kind, .int .i64 x.kids, .int .i64 x.n, .string x.s, .string x.t, .string x.u, .int .i64 x.line, .int .i64 x.col] 32))) := Lib.hid ((Below.refl _ _).alloc (Nat.le_refl _) _)
  have HBX : Hid (Box w.heap.size x (w.alloc (.cells #[.int .i8 x.kind, .int .i64 x.kids, .int .i64 x.n, .string x.s, .string x.t, .string x.u, .int .i64 x.line, .int .i64 x.col] 32))) := Lib.hid (MapKept.heap_alloc w _).1
  clear hM hNN hS hAp hT hO hp hx hN hB hNm
  go_enter Tryd.func27, Tryd.ntmps27
  go_wp2_with fail
  refine (HKD.out _ HB.out).mono ?_
  rintro e w2 ⟨kv, rfl, hown, hb2⟩
  rw [HKS.out, Tr.F.places_len] at hown
  have HBX2 : Hid (Box w.heap.size x w2) := Lib.hid ((hb2.block _ HBX.out.lt).trans HBX.out)
  have HKW : Hid (w2.ownsRow (w.heap.size + 1) 3 1 kv ks.cnt ((ks.places (p + 1)).map natV)) := Lib.hid (by simpa using hown)
  obtain ⟨Ak, ck, rfl⟩ := own_shape hown
  have HB2 := Lib.hid (below_later hb2 HB.out)
  have HST2 := Lib.hid (HST.out.later HB2.out)
  have HNM2 := Lib.hid (HNM.out.later HB2.out)
  have HBW2 := Lib.hid (below_later HB2.out HBW.out)
  have k0 : w2.cell? ⟨w.heap.size, 0, none⟩ = some (.int .i8 x.kind) := HBX2.out.cell 0
  clear hown hb2 n0 n1 n2 n3 n4 n5 n6 n7 HBX HB HKD
  have HKW1 : Hid (w2.ownsRow (w.heap.size + 1) 3 1 (.slice Ak 2 ck) 2 [.int .i64 ((p + 1 : Nat) : Int), .int .i64 ((p + 1 + 1 + ky.flat.length : Nat) : Int)]) := Lib.hid (by have := HKW.out; rw [HE.out] at this; exact this)
  rw [HCN.out]
  clear HKW
  obtain ⟨gk, _, e1, q0, q1⟩ := own_two HKW1.out rfl
  simp only [Value.slice.injEq] at e1
  obtain ⟨rfl, _, rfl⟩ := e1
  have k3 : w2.cell? ⟨w.heap.size, 3, none⟩ = some (.string x.s) := HBX2.out.cell 3
  have HC := Lib.hid (HUP.out y ky (pre ++ [x]) (z :: (kz.flat ++ post)) (p + 1) bd bv w2 L v (by omega) (by rw [HT.out, HE.out]; simp [Tr.F.flat]) (by rw [List.length_append, HP.out]; rfl) (by have := HO.out.2.1; rw [HE.out] at this; exact ⟨this.1, this.2.1, trivial⟩) HBW2.out HST2.out HAP.out (by omega) (by rw [List.length_cons]; omega) HNM2.out)
  generalize Tr.addAll L ((Tr.F.cons y ky .nil).vars (fun _ => bd) 0) = L1 at *
  have HD := Lib.hid (fun bv' w' v' hB' hS' hA' hNm' => HUP.out z kz (pre ++ x :: y :: ky.flat) post (p + 1 + 1 + ky.flat.length) (bd ++ [x.s]) bv' w' L1 v' (by omega) (by rw [HT.out, HE.out]; simp [Tr.F.flat]) (by rw [List.length_append, List.length_cons, List.length_cons, HP.out]; omega) (by have := HO.out.2.1; rw [HE.out] at this; exact ⟨this.2.2.1, this.2.2.2.1, trivial⟩) hB' hS' hA' (by rw [List.length_append, List.length_singleton]; omega) (by rw [List.length_cons]; omega) hNm')
  clear HUP HT HO HP HBW HNM HST HX HND hpT hvl hLe
  obtain ⟨Ab, cb, rfl, hbc, _, _⟩ := HST2.out
  go_wp2_with fail
  refine HC.out.mono ?_
  rintro e w3 ⟨rfl, v1, hNM3, hKN3, hU3⟩
  have HNM3 := Lib.hid hNM3
  have HST3 : Hid (Nms w3 (.slice Ab bd.length cb) bd) := Lib.hid (HST2.out.keep hKN3 HNM2.out.one (by
    obtain ⟨A9, c9, h9⟩ := own_shape HNM2.out.own
    intro s hs
    rw [h9] at hs
    cases hs) HAP.out)
  have HKN3 : Hid (KeepN a v.ownBlock w w3) := Lib.hid ((KeepN.of a _ HB2.out).trans hKN3 (.inl rfl))
  have HU3 : Hid (v1.ownBlock = v.ownBlock ∨ ∃ b, v1.ownBlock = some b ∧ w.heap.size ≤ b) := Lib.hid (by
    have := HB2.out.size
    rcases hU3 with e | ⟨b, e, hb⟩
    · exact .inl e
    · exact .inr ⟨b, e, by omega⟩)
  have HKW3 := Lib.hid (own_keepN hKN3 HKW1.out HNM2.out.one HNM2.out.own rfl)
  have HBX3 : Hid (Box w.heap.size x w3) := Lib.hid (HBX2.out.keepN hKN3 HNM2.out.one (by decide) HNM2.out.own rfl)
  have HBW3 : Hid (Below W.heap.size W w3) := Lib.hid (hKN3.below HBW2.out HBW2.out.size ha HNM2.out.base)
  have q1 := (own_get HKW3.out (i := 1) rfl).1
  have k3 := HBX3.out.cell 3
  have k0 := HBX3.out.cell 0
  clear hNM3 hKN3 hU3 HC HNM2 HST2 HAP HB2 HKW1 HBW2 HBX2 q0
  go_wp2_with fail
  refine wp_region_plan (S := fun w' => w'.cell? ⟨gk, 1, none⟩ = some (.int .i64 ((p + 1 + 1 + ky.flat.length : Nat) : Int)) ∧ w'.cell? ⟨w.heap.size, 3, none⟩ = some (.string x.s))
    [(0, true), (1, true), (2, true), (3, true), (4, true), (5, true), (6, true), (7, true), (8, true), (9, true), (10, true), (11, true), (14, true), (12, false), (13, false), (15, false)] (by kernel_rfl) (by kernel_rfl) (by kernel_rfl) (fun _ _ _ _ _ h => h) ⟨q1, k3⟩ ?_
  intro HS
  repeat (first | (apply wpPlan_look; rfl; rfl; (intro wq hq; (try dsimp only at hq); go_split_ands; go_simp; (try rw [if_neg (by omega)]); (try rw [if_pos (by omega)]); try with_reducible rfl); simp only [Act.put, List.setIfInBounds_toArray, List.set_cons_zero, List.set_cons_succ]) | (apply wpPlan_skip; rfl; rfl; simp only [Act.put, List.setIfInBounds_toArray, List.set_cons_zero, List.set_cons_succ]) | (apply wpPlan_pass; rfl; rfl; assumption; simp only [Act.put, List.setIfInBounds_toArray, List.set_cons_zero, List.set_cons_succ]))
  have hb4 : Below w3.heap.size w3 (w3.drew.alloc (.cells #[Value.string x.s] 9)) := (Below.refl _ _).drew.alloc (Nat.le_refl _) _
  have q4 := cell_later hb4 q1
  have r4 := cell_later hb4 k3
  refine wpPlan_run rfl rfl (by simp [execOp, go_sem, build_s]; (first | exact ⟨rfl, rfl⟩ | rfl)) _ (fun _ h => h) ⟨q4, r4⟩ ?_
  simp only [Act.put, List.setIfInBounds_toArray, List.set_cons_zero, List.set_cons_succ]
  obtain ⟨v5, w5, hrun, hown5, hg5⟩ := run_append_strs (P := Tryd.prog) (t := 22) (ty := 22) (e := 9) Tryd.underlying22 strings_info rfl (HST3.out.later hb4) w3.heap.size 1 1 [x.s] rfl (by decide) (fun j s hj => by
    match j, hj with
    | 0, hj => simp at hj; subst hj; exact one_cell rfl
    | j + 1, hj => simp at hj) (by omega) (by omega)
  have hb5 : Below w3.heap.size w3 w5 := hb4.grown hg5 hb4.size fun k hk => by cases hk
  have q5 := cell_later hb5 q1
  have r5 := cell_later hb5 k3
  refine wpPlan_run rfl rfl (exec_append rfl rfl rfl rfl hrun) _ (fun _ h => h) ⟨q5, r5⟩ ?_
  simp only [Act.put, List.setIfInBounds_toArray, List.set_cons_zero, List.set_cons_succ]
  have HNM5 := Lib.hid (HNM3.out.later hb5)
  have HBW5 := Lib.hid (below_later hb5 HBW3.out)
  have hAp5 : Culp.Apart v5 v1 := apart_base hown5 fun g hg => by
    have := (HNM3.out.own.lt g hg).2
    have := hb4.size
    omega
  have HC5 := Lib.hid (HD.out v5 w5 v1 HBW5.out (Nms.own hown5) hAp5 HNM5.out)
  have HKW5 := Lib.hid (own_later HKW3.out hb5)
  have HBX5 : Hid (Box w.heap.size x w5) := Lib.hid ((hb5.block _ HBX3.out.lt).trans HBX3.out)
  have HKN5 : Hid (KeepN a v.ownBlock w w5) := Lib.hid (HKN3.out.trans (KeepN.of a _ hb5) HU3.out)
  obtain ⟨A5, c5, rfl⟩ := own_shape hown5
  clear hb4 hb5 hown5 hg5 hrun hAp5 q4 r4 HD
  apply wpPlan_call; rfl; rfl; rfl; rfl; kernel_rfl; exact HC5.out; rfl; rintro e w6 ⟨rfl, v6, hNM6, hKN6, hV6⟩
  have q6 := (own_get (own_keepN hKN6 HKW5.out HNM5.out.one HNM5.out.own rfl) (i := 1) rfl).1
  have r6 := (HBX5.out.keepN hKN6 HNM5.out.one (by decide) HNM5.out.own rfl).cell 3
  refine ⟨_, rfl, as_S ⟨q6, r6⟩ ?_⟩
  intro _
  have HR : Hid (NamesRes 22 9 a W.heap.size LL v.ownBlock w (.returned (.tuple #[])) w6) := Lib.hid (by
    rw [HVL.out]
    exact NamesRes.after HKN5.out HU3.out ⟨rfl, v6, hNM6, hKN6, hV6⟩)
  clear hNM6 hKN6 hV6 q6 r6 HC5 HNM5 HKW5 HBX5 HKN5
  simp only [Act.put, List.setIfInBounds_toArray, List.set_cons_zero, List.set_cons_succ]
  apply wpPlan_done
  go_wp2_with fail
  exact bodyPost_end (v := .tuple #[]) (by simp [results, Tryd.results27, go_sem]) rfl HR.out
end
/-- The free names of any part. -/
theorem free_up (T : List Nd) (tv : Value) (W : World) (a : Nat) (hN : Nodes W tv T) (hTl : T.length ≤ 1000000) (ha : W.heap.size ≤ a) (hSp : Sp W) (hm : ∀ y ∈ T, Tr.may y = true) : ∀ n, FreeUp T tv W a n
  | 0 => fun x ks pre post p bd bv w L v hh => absurd hh (Nat.not_lt_zero _)
  | n + 1 => fun x ks pre post p bd bv w L v hh hT hp hO hB hS hA hbd hL hNm => by
    have hx : Tr.may x = true := hm x (by rw [hT]; simp)
    have ih := free_up T tv W a hN hTl ha hSp hm n
    by_cases h4 : x.kind = 4
    · exact free_v T tv W a hN hTl x ks pre post p bd bv w L v hT hp hO hB hS hA hbd hL hNm h4
    by_cases h5 : x.kind = 5
    · exact free_f5 T tv W a n hN hTl hSp x ks pre post p bd bv w L v hT hp hO hB hS hA hbd hL hNm ih (by omega) h5 (Tr.fld_of hx (.inl h5)) (Tr.kids_of_may hx hO 1 (by rw [h5]; rfl))
    by_cases h6 : x.kind = 6
    · exact free_f6 T tv W a n hN hTl hSp x ks pre post p bd bv w L v hT hp hO hB hS hA hbd hL hNm ih (by omega) h6 (Tr.fld_of hx (.inr h6)) (Tr.kids_of_may hx hO 1 (by rw [h6]; rfl))
    by_cases h8 : x.kind = 8
    · exact free_let T tv W a n hN hTl ha x ks pre post p bd bv w L v hT hp hO hB hS hA hbd hL hNm ih (by omega) h8 (Tr.kids_of_may hx hO 2 (by rw [h8]; rfl))
    · exact free_p T tv W a n hN hTl ha x ks pre post p bd bv w L v hT hp hO hB hS hA hbd hL hNm ih (by omega) h4 h5 h6 h8
/-- Names, in a row of the call's own. -/
def NmsRes (L : List ByteArray) (w : World) (e : Ending) (w' : World) : Prop := ∃ v, e = .returned v ∧ w'.ownsRow w.heap.size 9 1 v L.length (L.map Value.string) ∧ Below w.heap.size w w'
set_option maxRecDepth 100000 in
set_option maxHeartbeats 1600000 in
theorem Free_bad (T : List Nd) (tv : Value) (w : World) (hn : Nodes w tv T) (hS : Sp w) (hz : ∀ x ∈ T, x.s.size ≤ 140737488351232) (hk : ∀ x ∈ T, x.kids ≤ 9223372036854775807) (hc : (Tr.check T).1 ≠ 0) : Calls Tryd.prog 15 #[tv] w (NmsRes [] w) := by
  have HCK := Lib.hid (tCheck_any T tv w hn hS hz hk)
  have e0 := neq_lit (z := 0) (show ((Tr.check T).1 : Int) ≠ 0 by omega)
  generalize Tr.check T = c at *
  clear hc hz hk
  go_enter Tryd.func15, Tryd.ntmps15
  go_wp2_with fail
  refine HCK.out.mono ?_
  rintro e w1 ⟨rfl, hb1⟩
  have HB1 := Lib.hid hb1
  clear hb1 HCK
  go_wp2_with fail
  go_ret
  exact ⟨_, rfl, World.ownsRow_nil _ _ _ _, HB1.out⟩
set_option maxRecDepth 100000 in
set_option maxHeartbeats 1600000 in
theorem Free_ok (T : List Nd) (tv : Value) (x : Nd) (ks : Tr.F) (w : World) (hn : Nodes w tv T) (hS : Sp w) (hT : T.length ≤ 4096) (hz : ∀ x ∈ T, x.s.size ≤ 140737488351232) (hk : ∀ x ∈ T, x.kids ≤ 9223372036854775807) (hc : Tr.check T = (0, 0)) (he : T = x :: ks.flat) (hO : (Tr.F.cons x ks .nil).Ok) (hm : ∀ y ∈ T, Tr.may y = true) (hh : ks.hgt + 1 ≤ 64) :
    Calls Tryd.prog 15 #[tv] w (NmsRes (Tr.F.free x ks) w) := by
  have hmf : ∀ (fn : Fn) (first cap : Array Value) (w : World), (Instr.makeFunc fn first cap).run Tryd.prog w = .ok (.func fn first cap) w := fun _ _ _ _ => rfl
  have HCK := Lib.hid (tCheck_any T tv w hn hS hz hk)
  rw [hc] at HCK
  have HN := Lib.hid hn
  have HS := Lib.hid hS
  have HM := Lib.hid hm
  have HO := Lib.hid hO
  have HE := Lib.hid he
  have HL : Hid ((x :: ks.flat).length ≤ 4096) := Lib.hid (by rw [← he]; exact hT)
  clear hz hk hc hO hm hn hS he
  go_enter Tryd.func15, Tryd.ntmps15
  go_wp2_with fail
  refine HCK.out.mono ?_
  rintro e w1 ⟨rfl, hb1⟩
  have HB1 := Lib.hid hb1
  have HN1 := Lib.hid (HN.out.later hb1)
  have HS1 := Lib.hid (HS.out.later hb1)
  have hb2 : Below w1.heap.size w1 (w1.alloc (.cells #[.slice none 0 0] 22)) := (Below.refl _ _).alloc (Nat.le_refl _) _
  have HB2 := Lib.hid hb2
  have HNM : Hid (NamesAt 22 9 w1.heap.size w1.heap.size [] (.slice none 0 0) (w1.alloc (.cells #[.slice none 0 0] 22))) := Lib.hid ⟨one_alloc w1 22 (.slice none 0 0), World.ownsRow_nil _ _ _ _⟩
  clear hb1 hb2 HCK
  go_wp2_with fail
  refine (free_up T tv w1 w1.heap.size HN1.out (by omega) (Nat.le_refl _) HS1.out HM.out (ks.hgt + 1) x ks [] [] 0 [] (.slice none 0 0) _ [] (.slice none 0 0) (Nat.lt_succ_self _) (by rw [HE.out]; simp) rfl HO.out HB2.out (Nms.nil _) (fun k hk => by cases hk) (by rw [List.length_nil]; omega) (by have := HL.out; rw [List.length_nil]; omega) HNM.out).mono ?_
  rintro e w3 ⟨rfl, v3, hNM3, hKN3, _⟩
  obtain ⟨A3, c3, rfl⟩ := own_shape hNM3.own
  have q0 : w3.cell? ⟨w1.heap.size, 0, none⟩ = some (.slice A3 (Tr.F.free x ks).length c3) := hNM3.one.cell
  have HB3 : Hid (Below w1.heap.size w1 w3) := Lib.hid (hKN3.below HB2.out (by have := HB2.out.size; exact this) (Nat.le_refl _) (fun k hk => by cases hk))
  have HO3 : Hid (w3.ownsRow w1.heap.size 9 1 (.slice A3 (Tr.F.free x ks).length c3) (Tr.F.free x ks).length ((Tr.F.free x ks).map Value.string)) := Lib.hid hNM3.own
  clear hNM3 hKN3 HNM HB2
  go_wp2_with fail
  go_ret
  exact ⟨_, rfl, own_base HO3.out HB1.out.size, below_later HB3.out HB1.out⟩
end Go.Proofs.YtdobaililmkkcaaDoor
