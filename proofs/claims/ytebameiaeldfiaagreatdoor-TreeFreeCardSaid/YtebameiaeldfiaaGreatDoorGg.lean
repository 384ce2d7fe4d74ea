
/- Walks of trees: the free names. -/
import Derived.Test.YtebameiaeldfiaaGreatDoorFq
import Derived.Test.YtebameiaeldfiaaGreatDoorTrR
import Derived.Test.YtebameiaeldfiaaGreatDoorShelf
import Derived.Test.YtebameiaeldfiaaGreatDoorTrS
namespace Culp.Tr
set_option linter.unusedSimpArgs false
set_option linter.unusedVariables false
open Go
theorem inner_sp {c : UInt8} (h : Tx.inner c = true) : Lib.isSp c = false ∧ c.toNat < 128 := by
  unfold Tx.inner Tx.letter Tx.digit at h
  simp only [Bool.or_eq_true, decide_eq_true_eq] at h
  refine ⟨?_, by omega⟩
  unfold Lib.isSp
  have hk : ∀ n : UInt8, n.toNat ≤ 32 → (c == n) = false := fun n hn => by
    rw [beq_eq_false_iff_ne]
    intro he
    subst he
    omega
  rw [hk 9 (by decide), hk 10 (by decide), hk 11 (by decide), hk 12 (by decide), hk 13 (by decide), hk 32 (by decide)]
  rfl
theorem name_inner {s : List UInt8} (h : Tx.isName s = true) : s ≠ [] ∧ s.length ≤ 32 ∧ ∀ c ∈ s, Tx.inner c = true := by
  unfold Tx.isName at h
  simp only [Bool.and_eq_true, decide_eq_true_eq, List.all_eq_true] at h
  exact ⟨h.1.1.1.1, h.1.1.1.2, h.2⟩
theorem fieldsGo_word : ∀ (l cur rest : List UInt8), (∀ c ∈ l, Lib.isSp c = false) → Lib.fieldsGo cur (l ++ rest) = Lib.fieldsGo (cur ++ l) rest
  | [], cur, rest, _ => by simp
  | c :: l, cur, rest, h => by
    rw [List.cons_append, Lib.fieldsGo_more _ _ _ (h c List.mem_cons_self), fieldsGo_word l (cur ++ [c]) rest (fun d hd => h d (List.mem_cons_of_mem _ hd))]
    simp
theorem fields_name {s : List UInt8} (h : Tx.isName s = true) : Lib.fields s = [s] := by
  obtain ⟨h1, _, h2⟩ := name_inner h
  unfold Lib.fields
  have := fieldsGo_word s [] [] (fun c hc => (inner_sp (h2 c hc)).1)
  rw [List.append_nil, List.nil_append] at this
  rw [this]
  cases s with
  | nil => exact absurd rfl h1
  | cons c s => rfl
theorem two_split : ∀ {l a b : List UInt8}, two l = some (a, b) → l = a ++ 32 :: b
  | [], a, b, h => by simp [two] at h
  | c :: l, a, b, h => by
    unfold two at h
    split at h
    · rename_i hc
      simp only [Option.some.injEq, Prod.mk.injEq] at h
      obtain ⟨rfl, rfl⟩ := h
      have : c = 32 := UInt8.toNat_inj.1 hc
      rw [this]; rfl
    · simp only [Option.map_eq_some_iff, Prod.exists, Prod.mk.injEq] at h
      obtain ⟨x, y, h1, rfl, rfl⟩ := h
      rw [two_split h1]; rfl
theorem fields_two {s a b : List UInt8} (h : two s = some (a, b)) (ha : Tx.isName a = true) (hb : Tx.isName b = true) : Lib.fields s = [a, b] := by
  obtain ⟨h1, _, h2⟩ := name_inner ha
  have h3 := fields_name hb
  unfold Lib.fields at h3 ⊢
  rw [two_split h, fieldsGo_word a [] _ (fun c hc => (inner_sp (h2 c hc)).1), List.nil_append, Lib.fieldsGo_end _ _ _ (by decide) h1, h3]
/-- What a node that binds says, in the library's words. -/
structure Fld (x : Nd) : Prop where
  eq : (Lib.fields x.s.data.toList).map (fun l => (⟨l.toArray⟩ : ByteArray)) = binds x 0
  len : 0 < (Lib.fields x.s.data.toList).length ∧ (Lib.fields x.s.data.toList).length ≤ 2
  size : x.s.size < 100
  ascii : ∀ (j : Nat) b, x.s.data.toList[j]? = some b → b.toNat < 128
theorem fld_of {x : Nd} (h : may x = true) (hk : x.kind = 5 ∨ x.kind = 6) : Fld x := by
  have hs : sOk x.kind x.s.data.toList = true := by
    unfold may at h
    simp only [Bool.and_eq_true] at h
    exact h.1.1.2
  rcases hk with hk | hk
  · rw [hk] at hs
    have hn : Tx.isName x.s.data.toList = true := hs
    obtain ⟨h1, h2, h3⟩ := name_inner hn
    refine ⟨?_, ?_, ?_, ?_⟩
    · rw [fields_name hn]
      unfold binds
      rw [if_pos hk]
      rfl
    · rw [fields_name hn]; exact ⟨Nat.succ_pos _, by simp⟩
    · have : x.s.size = x.s.data.toList.length := by rw [Array.length_toList]; rfl
      omega
    · intro j b hb
      exact (inner_sp (h3 b (List.mem_of_getElem? hb))).2
  · rw [hk] at hs
    have hn : twoOk x.s.data.toList = true := hs
    unfold twoOk at hn
    split at hn
    · cases hn
    · rename_i a b hab
      simp only [Bool.and_eq_true] at hn
      obtain ⟨ha, hb⟩ := hn
      have hf := fields_two hab ha hb
      obtain ⟨_, a2, a3⟩ := name_inner ha
      obtain ⟨_, b2, b3⟩ := name_inner hb
      have hsp := two_split hab
      refine ⟨?_, ?_, ?_, ?_⟩
      · rw [hf]
        unfold binds
        rw [if_neg (by omega), if_pos hk, hab]
        rfl
      · rw [hf]; exact ⟨Nat.succ_pos _, by simp⟩
      · have h4 : x.s.size = x.s.data.toList.length := by rw [Array.length_toList]; rfl
        rw [hsp, List.length_append, List.length_cons] at h4
        omega
      · intro j c hc
        have hm := List.mem_of_getElem? hc
        rw [hsp, List.mem_append, List.mem_cons] at hm
        rcases hm with hm | rfl | hm
        · exact (inner_sp (a3 c hm)).2
        · decide
        · exact (inner_sp (b3 c hm)).2
theorem kids_of_may {x : Nd} {ks : F} (h : may x = true) (ho : (F.cons x ks .nil).Ok) (n : Nat) (hn : arit x.kind = n) : ks.cnt = n := by
  unfold may kOk at h
  simp only [Bool.and_eq_true, decide_eq_true_eq, Bool.or_eq_true] at h
  have := ho.1
  omega
namespace F
set_option linter.unusedSimpArgs false
set_option linter.unusedVariables false
variable {x y : Nd} {ks ky r : F} {bd : List ByteArray} {g : Nat → List ByteArray} {k : Nat}
theorem vars_leaf (h : x.kind = 4) : (cons x ks nil).vars (fun _ => bd) 0 = if x.s ∈ bd then [] else [x.s] := by
  simp only [vars, if_pos h, List.append_nil]
theorem vars_one (h : x.kind ≠ 4) : (cons x ks nil).vars (fun _ => bd) 0 = ks.vars (fun j => bd ++ binds x j) 0 := by
  simp only [vars, if_neg h, List.append_nil]
theorem vars_first : (cons y ky r).vars g k = (cons y ky nil).vars (fun _ => g k) 0 ++ r.vars g (k + 1) := by
  simp only [vars, List.append_nil]
theorem vars_plain (h : ∀ j, binds x j = []) : ks.vars (fun j => bd ++ binds x j) 0 = ks.vars (fun _ => bd) 0 := vars_congr _ _ _ _ _ fun i _ => by simp [h]
theorem vars_move (k m : Nat) : ks.vars (fun _ => bd) k = ks.vars (fun _ => bd) m := vars_congr _ _ _ _ _ fun _ _ => rfl
end F
theorem binds_plain {x : Nd} (h5 : x.kind ≠ 5) (h6 : x.kind ≠ 6) (h8 : x.kind ≠ 8) (j : Nat) : binds x j = [] := by
  unfold binds
  rw [if_neg h5, if_neg h6, if_neg (fun h => h8 h.1)]
theorem binds_let0 {x : Nd} (h8 : x.kind = 8) : binds x 0 = [] := by
  unfold binds
  rw [if_neg (by omega), if_neg (by omega), if_neg (by omega)]
theorem binds_let1 {x : Nd} (h8 : x.kind = 8) : binds x 1 = [x.s] := by
  unfold binds
  rw [if_neg (by omega), if_neg (by omega), if_pos ⟨h8, rfl⟩]
end Culp.Tr
namespace Go.Proofs.YtebameiaeldfiaaGreatDoor
set_option linter.unusedSimpArgs false
set_option linter.unusedVariables false
open Go.RowKit Go.Maps Culp

set_option maxRecDepth 100000 in
set_option maxHeartbeats 1600000 in
theorem add_any (a B : Nat) (L : List ByteArray) (v : Value) (s : ByteArray) (w : World) (hN : NamesAt 25 9 a B L v w) (hL : L.length ≤ 1000000) (hB : B ≤ w.heap.size) :
    Calls Tryz.prog 28 #[.string s, .pointer (some ⟨a, 0, none⟩)] w (NamesRes 25 9 a B (Tr.add1 L s) v.ownBlock w) := by
  have c0 := hN.one.cell
  have f0 := hN.one.free
  have HN := Lib.hid hN
  obtain ⟨A, c, rfl, _, hA⟩ := own_form hN.own
  have HA := Lib.hid hA
  clear hN hA
  go_enter Tryz.func28, Tryz.ntmps28
  go_wp2_with fail
  go_loop [7] (fun i => ∃ k : Nat, k ≤ L.length ∧ i = .int .i64 k ∧ Hid (s ∉ L.take k)) (fun i => L.length - (intOf i).toNat)
  case atStart => exact ⟨0, Nat.zero_le _, rfl, Lib.hid (by simp)⟩
  case round =>
    obtain ⟨k, hk, rfl, HS⟩ := hrel
    by_cases hlt : k < L.length
    · obtain ⟨g, rfl, _, hc⟩ := HA.out (by omega)
      have x0 : w.cell? ⟨g, k, none⟩ = some (.string L[k]) := hc k _ (by rw [List.getElem?_map, List.getElem?_eq_getElem hlt]; rfl)
      have HT := Lib.hid (List.take_succ_eq_append_getElem hlt)
      have HM := Lib.hid (List.getElem_mem hlt)
      generalize L[k] = t at *
      clear hc
      by_cases he : t = s
      · have es : (t.toList == s.toList) = true := by rw [he]; exact beq_self_eq_true _
        have HR := Lib.hid (HN.out.had (s := s) (by rw [← he]; exact HM.out))
        clear he
        go_wp2_with fail
        exact bodyPost_end (v := .tuple #[]) (by simp [results, Tryz.results28, go_sem]) rfl HR.out
      · have es : (t.toList == s.toList) = false := beq_eq_false_iff_ne.2 (by rw [toL', toL']; exact fun h => he (str_inj' h))
        have HS2 : Hid (s ∉ L.take (k + 1)) := Lib.hid (by
          rw [HT.out, List.mem_append, List.mem_singleton]
          rintro (h | h)
          · exact HS.out h
          · exact he h.symm)
        clear he
        go_wp2_with fail
        go_round
        case rel => exact ⟨k + 1, by omega, by go_num, HS2⟩
        case measure => simp [intOf]; omega
    · obtain rfl : k = L.length := by omega
      have HS2 : Hid (s ∉ L) := Lib.hid (by have := HS.out; rwa [List.take_length] at this)
      have own4 := HN.out.own
      clear HS
      go_wp2_with (at_builtin; refine append_agg_at rfl (.tmp 15) (.tmp 17) 25 9 rfl B _ 1 16 Tryz.underlying25 strings_info rfl (by decide) _ _ _ rfl own4 [.string s] rfl w.heap.size rfl rfl ?_ ?_ ?_ hB ?_)
      · first
          | rfl
          | (intro y hy; simp only [List.mem_cons, List.not_mem_nil, or_false] at hy; subst hy; rfl)
      · omega
      · omega
      intro v' w5 hown' hg' hb' hat
      obtain ⟨A5, k5, rfl⟩ := own_shape hown'
      have HR := Lib.hid (HN.out.add (by decide) hown' hg' hat HS2.out)
      have h5 : One a 25 (.slice A L.length c) w5 := (hg'.block a (Array.getElem?_eq_some_iff.1 HN.out.one).1 (fun e => HN.out.ne (by decide) e.symm)).trans HN.out.one
      have c5 := h5.cell
      have f5 := h5.free
      clear hown' hg' hb' hat own4 h5 c0 f0
      go_wp2_with fail
      exact bodyPost_end (v := .tuple #[]) (by simp [results, Tryz.results28, go_sem]) rfl HR.out
/-- What is asked of the free names of a part that is not so high. -/
def FreeUp (T : List Nd) (tv : Value) (W : World) (a n : Nat) : Prop :=
  ∀ (x : Nd) (ks : Tr.F) (pre post : List Nd) (p : Nat) (bd : List ByteArray) (bv : Value) (w : World) (L : List ByteArray) (v : Value),
    ks.hgt < n → T = pre ++ x :: (ks.flat ++ post) → pre.length = p → (Tr.F.cons x ks .nil).Ok → Below W.heap.size W w → Nms w bv bd → Culp.Apart bv v → bd.length + 2 * ks.hgt ≤ 1000000 → L.length + (x :: ks.flat).length ≤ 1000000 →
    NamesAt 25 9 a W.heap.size L v w →
    Calls Tryz.prog 27 #[tv, .int .i64 p, bv, .func (.func 28) #[] #[.pointer (some ⟨a, 0, none⟩)]] w
      (NamesRes 25 9 a W.heap.size (Tr.addAll L ((Tr.F.cons x ks .nil).vars (fun _ => bd) 0)) v.ownBlock w)
end Go.Proofs.YtebameiaeldfiaaGreatDoor

/- Walks of trees: the free names of a part, kind by kind. -/
namespace Go.Proofs.YtebameiaeldfiaaGreatDoor
set_option linter.unusedSimpArgs false
set_option linter.unusedVariables false
open Go.RowKit Go.Maps Culp

/-- What a part's walk finds when its kids were told. -/
theorem Box.keepN {g a : Nat} {x : Nd} {o : Option Nat} {w w1 : World} (h : Box g x w) (k : KeepN a o w w1) {ts : TypeId} {u v : Value} {n B : Nat} {xs : List Value} (h1 : One a ts u w) (hts : ts ≠ 63) (hv : w.ownsRow B 9 1 v n xs) (ho : v.ownBlock = o) : Box g x w1 := by
  have hlt := h.lt
  refine (k.block g hlt ?_ ?_).trans h
  · rintro rfl
    unfold Box at h
    unfold One at h1
    rw [h] at h1
    simp only [Option.some.injEq, Obj.cells.injEq] at h1
    exact hts h1.2.1.symm
  · subst ho
    exact own_ne hv (fun cur hc => by
      unfold Box at h
      rw [h] at hc
      simp only [Option.some.injEq, Obj.cells.injEq] at hc
      exact absurd hc.2.1 (by decide))
theorem own_keepN {a : Nat} {o : Option Nat} {w w1 : World} (k : KeepN a o w w1) {kv u v : Value} {n m B C : Nat} {xs ys : List Value} (h : w.ownsRow C 3 1 kv m ys) (h1 : One a 25 u w) (hv : w.ownsRow B 9 1 v n xs) (ho : v.ownBlock = o) : w1.ownsRow C 3 1 kv m ys := by
  refine k.own h (own_ne h fun cur hc => ?_) fun g hg he => ?_
  · unfold One at h1
    rw [h1] at hc
    simp only [Option.some.injEq, Obj.cells.injEq] at hc
    exact absurd hc.2.1 (by decide)
  · subst ho
    exact own_apart_type h hv (by decide) g hg he
section
variable (T : List Nd) (tv : Value) (W : World) (a n : Nat) (hN : Nodes W tv T) (hTl : T.length ≤ 1000000)
  (x : Nd) (ks : Tr.F) (pre post : List Nd) (p : Nat) (bd : List ByteArray) (bv : Value) (w : World) (L : List ByteArray) (v : Value)
  (hT : T = pre ++ x :: (ks.flat ++ post)) (hp : pre.length = p) (hO : (Tr.F.cons x ks .nil).Ok) (hB : Below W.heap.size W w) (hS : Nms w bv bd) (hAp : Culp.Apart bv v) (hbd : bd.length + 2 * ks.hgt ≤ 1000000) (hL : L.length + (x :: ks.flat).length ≤ 1000000)
  (hNm : NamesAt 25 9 a W.heap.size L v w)
include hN hTl hT hp hO hB hS hAp hbd hL hNm
set_option maxRecDepth 100000 in
set_option maxHeartbeats 1600000 in
theorem free_v (h4 : x.kind = 4) : Calls Tryz.prog 27 #[tv, .int .i64 p, bv, .func (.func 28) #[] #[.pointer (some ⟨a, 0, none⟩)]] w
      (NamesRes 25 9 a W.heap.size (Tr.addAll L ((Tr.F.cons x ks .nil).vars (fun _ => bd) 0)) v.ownBlock w) := by
  have HVL := Lib.hid (Tr.F.vars_leaf (ks := ks) (bd := bd) h4)
  generalize (Tr.F.cons x ks .nil).vars (fun _ => bd) 0 = vs at *
  have e4 : (x.kind == 4) = true := by rw [h4]; rfl
  clear h4
  rw [List.length_cons] at hL
  have HND : Hid (Nodes w tv T) := Lib.hid (hN.later hB)
  have hx : T[p]? = some x := by rw [hT, ← hp]; simp
  have hpT : p < T.length := (List.getElem?_eq_some_iff.1 hx).1
  have HKD := Lib.hid (fun w' (hb : Below w.heap.size w w') => tKids_any T tv (p : Int) w' (HND.out.later hb) hTl)
  have HKS : Hid (Tr.kidsOf T (p : Int) = ks.places (p + 1)) := Lib.hid (by have := Tr.F.kids_at hT hO; rw [hp] at this; exact this)
  have HNM := Lib.hid hNm
  have HBW := Lib.hid hB
  have HST := Lib.hid hS
  have HAP := Lib.hid hAp
  have HT := Lib.hid hT
  have HO := Lib.hid hO
  have HP := Lib.hid hp
  have HX := Lib.hid hx
  have HWN := Lib.hid hN
  obtain ⟨A, c, rfl, hlc, hNN⟩ := HND.out
  obtain ⟨b, off, rfl, hM⟩ := hNN (by omega)
  obtain ⟨n0, n1, n2, n3, n4, n5, n6, n7⟩ := hM.at_ hx
  have HB : Hid (Below w.heap.size w (w.alloc (.cells #[.int .i8 x.kind, .int .i64 x.kids, .int .i64 x.n, .string x.s, .string x.t, .string x.u, .int .i64 x.line, .int .i64 x.col] 63))) := Lib.hid ((Below.refl _ _).alloc (Nat.le_refl _) _)
  have HBX : Hid (Box w.heap.size x (w.alloc (.cells #[.int .i8 x.kind, .int .i64 x.kids, .int .i64 x.n, .string x.s, .string x.t, .string x.u, .int .i64 x.line, .int .i64 x.col] 63))) := Lib.hid (MapKept.heap_alloc w _).1
  clear hM hNN hS hAp hT hO hp hx hN hB hNm
  go_enter Tryz.func27, Tryz.ntmps27
  go_wp2_with fail
  refine (HKD.out _ HB.out).mono ?_
  rintro e w2 ⟨kv, rfl, hown, hb2⟩
  rw [HKS.out, Tr.F.places_len] at hown
  have HBX2 : Hid (Box w.heap.size x w2) := Lib.hid ((hb2.block _ HBX.out.lt).trans HBX.out)
  have HKW : Hid (w2.ownsRow (w.heap.size + 1) 3 1 kv ks.cnt ((ks.places (p + 1)).map natV)) := Lib.hid (by simpa using hown)
  obtain ⟨Ak, ck, rfl⟩ := own_shape hown
  have HB2 := Lib.hid (below_later hb2 HB.out)
  have HST2 := Lib.hid (HST.out.later HB2.out)
  have HNM2 := Lib.hid (HNM.out.later HB2.out)
  have HBW2 := Lib.hid (below_later HB2.out HBW.out)
  have k0 : w2.cell? ⟨w.heap.size, 0, none⟩ = some (.int .i8 x.kind) := HBX2.out.cell 0
  clear hown hb2 n0 n1 n2 n3 n4 n5 n6 n7 HBX HB HKD
  have k3 : w2.cell? ⟨w.heap.size, 3, none⟩ = some (.string x.s) := HBX2.out.cell 3
  have HADD := Lib.hid (add_any a W.heap.size L v x.s w2 HNM2.out (by omega) HBW2.out.size)
  obtain ⟨Ab, cb, rfl, _, _, hb4⟩ := HST2.out
  have HB4 := Lib.hid hb4
  clear hb4
  go_wp2_with fail
  go_loopw [39] (fun i wr => w2 = wr ∧ ∃ k : Nat, k ≤ bd.length ∧ i = .int .i64 k ∧ Hid (x.s ∉ bd.take k)) (fun i _ => bd.length - (intOf i).toNat)
  case atStart => exact ⟨rfl, 0, Nat.zero_le _, rfl, Lib.hid (by simp)⟩
  case round =>
    obtain ⟨rfl, k, hk, rfl, HS⟩ := hrel
    by_cases hlt : k < bd.length
    · obtain ⟨g, rfl, _, hc⟩ : ∃ g, Ab = some ⟨g, 0, none⟩ ∧ g < w2.heap.size ∧ ∀ (j : Nat) (s : ByteArray), bd[j]? = some s → w2.cell? ⟨g, j, none⟩ = some (.string s) := by
        cases Ab with
        | none =>
          obtain ⟨_, _, e1, _, h3, _⟩ := HST2.out
          simp only [Value.slice.injEq] at e1
          obtain ⟨rfl, _, _⟩ := e1
          have := (h3 rfl).1
          rw [this] at hlt
          simp at hlt
        | some b0 =>
          obtain ⟨g, rfl, h1, h2⟩ := HB4.out b0 rfl
          exact ⟨g, rfl, h1, h2⟩
      have x0 : w2.cell? ⟨g, k, none⟩ = some (.string bd[k]) := hc k _ (List.getElem?_eq_getElem hlt)
      have HTK := Lib.hid (List.take_succ_eq_append_getElem hlt)
      have HM := Lib.hid (List.getElem_mem hlt)
      generalize bd[k] = t at *
      clear hc
      by_cases he : t = x.s
      · have es : (t.toList == x.s.toList) = true := by rw [he]; exact beq_self_eq_true _
        have HR : Hid (NamesRes 25 9 a W.heap.size (Tr.addAll L vs) v.ownBlock w (.returned (.tuple #[])) w2) := Lib.hid (by
          rw [HVL.out, if_pos (by rw [← he]; exact HM.out)]
          exact ⟨rfl, v, HNM2.out, KeepN.of a _ HB2.out, .inl rfl⟩)
        clear he
        go_wp2_with fail
        exact bodyPost_end (v := .tuple #[]) (by simp [results, Tryz.results27, go_sem]) rfl HR.out
      · have es : (t.toList == x.s.toList) = false := beq_eq_false_iff_ne.2 (by rw [toL', toL']; exact fun h => he (str_inj' h))
        have HS2 : Hid (x.s ∉ bd.take (k + 1)) := Lib.hid (by
          rw [HTK.out, List.mem_append, List.mem_singleton]
          rintro (h | h)
          · exact HS.out h
          · exact he h.symm)
        clear he
        go_wp2_with fail
        go_roundw
        case rel => exact ⟨trivial, k + 1, by omega, by go_num, HS2⟩
        case measure => simp [intOf]; omega
    · obtain rfl : k = bd.length := by omega
      have HS2 : Hid (x.s ∉ bd) := Lib.hid (by have := HS.out; rwa [List.take_length] at this)
      clear HS
      go_wp2_with fail
      refine HADD.out.mono ?_
      rintro e w3 hr
      have HR : Hid (NamesRes 25 9 a W.heap.size (Tr.addAll L vs) v.ownBlock w (.returned (.tuple #[])) w3) := Lib.hid (by
        rw [HVL.out, if_neg HS2.out]
        obtain ⟨_, hr⟩ := hr
        exact NamesRes.after (KeepN.of a _ HB2.out) (.inl rfl) ⟨rfl, hr⟩)
      obtain ⟨rfl, _⟩ := hr
      go_wp2_with fail
      exact bodyPost_end (v := .tuple #[]) (by simp [results, Tryz.results27, go_sem]) rfl HR.out
end
end Go.Proofs.YtebameiaeldfiaaGreatDoor

/- Walks of trees: the free names of a part that binds nothing. -/
namespace Go.Proofs.YtebameiaeldfiaaGreatDoor
set_option linter.unusedSimpArgs false
set_option linter.unusedVariables false
open Go.RowKit Go.Maps Culp

theorem NamesAt.base {ts te : TypeId} {a B : Nat} {L : List ByteArray} {v : Value} {w : World} (h : NamesAt ts te a B L v w) : ∀ k, v.ownBlock = some k → B ≤ k := fun k hk => (h.own.lt k hk).1
section
variable (T : List Nd) (tv : Value) (W : World) (a n : Nat) (hN : Nodes W tv T) (hTl : T.length ≤ 1000000) (ha : W.heap.size ≤ a)
  (x : Nd) (ks : Tr.F) (pre post : List Nd) (p : Nat) (bd : List ByteArray) (bv : Value) (w : World) (L : List ByteArray) (v : Value)
  (hT : T = pre ++ x :: (ks.flat ++ post)) (hp : pre.length = p) (hO : (Tr.F.cons x ks .nil).Ok) (hB : Below W.heap.size W w) (hS : Nms w bv bd) (hAp : Culp.Apart bv v) (hbd : bd.length + 2 * ks.hgt ≤ 1000000) (hL : L.length + (x :: ks.flat).length ≤ 1000000)
  (hNm : NamesAt 25 9 a W.heap.size L v w) (hup : FreeUp T tv W a n) (hh : ks.hgt ≤ n)
include hN hTl ha hT hp hO hB hS hAp hbd hL hNm hup hh
set_option maxRecDepth 100000 in
set_option maxHeartbeats 3200000 in
theorem free_p (h4 : x.kind ≠ 4) (h5 : x.kind ≠ 5) (h6 : x.kind ≠ 6) (h8 : x.kind ≠ 8) : Calls Tryz.prog 27 #[tv, .int .i64 p, bv, .func (.func 28) #[] #[.pointer (some ⟨a, 0, none⟩)]] w
      (NamesRes 25 9 a W.heap.size (Tr.addAll L ((Tr.F.cons x ks .nil).vars (fun _ => bd) 0)) v.ownBlock w) := by
  have HVL : Hid ((Tr.F.cons x ks .nil).vars (fun _ => bd) 0 = ks.vars (fun _ => bd) 0) := Lib.hid (by rw [Tr.F.vars_one h4, Tr.F.vars_plain (Tr.binds_plain h5 h6 h8)])
  generalize (Tr.F.cons x ks .nil).vars (fun _ => bd) 0 = vs at *
  have e4 : (x.kind == 4) = false := beq_no h4
  have e5 : (x.kind == 5) = false := beq_no h5
  have e6 : (x.kind == 6) = false := beq_no h6
  have e8 : (x.kind == 8) = false := beq_no h8
  have HUP := Lib.hid hup
  clear h4 h5 h6 h8 hup
  rw [List.length_cons] at hL
  have hcnt := Tr.F.cnt_le ks
  have HND : Hid (Nodes w tv T) := Lib.hid (hN.later hB)
  have hx : T[p]? = some x := by rw [hT, ← hp]; simp
  have hpT : p < T.length := (List.getElem?_eq_some_iff.1 hx).1
  have HKD := Lib.hid (fun w' (hb : Below w.heap.size w w') => tKids_any T tv (p : Int) w' (HND.out.later hb) hTl)
  have HKS : Hid (Tr.kidsOf T (p : Int) = ks.places (p + 1)) := Lib.hid (by have := Tr.F.kids_at hT hO; rw [hp] at this; exact this)
  have HNM := Lib.hid hNm
  have HBW := Lib.hid hB
  have HST := Lib.hid hS
  have HAP := Lib.hid hAp
  have HT := Lib.hid hT
  have HO := Lib.hid hO
  have HP := Lib.hid hp
  have HX := Lib.hid hx
  have HWN := Lib.hid hN
  obtain ⟨A, c, rfl, hlc, hNN⟩ := HND.out
  obtain ⟨b, off, rfl, hM⟩ := hNN (by omega)
  obtain ⟨n0, n1, n2, n3, n4, n5, n6, n7⟩ := hM.at_ hx
  have HB : Hid (Below w.heap.size w (w.alloc (.cells #[.int .i8 x.kind, .int .i64 x.kids, .int .i64 x.n, .string x.s, .string x.t, .string x.u, .int .i64 x.line, .int .i64 x.col] 63))) := Lib.hid ((Below.refl _ _).alloc (Nat.le_refl _) _)
  have HBX : Hid (Box w.heap.size x (w.alloc (.cells #[.int .i8 x.kind, .int .i64 x.kids, .int .i64 x.n, .string x.s, .string x.t, .string x.u, .int .i64 x.line, .int .i64 x.col] 63))) := Lib.hid (MapKept.heap_alloc w _).1
  clear hM hNN hS hAp hT hO hp hx hN hB hNm
  go_enter Tryz.func27, Tryz.ntmps27
  go_wp2_with fail
  refine (HKD.out _ HB.out).mono ?_
  rintro e w2 ⟨kv, rfl, hown, hb2⟩
  rw [HKS.out, Tr.F.places_len] at hown
  have HBX2 : Hid (Box w.heap.size x w2) := Lib.hid ((hb2.block _ HBX.out.lt).trans HBX.out)
  have HKW : Hid (w2.ownsRow (w.heap.size + 1) 3 1 kv ks.cnt ((ks.places (p + 1)).map natV)) := Lib.hid (by simpa using hown)
  obtain ⟨Ak, ck, rfl⟩ := own_shape hown
  have HB2 := Lib.hid (below_later hb2 HB.out)
  have HST2 := Lib.hid (HST.out.later HB2.out)
  have HNM2 := Lib.hid (HNM.out.later HB2.out)
  have HBW2 := Lib.hid (below_later HB2.out HBW.out)
  have k0 : w2.cell? ⟨w.heap.size, 0, none⟩ = some (.int .i8 x.kind) := HBX2.out.cell 0
  clear hown hb2 n0 n1 n2 n3 n4 n5 n6 n7 HBX HB HKD
  go_wp2_with fail
  go_loopw [25] (fun i wr => ∃ (k : Nat) (r : Tr.F) (pr : List Nd) (Lr : List ByteArray) (u : Value), i = .int .i64 k ∧ k + r.cnt = ks.cnt ∧ Lr.length + r.flat.length ≤ 1000000 ∧ Hid (T = pr ++ (r.flat ++ post)) ∧ Hid r.Ok ∧ Hid (r.hgt ≤ ks.hgt) ∧ Hid (∀ j, (r.places pr.length)[j]? = (ks.places (p + 1))[k + j]?) ∧ Hid (Tr.addAll Lr (r.vars (fun _ => bd) k) = Tr.addAll L vs) ∧ Hid (NamesAt 25 9 a W.heap.size Lr u wr) ∧ Hid (Nms wr bv bd) ∧ Hid (Culp.Apart bv u) ∧ Hid (KeepN a v.ownBlock w wr) ∧ Hid (u.ownBlock = v.ownBlock ∨ ∃ b, u.ownBlock = some b ∧ w.heap.size ≤ b) ∧ Hid (wr.ownsRow (w.heap.size + 1) 3 1 (.slice Ak ks.cnt ck) ks.cnt ((ks.places (p + 1)).map natV)) ∧ Hid (Below W.heap.size W wr)) (fun i _ => ks.cnt - (intOf i).toNat)
  case atStart =>
    exact ⟨0, ks, pre ++ [x], L, v, rfl, by omega, by omega, Lib.hid (by rw [HT.out]; simp), Lib.hid HO.out.2.1, Lib.hid (Nat.le_refl _), Lib.hid (fun j => by rw [List.length_append, HP.out, Nat.zero_add]; rfl), Lib.hid (by rw [HVL.out]), HNM2, HST2, HAP, Lib.hid (KeepN.of a _ HB2.out), Lib.hid (.inl rfl), HKW, HBW2⟩
  case round =>
    clear HKW HNM2 HST2 HAP HB2 HBW2 HBX2 HNM HST HBW HX HVL HT k0 hpT HND
    obtain ⟨k, r, pr, Lr, u, rfl, hk, hLr, HT, HOr, HGr, HKP, HV, HNM, HST, HAP, HKN, HU, HKW, HBW⟩ := hrel
    cases r with
    | nil =>
      have hkc : k = ks.cnt := by simp only [Tr.F.cnt] at hk; omega
      have HR : Hid (NamesRes 25 9 a W.heap.size (Tr.addAll L vs) v.ownBlock w (.returned (.tuple #[])) wr) := Lib.hid (by
        have := HV.out
        rw [Tr.F.vars, Tr.addAll_nil] at this
        rw [← this]
        exact ⟨rfl, u, HNM.out, HKN.out, HU.out⟩)
      subst hkc
      clear hk hLr
      go_wp2_with fail
      exact bodyPost_end (v := .tuple #[]) (by simp [results, Tryz.results27, go_sem]) rfl HR.out
    | cons y ky r' =>
      have hkl : k < ks.cnt := by simp only [Tr.F.cnt] at hk; omega
      simp only [Tr.F.flat, List.length_cons, List.length_append] at hLr
      obtain ⟨gk, _, e1, _, _, _, _, hc⟩ := own_read HKW.out (by omega)
      simp only [Value.slice.injEq] at e1
      obtain ⟨rfl, _, rfl⟩ := e1
      have x0 : wr.cell? ⟨gk, k, none⟩ = some (.int .i64 ((pr.length : Nat) : Int)) := hc k _ (by
        have h2 : (ks.places (p + 1))[k]? = some pr.length := (HKP.out 0).symm
        rw [List.getElem?_map, h2]; rfl)
      have hg0 : ky.hgt + 1 ≤ ks.hgt := by have := HGr.out; simp only [Tr.F.hgt] at this; omega
      have HC := Lib.hid (HUP.out y ky pr (r'.flat ++ post) pr.length bd bv wr Lr u (by omega) (by rw [HT.out]; simp [Tr.F.flat]) rfl ⟨HOr.out.1, HOr.out.2.1, trivial⟩ HBW.out HST.out HAP.out (by omega) (by rw [List.length_cons]; omega) HNM.out)
      have hL' := Tr.addAll_len ((Tr.F.cons y ky .nil).vars (fun _ => bd) 0) Lr
      have hvl := Tr.F.vars_len (Tr.F.cons y ky .nil) (fun _ => bd) 0
      simp only [Tr.F.flat, List.append_nil, List.length_cons] at hvl
      have HV' : Hid (Tr.addAll (Tr.addAll Lr ((Tr.F.cons y ky .nil).vars (fun _ => bd) 0)) (r'.vars (fun _ => bd) (k + 1)) = Tr.addAll L vs) := Lib.hid (by
        have := HV.out
        rw [Tr.F.vars_first, Tr.addAll_append] at this
        exact this)
      generalize Tr.addAll Lr ((Tr.F.cons y ky .nil).vars (fun _ => bd) 0) = L' at *
      generalize (Tr.F.cons y ky .nil).vars (fun _ => bd) 0 = vy at *
      have HKP' : Hid (∀ j, (r'.places (pr ++ y :: ky.flat).length)[j]? = (ks.places (p + 1))[k + 1 + j]?) := Lib.hid (fun j => by
        have := HKP.out (j + 1)
        rw [show k + 1 + j = k + (j + 1) by omega, ← this, List.length_append, List.length_cons, show pr.length + (ky.flat.length + 1) = pr.length + 1 + ky.flat.length by omega]
        rfl)
      have HT' : Hid (T = (pr ++ y :: ky.flat) ++ (r'.flat ++ post)) := Lib.hid (by rw [HT.out]; simp [Tr.F.flat])
      have HG' : Hid (r'.hgt ≤ ks.hgt) := Lib.hid (by have := HGr.out; simp only [Tr.F.hgt] at this; omega)
      have HOr' : Hid r'.Ok := Lib.hid HOr.out.2.2
      have hk' : k + 1 + r'.cnt = ks.cnt := by simp only [Tr.F.cnt] at hk; omega
      have hLr' : L'.length + r'.flat.length ≤ 1000000 := by omega
      clear HKP HV HT HGr HOr hk hc hL' hvl hg0
      go_wp2_with fail
      refine HC.out.mono ?_
      rintro e w3 ⟨rfl, u', hNM3, hKN3, hU3⟩
      have HNM3 := Lib.hid hNM3
      have HST3 : Hid (Nms w3 bv bd) := Lib.hid (HST.out.keep hKN3 HNM.out.one (by
        obtain ⟨A9, c9, h9⟩ := own_shape HNM.out.own
        intro s hs
        rw [h9] at hs
        cases hs) HAP.out)
      have HAP3 : Hid (Culp.Apart bv u') := Lib.hid (HST.out.apart HAP.out hU3)
      have HKN3 : Hid (KeepN a v.ownBlock w w3) := Lib.hid (HKN.out.trans hKN3 HU.out)
      have HU3 : Hid (u'.ownBlock = v.ownBlock ∨ ∃ b, u'.ownBlock = some b ∧ w.heap.size ≤ b) := Lib.hid (by
        have := HKN.out.size
        rcases hU3 with e | ⟨b, e, hb⟩
        · rw [e]; exact HU.out
        · exact .inr ⟨b, e, by omega⟩)
      have HKW3 := Lib.hid (own_keepN hKN3 HKW.out HNM.out.one HNM.out.own rfl)
      have HBW3 : Hid (Below W.heap.size W w3) := Lib.hid (hKN3.below HBW.out HBW.out.size ha HNM.out.base)
      clear hNM3 hKN3 hU3 HC HNM HST HAP HKN HU HKW HBW x0
      go_wp2_with fail
      go_roundw
      case rel => exact ⟨k + 1, r', _, L', u', by go_num, hk', hLr', HT', HOr', HG', HKP', HV', HNM3, HST3, HAP3, HKN3, HU3, HKW3, HBW3⟩
      case measure => simp [intOf]; omega
end
end Go.Proofs.YtebameiaeldfiaaGreatDoor

/- Walks of trees: the free names of a function. -/
namespace Culp.Tr.F
set_option linter.unusedSimpArgs false
set_option linter.unusedVariables false
theorem cnt_one {f : F} (h : f.cnt = 1) : ∃ y ky, f = cons y ky nil := by
  cases f with
  | nil => simp [cnt] at h
  | cons y ky r =>
    have : r = nil := cnt_zero (by simp only [cnt] at h; omega)
    subst this
    exact ⟨y, ky, rfl⟩
theorem cnt_two {f : F} (h : f.cnt = 2) : ∃ y ky z kz, f = cons y ky (cons z kz nil) := by
  cases f with
  | nil => simp [cnt] at h
  | cons y ky r =>
    obtain ⟨z, kz, rfl⟩ := cnt_one (f := r) (by simp only [cnt] at h; omega)
    exact ⟨y, ky, z, kz, rfl⟩
end Culp.Tr.F
namespace Go.Proofs.YtebameiaeldfiaaGreatDoor
set_option linter.unusedSimpArgs false
set_option linter.unusedVariables false
open Go.RowKit Go.Maps Culp

theorem fields_cell {w : World} {t : TypeId} {l : List (List UInt8)} {B : Nat} (hB : w.heap.size = B) : ∀ (j : Nat) (s : ByteArray), (l.map (fun l => (⟨l.toArray⟩ : ByteArray)))[j]? = some s → (w.alloc (.cells (l.map fun l => Value.string ⟨l.toArray⟩).toArray t)).cell? ⟨B, j, none⟩ = some (.string s) := by
  intro j s hj
  subst hB
  rw [World.cell?_alloc_at _ _ _ _ rfl]
  rw [List.getElem?_map, Option.map_eq_some_iff] at hj
  obtain ⟨x, hx, rfl⟩ := hj
  simp [hx]
section
variable (T : List Nd) (tv : Value) (W : World) (a n : Nat) (hN : Nodes W tv T) (hTl : T.length ≤ 1000000) (hSp : Sp W)
  (x : Nd) (ks : Tr.F) (pre post : List Nd) (p : Nat) (bd : List ByteArray) (bv : Value) (w : World) (L : List ByteArray) (v : Value)
  (hT : T = pre ++ x :: (ks.flat ++ post)) (hp : pre.length = p) (hO : (Tr.F.cons x ks .nil).Ok) (hB : Below W.heap.size W w) (hS : Nms w bv bd) (hAp : Culp.Apart bv v) (hbd : bd.length + 2 * ks.hgt ≤ 1000000) (hL : L.length + (x :: ks.flat).length ≤ 1000000)
  (hNm : NamesAt 25 9 a W.heap.size L v w) (hup : FreeUp T tv W a n) (hh : ks.hgt ≤ n)
include hN hTl hSp hT hp hO hB hS hAp hbd hL hNm hup hh
set_option maxRecDepth 100000 in
set_option maxHeartbeats 3200000 in
theorem free_f5 (hk : x.kind = 5) (hf : Tr.Fld x) (h1 : ks.cnt = 1) : Calls Tryz.prog 27 #[tv, .int .i64 p, bv, .func (.func 28) #[] #[.pointer (some ⟨a, 0, none⟩)]] w
      (NamesRes 25 9 a W.heap.size (Tr.addAll L ((Tr.F.cons x ks .nil).vars (fun _ => bd) 0)) v.ownBlock w) := by
  obtain ⟨y, ky, he⟩ := Tr.F.cnt_one h1
  have HVL : Hid ((Tr.F.cons x ks .nil).vars (fun _ => bd) 0 = (Tr.F.cons y ky .nil).vars (fun _ => bd ++ Tr.binds x 0) 0) := Lib.hid (by
    rw [Tr.F.vars_one (by omega), he]
    exact Tr.F.vars_congr _ _ _ _ _ fun i hi => by
      simp only [Tr.F.cnt] at hi
      obtain rfl : i = 0 := by omega
      rfl)
  generalize (Tr.F.cons x ks .nil).vars (fun _ => bd) 0 = vs at *
  have e4 : (x.kind == 4) = false := by rw [hk]; rfl
  have e5 : (x.kind == 5) = true := by rw [hk]; rfl
  have e6 : (x.kind == 6) = false := by rw [hk]; rfl
  have HUP := Lib.hid hup
  have HF := Lib.hid hf
  have HSP := Lib.hid (hSp.later hB)
  have hg0 : ky.hgt + 1 ≤ ks.hgt := by rw [he]; simp only [Tr.F.hgt]; omega
  have hL1 : L.length + (ky.flat.length + 1) ≤ 1000000 := by rw [he] at hL; simp only [Tr.F.flat, List.append_nil, List.length_cons] at hL; omega
  have HE := Lib.hid he
  have HCN := Lib.hid h1
  clear hk hf h1 hup hSp he hL
  have HND : Hid (Nodes w tv T) := Lib.hid (hN.later hB)
  have hx : T[p]? = some x := by rw [hT, ← hp]; simp
  have hpT : p < T.length := (List.getElem?_eq_some_iff.1 hx).1
  have HKD := Lib.hid (fun w' (hb : Below w.heap.size w w') => tKids_any T tv (p : Int) w' (HND.out.later hb) hTl)
  have HKS : Hid (Tr.kidsOf T (p : Int) = ks.places (p + 1)) := Lib.hid (by have := Tr.F.kids_at hT hO; rw [hp] at this; exact this)
  have HNM := Lib.hid hNm
  have HBW := Lib.hid hB
  have HST := Lib.hid hS
  have HAP := Lib.hid hAp
  have HT := Lib.hid hT
  have HO := Lib.hid hO
  have HP := Lib.hid hp
  have HX := Lib.hid hx
  have HWN := Lib.hid hN
  obtain ⟨A, c, rfl, hlc, hNN⟩ := HND.out
  obtain ⟨b, off, rfl, hM⟩ := hNN (by omega)
  obtain ⟨n0, n1, n2, n3, n4, n5, n6, n7⟩ := hM.at_ hx
  have HB : Hid (Below w.heap.size w (w.alloc (.cells #[.int .i8 x.kind, .int .i64 x.kids, .int .i64 x.n, .string x.s, .string x.t, .string x.u, .int .i64 x.line, .int .i64 x.col] 63))) := Lib.hid ((Below.refl _ _).alloc (Nat.le_refl _) _)
  have HBX : Hid (Box w.heap.size x (w.alloc (.cells #[.int .i8 x.kind, .int .i64 x.kids, .int .i64 x.n, .string x.s, .string x.t, .string x.u, .int .i64 x.line, .int .i64 x.col] 63))) := Lib.hid (MapKept.heap_alloc w _).1
  clear hM hNN hS hAp hT hO hp hx hN hB hNm
  go_enter Tryz.func27, Tryz.ntmps27
  go_wp2_with fail
  refine (HKD.out _ HB.out).mono ?_
  rintro e w2 ⟨kv, rfl, hown, hb2⟩
  rw [HKS.out, Tr.F.places_len] at hown
  have HBX2 : Hid (Box w.heap.size x w2) := Lib.hid ((hb2.block _ HBX.out.lt).trans HBX.out)
  have HKW : Hid (w2.ownsRow (w.heap.size + 1) 3 1 kv ks.cnt ((ks.places (p + 1)).map natV)) := Lib.hid (by simpa using hown)
  obtain ⟨Ak, ck, rfl⟩ := own_shape hown
  have HB2 := Lib.hid (below_later hb2 HB.out)
  have HST2 := Lib.hid (HST.out.later HB2.out)
  have HNM2 := Lib.hid (HNM.out.later HB2.out)
  have HBW2 := Lib.hid (below_later HB2.out HBW.out)
  have k0 : w2.cell? ⟨w.heap.size, 0, none⟩ = some (.int .i8 x.kind) := HBX2.out.cell 0
  clear hown hb2 n0 n1 n2 n3 n4 n5 n6 n7 HBX HB HKD
  have HKW1 : Hid (w2.ownsRow (w.heap.size + 1) 3 1 (.slice Ak 1 ck) 1 [.int .i64 ((p + 1 : Nat) : Int)]) := Lib.hid (by have := HKW.out; rw [HE.out] at this; exact this)
  rw [HCN.out]
  clear HKW
  obtain ⟨gk, _, e1, q0⟩ := own_single HKW1.out rfl
  simp only [Value.slice.injEq] at e1
  obtain ⟨rfl, _, rfl⟩ := e1
  have k3 : w2.cell? ⟨w.heap.size, 3, none⟩ = some (.string x.s) := HBX2.out.cell 3
  have HSP2 := Lib.hid (HSP.out.later HB2.out)
  obtain ⟨Ab, cb, rfl, hbc, _, _⟩ := HST2.out
  have HC := Lib.hid (fun bv' w' hB' hS' hA' hNm' => HUP.out y ky (pre ++ [x]) post (p + 1) (bd ++ Tr.binds x 0) bv' w' L v (by omega) (by rw [HT.out, HE.out]; simp [Tr.F.flat]) (by rw [List.length_append, HP.out]; rfl) (by have := HO.out.2.1; rw [HE.out] at this; exact ⟨this.1, this.2.1, trivial⟩) hB' hS' hA' (by
    have h5 := HF.out.len
    have h6 := congrArg List.length HF.out.eq
    rw [List.length_map] at h6
    rw [List.length_append]; omega) (by rw [List.length_cons]; omega) hNm')
  clear HUP HT HO HP HBW HNM HST HX HND HSP hpT
  go_wp2_with fail
  refine wp_region_plan (S := fun w' => w'.cell? ⟨gk, 0, none⟩ = some (.int .i64 ((p + 1 : Nat) : Int)) ∧ w'.cell? ⟨w.heap.size, 3, none⟩ = some (.string x.s))
    [(0, true), (1, true), (2, true), (3, true), (4, true), (5, true), (6, true), (7, true), (8, true), (9, true), (10, true), (11, true), (14, true), (12, false), (13, false), (15, false)] (by kernel_rfl) (by kernel_rfl) (by kernel_rfl) (fun _ _ _ _ _ h => h) ⟨q0, k3⟩ ?_
  intro HS
  repeat (first | (apply wpPlan_look; rfl; rfl; (intro wq hq; (try dsimp only at hq); go_split_ands; go_simp; (try rw [if_neg (by omega)]); (try rw [if_pos (by omega)]); try with_reducible rfl); simp only [Act.put, List.setIfInBounds_toArray, List.set_cons_zero, List.set_cons_succ]) | (apply wpPlan_skip; rfl; rfl; simp only [Act.put, List.setIfInBounds_toArray, List.set_cons_zero, List.set_cons_succ]) | (apply wpPlan_pass; rfl; rfl; assumption; simp only [Act.put, List.setIfInBounds_toArray, List.set_cons_zero, List.set_cons_succ]))
  apply wpPlan_call; rfl; rfl; rfl; rfl; kernel_rfl; exact Tryz.strings_Fields x.s _ (by have := HF.out.size; omega) HF.out.ascii HSP2.out; rfl; rintro e w' ⟨rfl, rfl⟩
  have hb4 : Below w2.heap.size w2 (w2.drew.alloc (.cells ((Lib.fields x.s.data.toList).map fun l => Value.string ⟨l.toArray⟩).toArray 9)) := (Below.refl _ _).drew.alloc (Nat.le_refl _) _
  have q4 := cell_later hb4 q0
  have r4 := cell_later hb4 k3
  refine ⟨_, rfl, as_S ⟨q4, r4⟩ ?_⟩
  intro _
  simp only [Act.put, List.setIfInBounds_toArray, List.set_cons_zero, List.set_cons_succ]
  have hfl := HF.out.len
  obtain ⟨v5, w5, hrun, hown5, hg5⟩ := run_append_strs (P := Tryz.prog) (t := 25) (ty := 25) (e := 9) Tryz.underlying25 strings_info rfl (HST2.out.later hb4) w2.heap.size (Lib.fields x.s.data.toList).length (Lib.fields x.s.data.toList).length ((Lib.fields x.s.data.toList).map (fun l => (⟨l.toArray⟩ : ByteArray))) (by rw [List.length_map]) hfl.1 (fields_cell rfl) (by omega) (by omega)
  rw [HF.out.eq] at hown5
  have hb5 : Below w2.heap.size w2 w5 := hb4.grown hg5 hb4.size fun k hk => by cases hk
  have q5 := cell_later hb5 q0
  have r5 := cell_later hb5 k3
  refine wpPlan_run rfl rfl (exec_append rfl rfl rfl rfl hrun) _ (fun _ h => h) ⟨q5, r5⟩ ?_
  simp only [Act.put, List.setIfInBounds_toArray, List.set_cons_zero, List.set_cons_succ]
  have HNM5 := Lib.hid (HNM2.out.later hb5)
  have HBW5 := Lib.hid (below_later hb5 HBW2.out)
  have hAp5 : Culp.Apart v5 v := apart_base hown5 fun g hg => by
    have := (HNM2.out.own.lt g hg).2
    have := hb4.size
    omega
  have HC5 := Lib.hid (HC.out v5 w5 HBW5.out (Nms.own hown5) hAp5 HNM5.out)
  have HKW5 := Lib.hid (own_later HKW1.out hb5)
  have HBX5 : Hid (Box w.heap.size x w5) := Lib.hid ((hb5.block _ HBX2.out.lt).trans HBX2.out)
  have HB5 := Lib.hid (below_later hb5 HB2.out)
  obtain ⟨A5, c5, rfl⟩ := own_shape hown5
  clear hb4 hb5 hown5 hg5 hrun hAp5 q4 r4 HC hfl
  apply wpPlan_call; rfl; rfl; rfl; rfl; kernel_rfl; exact HC5.out; rfl; rintro e w6 ⟨rfl, v6, hNM6, hKN6, hV6⟩
  have q6 := (own_get (own_keepN hKN6 HKW5.out HNM5.out.one HNM5.out.own rfl) (i := 0) rfl).1
  have r6 := (HBX5.out.keepN hKN6 HNM5.out.one (by decide) HNM5.out.own rfl).cell 3
  refine ⟨_, rfl, as_S ⟨q6, r6⟩ ?_⟩
  intro _
  have HR : Hid (NamesRes 25 9 a W.heap.size (Tr.addAll L vs) v.ownBlock w (.returned (.tuple #[])) w6) := Lib.hid (by
    rw [HVL.out]
    exact NamesRes.after (KeepN.of a _ HB5.out) (.inl rfl) ⟨rfl, v6, hNM6, hKN6, hV6⟩)
  clear hNM6 hKN6 hV6 q6 r6 HC5 HNM5 HKW5 HBX5 HB5
  simp only [Act.put, List.setIfInBounds_toArray, List.set_cons_zero, List.set_cons_succ]
  apply wpPlan_done
  go_wp2_with fail
  exact bodyPost_end (v := .tuple #[]) (by simp [results, Tryz.results27, go_sem]) rfl HR.out
set_option maxRecDepth 100000 in
set_option maxHeartbeats 3200000 in
theorem free_f6 (hk : x.kind = 6) (hf : Tr.Fld x) (h1 : ks.cnt = 1) : Calls Tryz.prog 27 #[tv, .int .i64 p, bv, .func (.func 28) #[] #[.pointer (some ⟨a, 0, none⟩)]] w
      (NamesRes 25 9 a W.heap.size (Tr.addAll L ((Tr.F.cons x ks .nil).vars (fun _ => bd) 0)) v.ownBlock w) := by
  obtain ⟨y, ky, he⟩ := Tr.F.cnt_one h1
  have HVL : Hid ((Tr.F.cons x ks .nil).vars (fun _ => bd) 0 = (Tr.F.cons y ky .nil).vars (fun _ => bd ++ Tr.binds x 0) 0) := Lib.hid (by
    rw [Tr.F.vars_one (by omega), he]
    exact Tr.F.vars_congr _ _ _ _ _ fun i hi => by
      simp only [Tr.F.cnt] at hi
      obtain rfl : i = 0 := by omega
      rfl)
  generalize (Tr.F.cons x ks .nil).vars (fun _ => bd) 0 = vs at *
  have e4 : (x.kind == 4) = false := by rw [hk]; rfl
  have e5 : (x.kind == 5) = false := by rw [hk]; rfl
  have e6 : (x.kind == 6) = true := by rw [hk]; rfl
  have HUP := Lib.hid hup
  have HF := Lib.hid hf
  have HSP := Lib.hid (hSp.later hB)
  have hg0 : ky.hgt + 1 ≤ ks.hgt := by rw [he]; simp only [Tr.F.hgt]; omega
  have hL1 : L.length + (ky.flat.length + 1) ≤ 1000000 := by rw [he] at hL; simp only [Tr.F.flat, List.append_nil, List.length_cons] at hL; omega
  have HE := Lib.hid he
  have HCN := Lib.hid h1
  clear hk hf h1 hup hSp he hL
  have HND : Hid (Nodes w tv T) := Lib.hid (hN.later hB)
  have hx : T[p]? = some x := by rw [hT, ← hp]; simp
  have hpT : p < T.length := (List.getElem?_eq_some_iff.1 hx).1
  have HKD := Lib.hid (fun w' (hb : Below w.heap.size w w') => tKids_any T tv (p : Int) w' (HND.out.later hb) hTl)
  have HKS : Hid (Tr.kidsOf T (p : Int) = ks.places (p + 1)) := Lib.hid (by have := Tr.F.kids_at hT hO; rw [hp] at this; exact this)
  have HNM := Lib.hid hNm
  have HBW := Lib.hid hB
  have HST := Lib.hid hS
  have HAP := Lib.hid hAp
  have HT := Lib.hid hT
  have HO := Lib.hid hO
  have HP := Lib.hid hp
  have HX := Lib.hid hx
  have HWN := Lib.hid hN
  obtain ⟨A, c, rfl, hlc, hNN⟩ := HND.out
  obtain ⟨b, off, rfl, hM⟩ := hNN (by omega)
  obtain ⟨n0, n1, n2, n3, n4, n5, n6, n7⟩ := hM.at_ hx
  have HB : Hid (Below w.heap.size w (w.alloc (.cells #[.int .i8 x.kind, .int .i64 x.kids, .int .i64 x.n, .string x.s, .string x.t, .string x.u, .int .i64 x.line, .int .i64 x.col] 63))) := Lib.hid ((Below.refl _ _).alloc (Nat.le_refl _) _)
  have HBX : Hid (Box w.heap.size x (w.alloc (.cells #[.int .i8 x.kind, .int .i64 x.kids, .int .i64 x.n, .string x.s, .string x.t, .string x.u, .int .i64 x.line, .int .i64 x.col] 63))) := Lib.hid (MapKept.heap_alloc w _).1
  clear hM hNN hS hAp hT hO hp hx hN hB hNm
  go_enter Tryz.func27, Tryz.ntmps27
  go_wp2_with fail
  refine (HKD.out _ HB.out).mono ?_
  rintro e w2 ⟨kv, rfl, hown, hb2⟩
  rw [HKS.out, Tr.F.places_len] at hown
  have HBX2 : Hid (Box w.heap.size x w2) := Lib.hid ((hb2.block _ HBX.out.lt).trans HBX.out)
  have HKW : Hid (w2.ownsRow (w.heap.size + 1) 3 1 kv ks.cnt ((ks.places (p + 1)).map natV)) := Lib.hid (by simpa using hown)
  obtain ⟨Ak, ck, rfl⟩ := own_shape hown
  have HB2 := Lib.hid (below_later hb2 HB.out)
  have HST2 := Lib.hid (HST.out.later HB2.out)
  have HNM2 := Lib.hid (HNM.out.later HB2.out)
  have HBW2 := Lib.hid (below_later HB2.out HBW.out)
  have k0 : w2.cell? ⟨w.heap.size, 0, none⟩ = some (.int .i8 x.kind) := HBX2.out.cell 0
  clear hown hb2 n0 n1 n2 n3 n4 n5 n6 n7 HBX HB HKD
  have HKW1 : Hid (w2.ownsRow (w.heap.size + 1) 3 1 (.slice Ak 1 ck) 1 [.int .i64 ((p + 1 : Nat) : Int)]) := Lib.hid (by have := HKW.out; rw [HE.out] at this; exact this)
  rw [HCN.out]
  clear HKW
  obtain ⟨gk, _, e1, q0⟩ := own_single HKW1.out rfl
  simp only [Value.slice.injEq] at e1
  obtain ⟨rfl, _, rfl⟩ := e1
  have k3 : w2.cell? ⟨w.heap.size, 3, none⟩ = some (.string x.s) := HBX2.out.cell 3
  have HSP2 := Lib.hid (HSP.out.later HB2.out)
  obtain ⟨Ab, cb, rfl, hbc, _, _⟩ := HST2.out
  have HC := Lib.hid (fun bv' w' hB' hS' hA' hNm' => HUP.out y ky (pre ++ [x]) post (p + 1) (bd ++ Tr.binds x 0) bv' w' L v (by omega) (by rw [HT.out, HE.out]; simp [Tr.F.flat]) (by rw [List.length_append, HP.out]; rfl) (by have := HO.out.2.1; rw [HE.out] at this; exact ⟨this.1, this.2.1, trivial⟩) hB' hS' hA' (by
    have h5 := HF.out.len
    have h6 := congrArg List.length HF.out.eq
    rw [List.length_map] at h6
    rw [List.length_append]; omega) (by rw [List.length_cons]; omega) hNm')
  clear HUP HT HO HP HBW HNM HST HX HND HSP hpT
  go_wp2_with fail
  refine wp_region_plan (S := fun w' => w'.cell? ⟨gk, 0, none⟩ = some (.int .i64 ((p + 1 : Nat) : Int)) ∧ w'.cell? ⟨w.heap.size, 3, none⟩ = some (.string x.s))
    [(0, true), (1, true), (2, true), (3, true), (4, true), (5, true), (6, true), (7, true), (8, true), (9, true), (10, true), (11, true), (14, true), (12, false), (13, false), (15, false)] (by kernel_rfl) (by kernel_rfl) (by kernel_rfl) (fun _ _ _ _ _ h => h) ⟨q0, k3⟩ ?_
  intro HS
  repeat (first | (apply wpPlan_look; rfl; rfl; (intro wq hq; (try dsimp only at hq); go_split_ands; go_simp; (try rw [if_neg (by omega)]); (try rw [if_pos (by omega)]); try with_reducible rfl); simp only [Act.put, List.setIfInBounds_toArray, List.set_cons_zero, List.set_cons_succ]) | (apply wpPlan_skip; rfl; rfl; simp only [Act.put, List.setIfInBounds_toArray, List.set_cons_zero, List.set_cons_succ]) | (apply wpPlan_pass; rfl; rfl; assumption; simp only [Act.put, List.setIfInBounds_toArray, List.set_cons_zero, List.set_cons_succ]))
  apply wpPlan_call; rfl; rfl; rfl; rfl; kernel_rfl; exact Tryz.strings_Fields x.s _ (by have := HF.out.size; omega) HF.out.ascii HSP2.out; rfl; rintro e w' ⟨rfl, rfl⟩
  have hb4 : Below w2.heap.size w2 (w2.drew.alloc (.cells ((Lib.fields x.s.data.toList).map fun l => Value.string ⟨l.toArray⟩).toArray 9)) := (Below.refl _ _).drew.alloc (Nat.le_refl _) _
  have q4 := cell_later hb4 q0
  have r4 := cell_later hb4 k3
  refine ⟨_, rfl, as_S ⟨q4, r4⟩ ?_⟩
  intro _
  simp only [Act.put, List.setIfInBounds_toArray, List.set_cons_zero, List.set_cons_succ]
  have hfl := HF.out.len
  obtain ⟨v5, w5, hrun, hown5, hg5⟩ := run_append_strs (P := Tryz.prog) (t := 25) (ty := 25) (e := 9) Tryz.underlying25 strings_info rfl (HST2.out.later hb4) w2.heap.size (Lib.fields x.s.data.toList).length (Lib.fields x.s.data.toList).length ((Lib.fields x.s.data.toList).map (fun l => (⟨l.toArray⟩ : ByteArray))) (by rw [List.length_map]) hfl.1 (fields_cell rfl) (by omega) (by omega)
  rw [HF.out.eq] at hown5
  have hb5 : Below w2.heap.size w2 w5 := hb4.grown hg5 hb4.size fun k hk => by cases hk
  have q5 := cell_later hb5 q0
  have r5 := cell_later hb5 k3
  refine wpPlan_run rfl rfl (exec_append rfl rfl rfl rfl hrun) _ (fun _ h => h) ⟨q5, r5⟩ ?_
  simp only [Act.put, List.setIfInBounds_toArray, List.set_cons_zero, List.set_cons_succ]
  have HNM5 := Lib.hid (HNM2.out.later hb5)
  have HBW5 := Lib.hid (below_later hb5 HBW2.out)
  have hAp5 : Culp.Apart v5 v := apart_base hown5 fun g hg => by
    have := (HNM2.out.own.lt g hg).2
    have := hb4.size
    omega
  have HC5 := Lib.hid (HC.out v5 w5 HBW5.out (Nms.own hown5) hAp5 HNM5.out)
  have HKW5 := Lib.hid (own_later HKW1.out hb5)
  have HBX5 : Hid (Box w.heap.size x w5) := Lib.hid ((hb5.block _ HBX2.out.lt).trans HBX2.out)
  have HB5 := Lib.hid (below_later hb5 HB2.out)
  obtain ⟨A5, c5, rfl⟩ := own_shape hown5
  clear hb4 hb5 hown5 hg5 hrun hAp5 q4 r4 HC hfl
  apply wpPlan_call; rfl; rfl; rfl; rfl; kernel_rfl; exact HC5.out; rfl; rintro e w6 ⟨rfl, v6, hNM6, hKN6, hV6⟩
  have q6 := (own_get (own_keepN hKN6 HKW5.out HNM5.out.one HNM5.out.own rfl) (i := 0) rfl).1
  have r6 := (HBX5.out.keepN hKN6 HNM5.out.one (by decide) HNM5.out.own rfl).cell 3
  refine ⟨_, rfl, as_S ⟨q6, r6⟩ ?_⟩
  intro _
  have HR : Hid (NamesRes 25 9 a W.heap.size (Tr.addAll L vs) v.ownBlock w (.returned (.tuple #[])) w6) := Lib.hid (by
    rw [HVL.out]
    exact NamesRes.after (KeepN.of a _ HB5.out) (.inl rfl) ⟨rfl, v6, hNM6, hKN6, hV6⟩)
  clear hNM6 hKN6 hV6 q6 r6 HC5 HNM5 HKW5 HBX5 HB5
  simp only [Act.put, List.setIfInBounds_toArray, List.set_cons_zero, List.set_cons_succ]
  apply wpPlan_done
  go_wp2_with fail
  exact bodyPost_end (v := .tuple #[]) (by simp [results, Tryz.results27, go_sem]) rfl HR.out
end
end Go.Proofs.YtebameiaeldfiaaGreatDoor

/- Walks of trees: the free names of a let; of any part; of a tree. -/
namespace Go.Proofs.YtebameiaeldfiaaGreatDoor
set_option linter.unusedSimpArgs false
set_option linter.unusedVariables false
open Go.RowKit Go.Maps Culp

theorem build_s (w : World) (s : ByteArray) : (Instr.buildSlice 25 1 #[(0, .string s)]).run Tryz.prog w = .ok (.slice (some ⟨w.heap.size, 0, none⟩) 1 1) (w.alloc (.cells #[.string s] 9)) := by
  simp [go_sem, Instr.buildSlice, run_underlying Tryz.underlying25]
theorem one_cell {w : World} {B : Nat} {t : TypeId} {v : Value} (hB : w.heap.size = B) : (w.alloc (.cells #[v] t)).cell? ⟨B, 0, none⟩ = some v := by
  subst hB
  rw [World.cell?_alloc_at _ _ _ _ rfl]
  rfl
section
variable (T : List Nd) (tv : Value) (W : World) (a n : Nat) (hN : Nodes W tv T) (hTl : T.length ≤ 1000000) (ha : W.heap.size ≤ a)
  (x : Nd) (ks : Tr.F) (pre post : List Nd) (p : Nat) (bd : List ByteArray) (bv : Value) (w : World) (L : List ByteArray) (v : Value)
  (hT : T = pre ++ x :: (ks.flat ++ post)) (hp : pre.length = p) (hO : (Tr.F.cons x ks .nil).Ok) (hB : Below W.heap.size W w) (hS : Nms w bv bd) (hAp : Culp.Apart bv v) (hbd : bd.length + 2 * ks.hgt ≤ 1000000) (hL : L.length + (x :: ks.flat).length ≤ 1000000)
  (hNm : NamesAt 25 9 a W.heap.size L v w) (hup : FreeUp T tv W a n) (hh : ks.hgt ≤ n)
include hN hTl ha hT hp hO hB hS hAp hbd hL hNm hup hh
set_option maxRecDepth 100000 in
set_option maxHeartbeats 3200000 in
theorem free_let (hk : x.kind = 8) (h1 : ks.cnt = 2) : Calls Tryz.prog 27 #[tv, .int .i64 p, bv, .func (.func 28) #[] #[.pointer (some ⟨a, 0, none⟩)]] w
      (NamesRes 25 9 a W.heap.size (Tr.addAll L ((Tr.F.cons x ks .nil).vars (fun _ => bd) 0)) v.ownBlock w) := by
  obtain ⟨y, ky, z, kz, he⟩ := Tr.F.cnt_two h1
  have HVL : Hid (Tr.addAll L ((Tr.F.cons x ks .nil).vars (fun _ => bd) 0) = Tr.addAll (Tr.addAll L ((Tr.F.cons y ky .nil).vars (fun _ => bd) 0)) ((Tr.F.cons z kz .nil).vars (fun _ => bd ++ [x.s]) 0)) := Lib.hid (by
    rw [Tr.F.vars_one (by omega), he, Tr.F.vars_first, Tr.addAll_append, Tr.binds_let0 hk, List.append_nil]
    congr 1
    exact Tr.F.vars_congr _ _ _ _ _ fun i hi => by
      simp only [Tr.F.cnt] at hi
      obtain rfl : i = 0 := by omega
      rw [show 0 + 1 + 0 = 1 from rfl, Tr.binds_let1 hk])
  have hL1 : L.length + (ky.flat.length + kz.flat.length + 3) ≤ 1000000 := by rw [he] at hL; simp only [Tr.F.flat, List.append_nil, List.length_cons, List.length_append] at hL; omega
  have hLe := Tr.addAll_len ((Tr.F.cons y ky .nil).vars (fun _ => bd) 0) L
  have hvl := Tr.F.vars_len (Tr.F.cons y ky .nil) (fun _ => bd) 0
  simp only [Tr.F.flat, List.append_nil, List.length_cons] at hvl
  generalize Tr.addAll L ((Tr.F.cons x ks .nil).vars (fun _ => bd) 0) = LL at *
  have e4 : (x.kind == 4) = false := by rw [hk]; rfl
  have e5 : (x.kind == 5) = false := by rw [hk]; rfl
  have e6 : (x.kind == 6) = false := by rw [hk]; rfl
  have e8 : (x.kind == 8) = true := by rw [hk]; rfl
  have HUP := Lib.hid hup
  have hg0 : ky.hgt + 1 ≤ ks.hgt := by rw [he]; simp only [Tr.F.hgt]; omega
  have hg1 : kz.hgt + 1 ≤ ks.hgt := by rw [he]; simp only [Tr.F.hgt]; omega
  have HE := Lib.hid he
  have HCN := Lib.hid h1
  clear hk h1 hup he hL
  have HND : Hid (Nodes w tv T) := Lib.hid (hN.later hB)
  have hx : T[p]? = some x := by rw [hT, ← hp]; simp
  have hpT : p < T.length := (List.getElem?_eq_some_iff.1 hx).1
  have HKD := Lib.hid (fun w' (hb : Below w.heap.size w w') => tKids_any T tv (p : Int) w' (HND.out.later hb) hTl)
  have HKS : Hid (Tr.kidsOf T (p : Int) = ks.places (p + 1)) := Lib.hid (by have := Tr.F.kids_at hT hO; rw [hp] at this; exact this)
  have HNM := Lib.hid hNm
  have HBW := Lib.hid hB
  have HST := Lib.hid hS
  have HAP := Lib.hid hAp
  have HT := Lib.hid hT
  have HO := Lib.hid hO
  have HP := Lib.hid hp
  have HX := Lib.hid hx
  have HWN := Lib.hid hN
  obtain ⟨A, c, rfl, hlc, hNN⟩ := HND.out
  obtain ⟨b, off, rfl, hM⟩ := hNN (by omega)
  obtain ⟨n0, n1, n2, n3, n4, n5, n6, n7⟩ := hM.at_ hx
  have HB : Hid (Below w.heap.size w (w.alloc (.cells #[.int .i8 x.kind, .int .i64 x.kids, .int .i64 x.n, .string x.s, .string x.t, .string x.u, .int .i64 x.line, .int .i64 x.col] 63))) := Lib.hid ((Below.refl _ _).alloc (Nat.le_refl _) _)
  have HBX : Hid (Box w.heap.size x (w.alloc (.cells #[.int .i8 x.kind, .int .i64 x.kids, .int .i64 x.n, .string x.s, .string x.t, .string x.u, .int .i64 x.line, .int .i64 x.col] 63))) := Lib.hid (MapKept.heap_alloc w _).1
  clear hM hNN hS hAp hT hO hp hx hN hB hNm
  go_enter Tryz.func27, Tryz.ntmps27
  go_wp2_with fail
  refine (HKD.out _ HB.out).mono ?_
  rintro e w2 ⟨kv, rfl, hown, hb2⟩
  rw [HKS.out, Tr.F.places_len] at hown
  have HBX2 : Hid (Box w.heap.size x w2) := Lib.hid ((hb2.block _ HBX.out.lt).trans HBX.out)
  have HKW : Hid (w2.ownsRow (w.heap.size + 1) 3 1 kv ks.cnt ((ks.places (p + 1)).map natV)) := Lib.hid (by simpa using hown)
  obtain ⟨Ak, ck, rfl⟩ := own_shape hown
  have HB2 := Lib.hid (below_later hb2 HB.out)
  have HST2 := Lib.hid (HST.out.later HB2.out)
  have HNM2 := Lib.hid (HNM.out.later HB2.out)
  have HBW2 := Lib.hid (below_later HB2.out HBW.out)
  have k0 : w2.cell? ⟨w.heap.size, 0, none⟩ = some (.int .i8 x.kind) := HBX2.out.cell 0
  clear hown hb2 n0 n1 n2 n3 n4 n5 n6 n7 HBX HB HKD
  have HKW1 : Hid (w2.ownsRow (w.heap.size + 1) 3 1 (.slice Ak 2 ck) 2 [.int .i64 ((p + 1 : Nat) : Int), .int .i64 ((p + 1 + 1 + ky.flat.length : Nat) : Int)]) := Lib.hid (by have := HKW.out; rw [HE.out] at this; exact this)
  rw [HCN.out]
  clear HKW
  obtain ⟨gk, _, e1, q0, q1⟩ := own_two HKW1.out rfl
  simp only [Value.slice.injEq] at e1
  obtain ⟨rfl, _, rfl⟩ := e1
  have k3 : w2.cell? ⟨w.heap.size, 3, none⟩ = some (.string x.s) := HBX2.out.cell 3
  have HC := Lib.hid (HUP.out y ky (pre ++ [x]) (z :: (kz.flat ++ post)) (p + 1) bd bv w2 L v (by omega) (by rw [HT.out, HE.out]; simp [Tr.F.flat]) (by rw [List.length_append, HP.out]; rfl) (by have := HO.out.2.1; rw [HE.out] at this; exact ⟨this.1, this.2.1, trivial⟩) HBW2.out HST2.out HAP.out (by omega) (by rw [List.length_cons]; omega) HNM2.out)
  generalize Tr.addAll L ((Tr.F.cons y ky .nil).vars (fun _ => bd) 0) = L1 at *
  have HD := Lib.hid (fun bv' w' v' hB' hS' hA' hNm' => HUP.out z kz (pre ++ x :: y :: ky.flat) post (p + 1 + 1 + ky.flat.length) (bd ++ [x.s]) bv' w' L1 v' (by omega) (by rw [HT.out, HE.out]; simp [Tr.F.flat]) (by rw [List.length_append, List.length_cons, List.length_cons, HP.out]; omega) (by have := HO.out.2.1; rw [HE.out] at this; exact ⟨this.2.2.1, this.2.2.2.1, trivial⟩) hB' hS' hA' (by rw [List.length_append, List.length_singleton]; omega) (by rw [List.length_cons]; omega) hNm')
  clear HUP HT HO HP HBW HNM HST HX HND hpT hvl hLe
  obtain ⟨Ab, cb, rfl, hbc, _, _⟩ := HST2.out
  go_wp2_with fail
  refine HC.out.mono ?_
  rintro e w3 ⟨rfl, v1, hNM3, hKN3, hU3⟩
  have HNM3 := Lib.hid hNM3
  have HST3 : Hid (Nms w3 (.slice Ab bd.length cb) bd) := Lib.hid (HST2.out.keep hKN3 HNM2.out.one (by
    obtain ⟨A9, c9, h9⟩ := own_shape HNM2.out.own
    intro s hs
    rw [h9] at hs
    cases hs) HAP.out)
  have HKN3 : Hid (KeepN a v.ownBlock w w3) := Lib.hid ((KeepN.of a _ HB2.out).trans hKN3 (.inl rfl))
  have HU3 : Hid (v1.ownBlock = v.ownBlock ∨ ∃ b, v1.ownBlock = some b ∧ w.heap.size ≤ b) := Lib.hid (by
    have := HB2.out.size
    rcases hU3 with e | ⟨b, e, hb⟩
    · exact .inl e
    · exact .inr ⟨b, e, by omega⟩)
  have HKW3 := Lib.hid (own_keepN hKN3 HKW1.out HNM2.out.one HNM2.out.own rfl)
  have HBX3 : Hid (Box w.heap.size x w3) := Lib.hid (HBX2.out.keepN hKN3 HNM2.out.one (by decide) HNM2.out.own rfl)
  have HBW3 : Hid (Below W.heap.size W w3) := Lib.hid (hKN3.below HBW2.out HBW2.out.size ha HNM2.out.base)
  have q1 := (own_get HKW3.out (i := 1) rfl).1
  have k3 := HBX3.out.cell 3
  have k0 := HBX3.out.cell 0
  clear hNM3 hKN3 hU3 HC HNM2 HST2 HAP HB2 HKW1 HBW2 HBX2 q0
  go_wp2_with fail
  refine wp_region_plan (S := fun w' => w'.cell? ⟨gk, 1, none⟩ = some (.int .i64 ((p + 1 + 1 + ky.flat.length : Nat) : Int)) ∧ w'.cell? ⟨w.heap.size, 3, none⟩ = some (.string x.s))
    [(0, true), (1, true), (2, true), (3, true), (4, true), (5, true), (6, true), (7, true), (8, true), (9, true), (10, true), (11, true), (14, true), (12, false), (13, false), (15, false)] (by kernel_rfl) (by kernel_rfl) (by kernel_rfl) (fun _ _ _ _ _ h => h) ⟨q1, k3⟩ ?_
  intro HS
  repeat (first | (apply wpPlan_look; rfl; rfl; (intro wq hq; (try dsimp only at hq); go_split_ands; go_simp; (try rw [if_neg (by omega)]); (try rw [if_pos (by omega)]); try with_reducible rfl); simp only [Act.put, List.setIfInBounds_toArray, List.set_cons_zero, List.set_cons_succ]) | (apply wpPlan_skip; rfl; rfl; simp only [Act.put, List.setIfInBounds_toArray, List.set_cons_zero, List.set_cons_succ]) | (apply wpPlan_pass; rfl; rfl; assumption; simp only [Act.put, List.setIfInBounds_toArray, List.set_cons_zero, List.set_cons_succ]))
  have hb4 : Below w3.heap.size w3 (w3.drew.alloc (.cells #[Value.string x.s] 9)) := (Below.refl _ _).drew.alloc (Nat.le_refl _) _
  have q4 := cell_later hb4 q1
  have r4 := cell_later hb4 k3
  refine wpPlan_run rfl rfl (by simp [execOp, go_sem, build_s]; (first | exact ⟨rfl, rfl⟩ | rfl)) _ (fun _ h => h) ⟨q4, r4⟩ ?_
  simp only [Act.put, List.setIfInBounds_toArray, List.set_cons_zero, List.set_cons_succ]
  obtain ⟨v5, w5, hrun, hown5, hg5⟩ := run_append_strs (P := Tryz.prog) (t := 25) (ty := 25) (e := 9) Tryz.underlying25 strings_info rfl (HST3.out.later hb4) w3.heap.size 1 1 [x.s] rfl (by decide) (fun j s hj => by
    match j, hj with
    | 0, hj => simp at hj; subst hj; exact one_cell rfl
    | j + 1, hj => simp at hj) (by omega) (by omega)
  have hb5 : Below w3.heap.size w3 w5 := hb4.grown hg5 hb4.size fun k hk => by cases hk
  have q5 := cell_later hb5 q1
  have r5 := cell_later hb5 k3
  refine wpPlan_run rfl rfl (exec_append rfl rfl rfl rfl hrun) _ (fun _ h => h) ⟨q5, r5⟩ ?_
  simp only [Act.put, List.setIfInBounds_toArray, List.set_cons_zero, List.set_cons_succ]
  have HNM5 := Lib.hid (HNM3.out.later hb5)
  have HBW5 := Lib.hid (below_later hb5 HBW3.out)
  have hAp5 : Culp.Apart v5 v1 := apart_base hown5 fun g hg => by
    have := (HNM3.out.own.lt g hg).2
    have := hb4.size
    omega
  have HC5 := Lib.hid (HD.out v5 w5 v1 HBW5.out (Nms.own hown5) hAp5 HNM5.out)
  have HKW5 := Lib.hid (own_later HKW3.out hb5)
  have HBX5 : Hid (Box w.heap.size x w5) := Lib.hid ((hb5.block _ HBX3.out.lt).trans HBX3.out)
  have HKN5 : Hid (KeepN a v.ownBlock w w5) := Lib.hid (HKN3.out.trans (KeepN.of a _ hb5) HU3.out)
  obtain ⟨A5, c5, rfl⟩ := own_shape hown5
  clear hb4 hb5 hown5 hg5 hrun hAp5 q4 r4 HD
  apply wpPlan_call; rfl; rfl; rfl; rfl; kernel_rfl; exact HC5.out; rfl; rintro e w6 ⟨rfl, v6, hNM6, hKN6, hV6⟩
  have q6 := (own_get (own_keepN hKN6 HKW5.out HNM5.out.one HNM5.out.own rfl) (i := 1) rfl).1
  have r6 := (HBX5.out.keepN hKN6 HNM5.out.one (by decide) HNM5.out.own rfl).cell 3
  refine ⟨_, rfl, as_S ⟨q6, r6⟩ ?_⟩
  intro _
  have HR : Hid (NamesRes 25 9 a W.heap.size LL v.ownBlock w (.returned (.tuple #[])) w6) := Lib.hid (by
    rw [HVL.out]
    exact NamesRes.after HKN5.out HU3.out ⟨rfl, v6, hNM6, hKN6, hV6⟩)
  clear hNM6 hKN6 hV6 q6 r6 HC5 HNM5 HKW5 HBX5 HKN5
  simp only [Act.put, List.setIfInBounds_toArray, List.set_cons_zero, List.set_cons_succ]
  apply wpPlan_done
  go_wp2_with fail
  exact bodyPost_end (v := .tuple #[]) (by simp [results, Tryz.results27, go_sem]) rfl HR.out
end
/-- The free names of any part. -/
theorem free_up (T : List Nd) (tv : Value) (W : World) (a : Nat) (hN : Nodes W tv T) (hTl : T.length ≤ 1000000) (ha : W.heap.size ≤ a) (hSp : Sp W) (hm : ∀ y ∈ T, Tr.may y = true) : ∀ n, FreeUp T tv W a n
  | 0 => fun x ks pre post p bd bv w L v hh => absurd hh (Nat.not_lt_zero _)
  | n + 1 => fun x ks pre post p bd bv w L v hh hT hp hO hB hS hA hbd hL hNm => by
    have hx : Tr.may x = true := hm x (by rw [hT]; simp)
    have ih := free_up T tv W a hN hTl ha hSp hm n
    by_cases h4 : x.kind = 4
    · exact free_v T tv W a hN hTl x ks pre post p bd bv w L v hT hp hO hB hS hA hbd hL hNm h4
    by_cases h5 : x.kind = 5
    · exact free_f5 T tv W a n hN hTl hSp x ks pre post p bd bv w L v hT hp hO hB hS hA hbd hL hNm ih (by omega) h5 (Tr.fld_of hx (.inl h5)) (Tr.kids_of_may hx hO 1 (by rw [h5]; rfl))
    by_cases h6 : x.kind = 6
    · exact free_f6 T tv W a n hN hTl hSp x ks pre post p bd bv w L v hT hp hO hB hS hA hbd hL hNm ih (by omega) h6 (Tr.fld_of hx (.inr h6)) (Tr.kids_of_may hx hO 1 (by rw [h6]; rfl))
    by_cases h8 : x.kind = 8
    · exact free_let T tv W a n hN hTl ha x ks pre post p bd bv w L v hT hp hO hB hS hA hbd hL hNm ih (by omega) h8 (Tr.kids_of_may hx hO 2 (by rw [h8]; rfl))
    · exact free_p T tv W a n hN hTl ha x ks pre post p bd bv w L v hT hp hO hB hS hA hbd hL hNm ih (by omega) h4 h5 h6 h8
/-- Names, in a row of the call's own. -/
def NmsRes (L : List ByteArray) (w : World) (e : Ending) (w' : World) : Prop := ∃ v, e = .returned v ∧ w'.ownsRow w.heap.size 9 1 v L.length (L.map Value.string) ∧ Below w.heap.size w w'
set_option maxRecDepth 100000 in
set_option maxHeartbeats 1600000 in
theorem Free_bad (T : List Nd) (tv : Value) (w : World) (hn : Nodes w tv T) (hS : Sp w) (hz : ∀ x ∈ T, x.s.size ≤ 140737488351232) (hk : ∀ x ∈ T, x.kids ≤ 9223372036854775807) (hc : (Tr.check T).1 ≠ 0) : Calls Tryz.prog 7 #[tv] w (NmsRes [] w) := by
  have HCK := Lib.hid (tCheck_any T tv w hn hS hz hk)
  have e0 := neq_lit (z := 0) (show ((Tr.check T).1 : Int) ≠ 0 by omega)
  generalize Tr.check T = c at *
  clear hc hz hk
  go_enter Tryz.func7, Tryz.ntmps7
  go_wp2_with fail
  refine HCK.out.mono ?_
  rintro e w1 ⟨rfl, hb1⟩
  have HB1 := Lib.hid hb1
  clear hb1 HCK
  go_wp2_with fail
  go_ret
  exact ⟨_, rfl, World.ownsRow_nil _ _ _ _, HB1.out⟩
set_option maxRecDepth 100000 in
set_option maxHeartbeats 1600000 in
theorem Free_ok (T : List Nd) (tv : Value) (x : Nd) (ks : Tr.F) (w : World) (hn : Nodes w tv T) (hS : Sp w) (hT : T.length ≤ 4096) (hz : ∀ x ∈ T, x.s.size ≤ 140737488351232) (hk : ∀ x ∈ T, x.kids ≤ 9223372036854775807) (hc : Tr.check T = (0, 0)) (he : T = x :: ks.flat) (hO : (Tr.F.cons x ks .nil).Ok) (hm : ∀ y ∈ T, Tr.may y = true) (hh : ks.hgt + 1 ≤ 64) :
    Calls Tryz.prog 7 #[tv] w (NmsRes (Tr.F.free x ks) w) := by
  have hmf : ∀ (fn : Fn) (first cap : Array Value) (w : World), (Instr.makeFunc fn first cap).run Tryz.prog w = .ok (.func fn first cap) w := fun _ _ _ _ => rfl
  have HCK := Lib.hid (tCheck_any T tv w hn hS hz hk)
  rw [hc] at HCK
  have HN := Lib.hid hn
  have HS := Lib.hid hS
  have HM := Lib.hid hm
  have HO := Lib.hid hO
  have HE := Lib.hid he
  have HL : Hid ((x :: ks.flat).length ≤ 4096) := Lib.hid (by rw [← he]; exact hT)
  clear hz hk hc hO hm hn hS he
  go_enter Tryz.func7, Tryz.ntmps7
  go_wp2_with fail
  refine HCK.out.mono ?_
  rintro e w1 ⟨rfl, hb1⟩
  have HB1 := Lib.hid hb1
  have HN1 := Lib.hid (HN.out.later hb1)
  have HS1 := Lib.hid (HS.out.later hb1)
  have hb2 : Below w1.heap.size w1 (w1.alloc (.cells #[.slice none 0 0] 25)) := (Below.refl _ _).alloc (Nat.le_refl _) _
  have HB2 := Lib.hid hb2
  have HNM : Hid (NamesAt 25 9 w1.heap.size w1.heap.size [] (.slice none 0 0) (w1.alloc (.cells #[.slice none 0 0] 25))) := Lib.hid ⟨one_alloc w1 25 (.slice none 0 0), World.ownsRow_nil _ _ _ _⟩
  clear hb1 hb2 HCK
  go_wp2_with fail
  refine (free_up T tv w1 w1.heap.size HN1.out (by omega) (Nat.le_refl _) HS1.out HM.out (ks.hgt + 1) x ks [] [] 0 [] (.slice none 0 0) _ [] (.slice none 0 0) (Nat.lt_succ_self _) (by rw [HE.out]; simp) rfl HO.out HB2.out (Nms.nil _) (fun k hk => by cases hk) (by rw [List.length_nil]; omega) (by have := HL.out; rw [List.length_nil]; omega) HNM.out).mono ?_
  rintro e w3 ⟨rfl, v3, hNM3, hKN3, _⟩
  obtain ⟨A3, c3, rfl⟩ := own_shape hNM3.own
  have q0 : w3.cell? ⟨w1.heap.size, 0, none⟩ = some (.slice A3 (Tr.F.free x ks).length c3) := hNM3.one.cell
  have HB3 : Hid (Below w1.heap.size w1 w3) := Lib.hid (hKN3.below HB2.out (by have := HB2.out.size; exact this) (Nat.le_refl _) (fun k hk => by cases hk))
  have HO3 : Hid (w3.ownsRow w1.heap.size 9 1 (.slice A3 (Tr.F.free x ks).length c3) (Tr.F.free x ks).length ((Tr.F.free x ks).map Value.string)) := Lib.hid hNM3.own
  clear hNM3 hKN3 HNM HB2
  go_wp2_with fail
  go_ret
  exact ⟨_, rfl, own_base HO3.out HB1.out.size, below_later HB3.out HB1.out⟩
end Go.Proofs.YtebameiaeldfiaaGreatDoor

/- Walks of trees: what a node binds; names that are gathered. -/
namespace Culp
set_option linter.unusedSimpArgs false
set_option linter.unusedVariables false
open Go Go.RowKit
theorem grown_trans {a b c : World} {o o1 : Option Nat} (h : a.grownBy b o) (k : b.grownBy c o1) (ho : o1 = o ∨ ∃ x, o1 = some x ∧ a.heap.size ≤ x) : a.grownBy c o where
  os := k.os.trans h.os
  tape := k.tape.trans h.tape
  output := k.output.trans h.output
  size := Nat.le_trans h.size k.size
  block := fun i hi hne => by
    refine (k.block i (Nat.lt_of_lt_of_le hi h.size) ?_).trans (h.block i hi hne)
    rcases ho with rfl | ⟨x, rfl, hx⟩
    · exact hne
    · intro he
      injection he with he
      omega
theorem grown_below {a b : World} {o : Option Nat} (h : Below a.heap.size a b) : a.grownBy b o where
  os := h.os
  tape := h.tape
  output := h.output
  size := h.size
  block := fun i hi _ => h.block i hi
theorem grown_more {a b c : World} {o : Option Nat} (h : a.grownBy b o) (k : Below b.heap.size b c) : a.grownBy c o where
  os := k.os.trans h.os
  tape := k.tape.trans h.tape
  output := k.output.trans h.output
  size := Nat.le_trans h.size k.size
  block := fun i hi hne => (k.block i (Nat.lt_of_lt_of_le hi h.size)).trans (h.block i hi hne)
end Culp
namespace Culp.Tr
set_option linter.unusedSimpArgs false
set_option linter.unusedVariables false
theorem binds_six {x : Nd} (h6 : x.kind = 6) {a b : List UInt8} (h : two x.s.data.toList = some (a, b)) : binds x 0 = [⟨a.toArray⟩, ⟨b.toArray⟩] := by
  unfold binds
  rw [if_neg (by omega), if_pos h6, h]
theorem binds_any {x : Nd} (h8 : x.kind ≠ 8) (k : Nat) : binds x k = binds x 0 := by
  unfold binds
  rw [if_neg (c := x.kind = 8 ∧ k = 1) (fun h => h8 h.1), if_neg (c := x.kind = 8 ∧ 0 = 1) (fun h => h8 h.1)]
theorem binds_let_ne {x : Nd} (h8 : x.kind = 8) {k : Nat} (hk : k ≠ 1) : binds x k = [] := by
  unfold binds
  rw [if_neg (by omega), if_neg (by omega), if_neg (fun h => hk h.2)]
/-- Names behind others, but those that are bound. -/
def behindAll (L M bd : List ByteArray) : List ByteArray := addAll L (M.filter fun s => decide (s ∉ bd))
theorem behind_nil (L bd : List ByteArray) : behindAll L [] bd = L := rfl
theorem behind_known {L M bd : List ByteArray} {s : ByteArray} (h : s ∈ L ∨ s ∈ bd) : behindAll L (s :: M) bd = behindAll L M bd := by
  unfold behindAll
  by_cases hb : s ∈ bd
  · rw [List.filter_cons_of_neg (by simp [hb])]
  · rw [List.filter_cons_of_pos (by simp [hb]), addAll_cons]
    congr 1
    unfold add1
    rw [if_pos (by rcases h with h | h; exact h; exact absurd h hb)]
theorem behind_new {L M bd : List ByteArray} {s : ByteArray} (h1 : s ∉ L) (h2 : s ∉ bd) : behindAll L (s :: M) bd = behindAll (L ++ [s]) M bd := by
  unfold behindAll
  rw [List.filter_cons_of_pos (by simp [h2]), addAll_cons]
  congr 1
  unfold add1
  rw [if_neg h1]
end Culp.Tr
namespace Go.Proofs.YtebameiaeldfiaaGreatDoor
set_option linter.unusedSimpArgs false
set_option linter.unusedVariables false
open Go.RowKit Go.Maps Culp

theorem build_s2 (w : World) (s t : ByteArray) : (Instr.buildSlice 25 2 #[(0, .string s), (1, .string t)]).run Tryz.prog w = .ok (.slice (some ⟨w.heap.size, 0, none⟩) 2 2) (w.alloc (.cells #[.string s, .string t] 9)) := by
  simp [go_sem, Instr.buildSlice, run_underlying Tryz.underlying25]
theorem row_lit (w : World) (B g : Nat) (cs : Array Value) (e : TypeId) (n : Nat) (hB : B ≤ w.heap.size) (hg : w.heap.size = g) (hn : n ≤ 100) (hs : cs.size = n) : (w.alloc (.cells cs e)).ownsRow B e 1 (.slice (some ⟨g, 0, none⟩) n n) n cs.toList := by
  subst hg
  exact World.ownsRow_lit w cs n hB (by unfold maxLen; omega) (by rw [hs, Nat.mul_one])
/-- What the walk of Binds asks of the node: that the names of a function that calls itself are told. -/
def Bd (x : Nd) : Prop := x.s.size ≤ 140737488351232 ∧ (x.kind = 6 → Tr.two x.s.data.toList ≠ none)
set_option maxRecDepth 100000 in
set_option maxHeartbeats 1600000 in
theorem Binds_any (x : Nd) (k : Nat) (w : World) (hx : Bd x) : Calls Tryz.prog 67 #[x.val, .int .i64 k] w (NmsRes (Tr.binds x k) w) := by
  have HX := Lib.hid hx
  clear hx
  unfold Nd.val Nd.cells
  by_cases h5 : x.kind = 5
  · have e5 : (x.kind == 5) = true := by rw [h5]; rfl
    have HV : Hid (Tr.binds x k = [x.s]) := Lib.hid (by unfold Tr.binds; rw [if_pos h5])
    clear h5
    go_enter Tryz.func67, Tryz.ntmps67
    go_wp2_with fail
    go_ret
    exact ⟨.slice (some ⟨w.heap.size + 1, 0, none⟩) 1 1, rfl, by rw [HV.out]; exact row_lit _ _ _ #[.string x.s] _ 1 (by simp) (by simp) (by omega) rfl, ((Below.refl _ _).alloc (Nat.le_refl _) _).alloc (by simp) _⟩
  have e5 : (x.kind == 5) = false := beq_no h5
  by_cases h6 : x.kind = 6
  · have e6 : (x.kind == 6) = true := by rw [h6]; rfl
    obtain ⟨⟨a, b⟩, hab⟩ := Option.ne_none_iff_exists'.1 (HX.out.2 h6)
    have HV : Hid (Tr.binds x k = [⟨a.toArray⟩, ⟨b.toArray⟩]) := Lib.hid (by rw [Tr.binds_any (by omega), Tr.binds_six h6 hab])
    have HAB := Lib.hid hab
    have HB0 : Hid (Below w.heap.size w (w.alloc (.cells #[.int .i8 x.kind, .int .i64 x.kids, .int .i64 x.n, .string x.s, .string x.t, .string x.u, .int .i64 x.line, .int .i64 x.col] 63))) := Lib.hid ((Below.refl _ _).alloc (Nat.le_refl _) _)
    clear h5 h6 hab
    go_enter Tryz.func67, Tryz.ntmps67
    go_wp2_with fail
    refine (rTwo_names x.s _ HX.out.1).mono ?_
    rintro e w1 ⟨s, t, rfl, hst, hb1⟩
    obtain ⟨rfl, rfl⟩ := hst a b HAB.out
    have HB1 := Lib.hid (below_later hb1 HB0.out)
    clear hst hb1
    go_wp2_with fail
    go_ret
    exact ⟨_, rfl, by rw [HV.out]; exact World.ownsRow_lit w1 #[.string ⟨a.toArray⟩, .string ⟨b.toArray⟩] 2 HB1.out.size (by unfold maxLen; omega) rfl, HB1.out.alloc HB1.out.size _⟩
  have e6 : (x.kind == 6) = false := beq_no h6
  by_cases h8 : x.kind = 8
  · have e8 : (x.kind == 8) = true := by rw [h8]; rfl
    by_cases hk : k = 1
    · have HV : Hid (Tr.binds x k = [x.s]) := Lib.hid (by rw [hk, Tr.binds_let1 h8])
      have ek : ((k : Int) == 1) = true := eq_lit (by omega)
      clear h5 h6 h8 hk
      go_enter Tryz.func67, Tryz.ntmps67
      go_wp2_with fail
      go_ret
      exact ⟨.slice (some ⟨w.heap.size + 1, 0, none⟩) 1 1, rfl, by rw [HV.out]; exact row_lit _ _ _ #[.string x.s] _ 1 (by simp) (by simp) (by omega) rfl, ((Below.refl _ _).alloc (Nat.le_refl _) _).alloc (by simp) _⟩
    · have HV : Hid (Tr.binds x k = []) := Lib.hid (Tr.binds_let_ne h8 hk)
      have ek : ((k : Int) == 1) = false := ne_lit (by omega)
      clear h5 h6 h8 hk
      go_enter Tryz.func67, Tryz.ntmps67
      go_wp2_with fail
      go_ret
      exact ⟨_, rfl, by rw [HV.out]; exact World.ownsRow_nil _ _ _ _, (Below.refl _ _).alloc (Nat.le_refl _) _⟩
  · have e8 : (x.kind == 8) = false := beq_no h8
    have HV : Hid (Tr.binds x k = []) := Lib.hid (Tr.binds_plain h5 h6 h8 k)
    clear h5 h6 h8
    go_enter Tryz.func67, Tryz.ntmps67
    go_wp2_with fail
    go_ret
    exact ⟨_, rfl, by rw [HV.out]; exact World.ownsRow_nil _ _ _ _, (Below.refl _ _).alloc (Nat.le_refl _) _⟩
end Go.Proofs.YtebameiaeldfiaaGreatDoor

/- Walks of trees: names behind others, but those that are bound. -/
namespace Go.Proofs.YtebameiaeldfiaaGreatDoor
set_option linter.unusedSimpArgs false
set_option linter.unusedVariables false
open Go.RowKit Go.Maps Culp

/-- What the list of names is after more were put behind it. -/
def WoRes (B : Nat) (L : List ByteArray) (o : Option Nat) (w : World) (e : Ending) (w' : World) : Prop :=
  ∃ v', e = .returned v' ∧ w'.ownsRow B 9 1 v' L.length (L.map Value.string) ∧ w.grownBy w' o ∧ (v'.ownBlock = o ∨ ∃ b, v'.ownBlock = some b ∧ w.heap.size ≤ b)
theorem Nms.at_ {w : World} {v : Value} {L : List ByteArray} (h : Nms w v L) {k : Nat} (hk : k < L.length) : ∃ g c, v = .slice (some ⟨g, 0, none⟩) L.length c ∧ w.cell? ⟨g, k, none⟩ = some (.string L[k]) := by
  obtain ⟨A, c, rfl, _, h3, h4⟩ := h
  cases A with
  | none =>
    obtain ⟨h, _⟩ := h3 rfl
    subst h
    simp at hk
  | some b =>
    obtain ⟨g, rfl, _, hc⟩ := h4 b rfl
    exact ⟨g, c, rfl, hc k _ (List.getElem?_eq_getElem hk)⟩
theorem Nms.form {w : World} {v : Value} {L : List ByteArray} (h : Nms w v L) : ∃ A c, v = .slice A L.length c := by
  obtain ⟨A, c, rfl, _⟩ := h
  exact ⟨A, c, rfl⟩
theorem Nms.grown {w w1 : World} {v u : Value} {L : List ByteArray} (h : Nms w v L) (hg : w.grownBy w1 u.ownBlock) (hA : Culp.Apart v u) : Nms w1 v L := by
  obtain ⟨A, c, rfl, h2, h3, h4⟩ := h
  refine ⟨A, c, rfl, h2, h3, fun b hb => ?_⟩
  obtain ⟨g, rfl, hlt, hc⟩ := h4 b hb
  subst hb
  refine ⟨g, rfl, Nat.lt_of_lt_of_le hlt hg.size, fun j s hj => ?_⟩
  rw [World.cell?_of_block (w := w) (hg.block g hlt (fun e => hA g rfl e.symm))]
  exact hc j s hj
theorem bytes_yes {s t : ByteArray} (h : s = t) : (s.toList == t.toList) = true := by rw [h]; exact beq_self_eq_true _
theorem bytes_no {s t : ByteArray} (h : s ≠ t) : (s.toList == t.toList) = false := beq_eq_false_iff_ne.2 (by rw [toL', toL']; exact fun he => h (str_inj' he))
end Go.Proofs.YtebameiaeldfiaaGreatDoor

/- The walk of the statement TreeWhole: what it leans on. -/
namespace Culp.Tr
set_option linter.unusedSimpArgs false
set_option linter.unusedVariables false
/-- Each node of a tree that may be, with its part. -/
theorem whole_at {T : List Nd} {x0 : Nd} {k0 : F} (hT : T = x0 :: k0.flat) (hO : (F.cons x0 k0 .nil).Ok) (hh : k0.hgt + 1 ≤ 64) {q : Nat} (hq : q < T.length) :
    ∃ pre x ks post, T = pre ++ x :: (ks.flat ++ post) ∧ pre.length = q ∧ (F.cons x ks .nil).Ok ∧ ks.hgt + 1 ≤ 64 := by
  have hf : (F.cons x0 k0 .nil).flat = T := by rw [hT]; simp [F.flat]
  obtain ⟨pre, x, ks, post, h1, h2, h3, h4⟩ := F.at_place (F.cons x0 k0 .nil) q hO (by rw [hf]; exact hq)
  rw [hf] at h1
  rw [F.hgt_one] at h4
  exact ⟨pre, x, ks, post, h1, h2, h3, by omega⟩
theorem bd_of {x : Nd} (h : may x = true) (hs : x.s.size ≤ 140737488351232) : x.s.size ≤ 140737488351232 ∧ (x.kind = 6 → two x.s.data.toList ≠ none) := by
  refine ⟨hs, fun h6 => ?_⟩
  have h2 : sOk x.kind x.s.data.toList = true := by
    unfold may at h
    simp only [Bool.and_eq_true] at h
    exact h.1.1.2
  rw [h6] at h2
  have h3 : twoOk x.s.data.toList = true := h2
  unfold twoOk at h3
  intro hn
  rw [hn] at h3
  cases h3
theorem arit_kids {x : Nd} {ks : F} (h : may x = true) (hO : (F.cons x ks .nil).Ok) : decide (0 ≤ arit x.kind) = false ∨ (decide (0 ≤ arit x.kind) = true ∧ max (arit x.kind) 0 = (ks.cnt : Int)) := by
  unfold may kOk at h
  simp only [Bool.and_eq_true, decide_eq_true_eq, Bool.or_eq_true] at h
  have h1 := hO.1
  rcases h.1.1.1.1.2 with h2 | h2
  · exact .inl (decide_eq_false (by omega))
  · exact .inr ⟨decide_eq_true (by omega), by omega⟩
theorem part_take {T pre post : List Nd} {y : Nd} {ky : F} (h : T = pre ++ y :: (ky.flat ++ post)) : (T.drop pre.length).take (1 + ky.flat.length) = y :: ky.flat := by
  rw [h, List.drop_left, Nat.add_comm, List.take_succ_cons, List.take_left]
end Culp.Tr
namespace Go.Proofs.YtebameiaeldfiaaGreatDoor
set_option linter.unusedSimpArgs false
set_option linter.unusedVariables false
open Go.RowKit Go.Maps Culp

/-- Some nodes of a list, from a place on. -/
theorem Nodes.cut {w : World} {b off n c : Nat} {T S : List Nd} (h : Nodes w (.slice (some ⟨b, off, none⟩) n c) T) (p m k : Nat) (hS : (T.drop p).take m = S) (hm : S.length = m) (hk : m ≤ k) : Nodes w (.slice (some ⟨b, off + p * 8, none⟩) m k) S := by
  obtain ⟨A, c', e1, h2, h3⟩ := h
  simp only [Value.slice.injEq] at e1
  obtain ⟨rfl, _, rfl⟩ := e1
  refine ⟨_, k, by rw [hm], by omega, fun h0 => ⟨b, off + p * 8, rfl, fun i x hx j u hu => ?_⟩⟩
  have hx2 : T[p + i]? = some x := by
    rw [← hS, List.getElem?_take] at hx
    split at hx
    · rwa [List.getElem?_drop] at hx
    · cases hx
  obtain ⟨b', off', e2, hM⟩ := h3 (by have := (List.getElem?_eq_some_iff.1 hx2).1; omega)
  simp only [Option.some.injEq, Addr.mk.injEq] at e2
  obtain ⟨rfl, rfl, _⟩ := e2
  have := hM (p + i) x hx2 j u hu
  rw [show off + p * 8 + i * 8 + j = off + (p + i) * 8 + j by omega]
  exact this
theorem nodes_cells {w : World} {b off n c : Nat} {T : List Nd} {q : Nat} {x : Nd} (h : Nodes w (.slice (some ⟨b, off, none⟩) n c) T) (hx : T[q]? = some x) :
    w.cell? ⟨b, off + q * 8, none⟩ = some (.int .i8 x.kind) ∧ w.cell? ⟨b, off + q * 8 + 1, none⟩ = some (.int .i64 x.kids) ∧ w.cell? ⟨b, off + q * 8 + 2, none⟩ = some (.int .i64 x.n) ∧ w.cell? ⟨b, off + q * 8 + 3, none⟩ = some (.string x.s) ∧
    w.cell? ⟨b, off + q * 8 + 4, none⟩ = some (.string x.t) ∧ w.cell? ⟨b, off + q * 8 + 5, none⟩ = some (.string x.u) ∧ w.cell? ⟨b, off + q * 8 + 6, none⟩ = some (.int .i64 x.line) ∧ w.cell? ⟨b, off + q * 8 + 7, none⟩ = some (.int .i64 x.col) := by
  obtain ⟨A, c', e1, _, h3⟩ := h
  simp only [Value.slice.injEq] at e1
  obtain ⟨rfl, _, rfl⟩ := e1
  obtain ⟨b', off', e2, hM⟩ := h3 (by have := (List.getElem?_eq_some_iff.1 hx).1; omega)
  simp only [Option.some.injEq, Addr.mk.injEq] at e2
  obtain ⟨rfl, rfl, _⟩ := e2
  exact hM.at_ hx
set_option maxRecDepth 100000 in
set_option maxHeartbeats 1600000 in
theorem EqTexts_same (D : List ByteArray) (u v : Value) (w : World) (hu : Nms w u D) (hv : Nms w v D) (hD : D.length ≤ 1000000000) :
    Calls Tryz.prog 10 #[u, v] w (Makes (.bool true) w) := by
  have HU := Lib.hid hu
  have HV := Lib.hid hv
  obtain ⟨A, c, rfl⟩ := hu.form
  obtain ⟨B, d, rfl⟩ := hv.form
  clear hu hv
  go_enter Tryz.func10, Tryz.ntmps10
  go_wp2_with fail
  go_loopw [5] (fun i wr => ∃ k : Nat, k ≤ D.length ∧ i = .int .i64 k ∧ Hid (Below w.heap.size w wr)) (fun i _ => D.length - (intOf i).toNat)
  case atStart => exact ⟨0, Nat.zero_le _, rfl, Lib.hid (Below.refl _ _)⟩
  case round =>
    obtain ⟨k, hk, rfl, HB⟩ := hrel
    by_cases hlt : k < D.length
    · obtain ⟨g, _, e1, a0⟩ := (HU.out.later HB.out).at_ hlt
      obtain ⟨g2, _, e2, b0⟩ := (HV.out.later HB.out).at_ hlt
      simp only [Value.slice.injEq] at e1 e2
      obtain ⟨rfl, _, rfl⟩ := e1
      obtain ⟨rfl, _, rfl⟩ := e2
      generalize D[k] = x at *
      go_wp2_with fail
      refine wp_region_plan (S := fun w' => w'.cell? ⟨g, k, none⟩ = some (.string x) ∧ w'.cell? ⟨g2, k, none⟩ = some (.string x))
        [(0, true), (1, true), (2, true), (3, true), (4, true), (5, true), (6, true), (7, true), (8, true)] (by kernel_rfl) (by kernel_rfl) (by kernel_rfl) (fun _ _ _ _ _ h => h) ⟨a0, b0⟩ ?_
      clear a0 b0
      intro HP
      repeat (first | (apply wpPlan_look; rfl; rfl; (intro wq hq; (try dsimp only at hq); go_split_ands; go_simp; (try rw [if_neg (by omega)]); (try rw [if_pos (by omega)]); try with_reducible rfl); simp only [Act.put, List.setIfInBounds_toArray, List.set_cons_zero, List.set_cons_succ]) | (apply wpPlan_skip; rfl; rfl; simp only [Act.put, List.setIfInBounds_toArray, List.set_cons_zero, List.set_cons_succ]) | (apply wpPlan_pass; rfl; rfl; assumption; simp only [Act.put, List.setIfInBounds_toArray, List.set_cons_zero, List.set_cons_succ]))
      apply wpPlan_done
      clear HP
      have HB2 := Lib.hid HB.out.drew
      go_wp2_with fail
      go_roundw
      case rel => exact ⟨k + 1, by omega, by go_num, HB2⟩
      case measure => simp [intOf]; omega
    · go_wp2_with fail
      go_ret
      exact Makes.mk rfl HB.out
end Go.Proofs.YtebameiaeldfiaaGreatDoor

/- Walks of trees, the document's: is a name bound above? -/
namespace Culp.Tr
set_option linter.unusedSimpArgs false
set_option linter.unusedVariables false
/-- The end of each node's part. -/
def ends (T : List Nd) : List Nat := (List.range T.length).map fun i : Nat => behind T (i : Int)
theorem ends_len (T : List Nd) : (ends T).length = T.length := by simp [ends]
theorem ends_at {T : List Nd} {i : Nat} (h : i < T.length) : (ends T)[i]? = some (behind T (i : Int)) := by simp [ends, h]
theorem bnd_no {T : List Nd} {i q : Nat} {s : ByteArray} (h : behind T (i : Int) ≤ q) : ¬ Bnd T i q s := by
  rintro ⟨x, _, h2, _⟩
  omega
end Culp.Tr
namespace Go.Proofs.YtebameiaeldfiaaGreatDoor
set_option linter.unusedSimpArgs false
set_option linter.unusedVariables false
open Go.RowKit Go.Maps Culp

/-- Is a name bound above a place? -/
def BoundRes (T : List Nd) (q : Nat) (s : ByteArray) (w : World) (e : Ending) (w' : World) : Prop :=
  (∃ b : Bool, e = .returned (.bool b) ∧ (b = true ↔ ∃ i, i < q ∧ Tr.Bnd T i q s)) ∧ Below w.heap.size w w'
theorem ends_cell {w w1 : World} {B g c : Nat} {T : List Nd} (h : w.ownsRow B 3 1 (.slice (some ⟨g, 0, none⟩) T.length c) T.length ((Tr.ends T).map natV)) (hb : Below w.heap.size w w1) {i : Nat} (hi : i < T.length) {m : Nat} (hm : Tr.behind T (i : Int) = m) : w1.cell? ⟨g, i, none⟩ = some (.int .i64 (m : Int)) := by
  subst hm
  exact (own_get (own_later h hb) (by rw [List.getElem?_map, Tr.ends_at hi]; rfl)).1
set_option maxRecDepth 100000 in
set_option maxHeartbeats 6400000 in
theorem bound_any (T : List Nd) (tv ev : Value) (Be q : Nat) (xq x0 : Nd) (k0 : Tr.F) (w : World) (hn : Nodes w tv T) (he : w.ownsRow Be 3 1 ev T.length ((Tr.ends T).map natV)) (hT0 : T = x0 :: k0.flat) (hO0 : (Tr.F.cons x0 k0 .nil).Ok) (hm : ∀ y ∈ T, Tr.may y = true) (hh : k0.hgt + 1 ≤ 64) (hz : ∀ y ∈ T, y.s.size ≤ 140737488351232) (hT : T.length ≤ 4096) (hxq : T[q]? = some xq) :
    Calls Tryz.prog 31 #[tv, ev, .int .i64 q] w (BoundRes T q xq.s w) := by
  have HN := Lib.hid hn
  have hqT := (List.getElem?_eq_some_iff.1 hxq).1
  obtain ⟨ge, ce, rfl, -⟩ := own_read he (by omega)
  have HE := Lib.hid he
  have HT0 := Lib.hid hT0
  have HO0 := Lib.hid hO0
  have HM := Lib.hid hm
  have HZ := Lib.hid hz
  have HXQ := Lib.hid hxq
  obtain ⟨A, c, rfl, hlc, hNN⟩ := hn
  obtain ⟨b, off, rfl, _⟩ := hNN (by omega)
  clear he hT0 hO0 hm hz hxq hNN
  go_enter Tryz.func31, Tryz.ntmps31
  go_wp2_with fail
  go_loopw [7] (fun i wr => ∃ i' : Nat, i' ≤ q ∧ i = .int .i64 i' ∧ Hid (∀ i, i < i' → ¬ Tr.Bnd T i q xq.s) ∧ Hid (Below w.heap.size w wr)) (fun i _ => q - (intOf i).toNat)
  case atStart => exact ⟨0, Nat.zero_le _, rfl, Lib.hid (fun i hi => by omega), Lib.hid (Below.refl _ _)⟩
  case round =>
    obtain ⟨i, hi, rfl, HI, HB⟩ := hrel
    obtain ⟨wi, rfl⟩ : ∃ wi, wi = wr := ⟨_, rfl⟩
    by_cases hlt : i < q
    rotate_left
    · obtain rfl : i = q := by omega
      have HR : Hid (BoundRes T i xq.s w (.returned (.bool false)) wi) := Lib.hid ⟨⟨false, rfl, by
        simp only [Bool.false_eq_true, false_iff]
        rintro ⟨j, h1, h2⟩
        exact HI.out j h1 h2⟩, HB.out⟩
      clear HI
      go_wp2_with fail
      go_ret
      exact HR.out
    have hiT : i < T.length := by omega
    obtain ⟨pre, x, ks, post, hTT, hp, hO, hh2⟩ := Tr.whole_at HT0.out HO0.out hh hiT
    have hx : T[i]? = some x := by rw [hTT, ← hp]; simp
    have HBH : Hid (Tr.behind T (i : Int) = i + 1 + ks.flat.length) := Lib.hid (by have := Tr.F.behind_at hTT hO; rw [hp] at this; exact this)
    have HKS : Hid (Tr.kidsOf T (i : Int) = ks.places (i + 1)) := Lib.hid (by have := Tr.F.kids_at hTT hO; rw [hp] at this; exact this)
    have e0 := ends_cell HE.out HB.out hiT HBH.out
    obtain ⟨en, hen0⟩ : ∃ en, i + 1 + ks.flat.length = en := ⟨_, rfl⟩
    rw [hen0] at e0 HBH
    have HX := Lib.hid hx
    have HTT := Lib.hid hTT
    have HP := Lib.hid hp
    have HOX := Lib.hid hO
    have HBD : Hid (Bd x) := Lib.hid (Tr.bd_of (HM.out x (List.mem_of_getElem? hx)) (HZ.out x (List.mem_of_getElem? hx)))
    have HEN := Lib.hid hen0
    have hkids : x.kids = (ks.cnt : Int) := hO.1.symm
    have HKI := Lib.hid hkids
    have hcl := Tr.F.cnt_le ks
    have hTl : pre.length + (1 + (ks.flat.length + post.length)) = T.length := by rw [hTT]; simp; omega
    have hcn : ks.cnt ≤ 4096 := by omega
    clear hTT hp hO hh2 hx hen0 hkids hcl hTl
    by_cases hen : en ≤ q
    · have HI2 : Hid (∀ j, j < i + 1 → ¬ Tr.Bnd T j q xq.s) := Lib.hid (fun j hj => by
        rcases Nat.lt_or_ge j i with h | h
        · exact HI.out j h
        · obtain rfl : j = i := by omega
          exact Tr.bnd_no (by rw [HBH.out]; exact hen))
      clear HI
      go_wp2_with fail
      go_roundw
      case rel => exact ⟨i + 1, by omega, by go_num, HI2, HB⟩
      case measure => simp [intOf]; omega
    have hen2 : q < en := by omega
    go_wp2_with fail
    clear e0
    go_loopw [8, 9] (fun kd ki wx => ∃ (k p' : Nat) (r : Tr.F) (pr : List Nd), kd = .int .i64 p' ∧ ki = .int .i64 k ∧ k + r.cnt = ks.cnt ∧ p' ≤ T.length ∧ Hid (pr.length = p') ∧ Hid (T = pr ++ (r.flat ++ post)) ∧ Hid r.Ok ∧ Hid (∀ j, (r.places p')[j]? = (ks.places (i + 1))[k + j]?) ∧ Hid (∀ kk, kk < k → ∀ kp, (ks.places (i + 1))[kk]? = some kp → kp ≤ q → q < Tr.behind T (kp : Int) → xq.s ∉ Tr.binds x kk) ∧ Hid (Below w.heap.size w wx)) (fun _ ki _ => ks.cnt - (intOf ki).toNat)
    case atStart => exact ⟨0, i + 1, ks, pre ++ [x], by go_num, rfl, by omega, by omega, Lib.hid (by rw [List.length_append, HP.out]; rfl), Lib.hid (by rw [HTT.out]; simp), Lib.hid HOX.out.2.1, Lib.hid (fun j => by rw [Nat.zero_add]), Lib.hid (fun kk hkk => by omega), HB⟩
    case round =>
      clear HB
      obtain ⟨k, p', r, pr, rfl, rfl, hk, hpT0, HPP, HTR, HOr, HKP, HNO, HB⟩ := hrel
      obtain ⟨wk, rfl⟩ : ∃ wk, wk = wr := ⟨_, rfl⟩
      have n1 := (HN.out.later HB.out)
      obtain ⟨A9, c9, e9, _, h9⟩ := n1
      simp only [Value.slice.injEq] at e9
      obtain ⟨rfl, _, rfl⟩ := e9
      obtain ⟨b9, off9, e9, hM9⟩ := h9 (by omega)
      simp only [Option.some.injEq, Addr.mk.injEq] at e9
      obtain ⟨rfl, rfl, _⟩ := e9
      obtain ⟨m0, m1, m2, m3, m4, m5, m6, m7⟩ := hM9.at_ HX.out
      rw [HKI.out] at m1
      clear h9 hM9
      cases r with
      | nil =>
        have hkc : k = ks.cnt := by simp only [Tr.F.cnt] at hk; omega
        have HI2 : Hid (∀ j, j < i + 1 → ¬ Tr.Bnd T j q xq.s) := Lib.hid (fun j hj => by
          rcases Nat.lt_or_ge j i with h | h
          · exact HI.out j h
          · obtain rfl : j = i := by omega
            rintro ⟨z, hz, _, kk, kp, h1, h2, h3, h4⟩
            rw [HX.out] at hz
            injection hz with hz
            subst hz
            rw [HKS.out] at h1
            have h5 := (List.getElem?_eq_some_iff.1 h1).1
            rw [Tr.F.places_len] at h5
            exact HNO.out kk (by omega) kp h1 h2 h3 h4)
        subst hkc
        clear HI HNO HKP HOr HTR HPP hk
        go_wp2_with fail
        go_roundw
        case rel => exact ⟨i + 1, by omega, by go_num, HI2, HB⟩
        case measure => simp [intOf]; omega
      | cons y ky r' =>
        have hkl : k < ks.cnt := by simp only [Tr.F.cnt] at hk; omega
        have HTY : Hid (T = pr ++ y :: (ky.flat ++ (r'.flat ++ post))) := Lib.hid (by rw [HTR.out]; simp [Tr.F.flat])
        have HBY : Hid (Tr.behind T (p' : Int) = p' + 1 + ky.flat.length) := Lib.hid (by have := Tr.F.behind_at HTY.out ⟨HOr.out.1, HOr.out.2.1, trivial⟩; rw [HPP.out] at this; exact this)
        have hTl : p' + (1 + (ky.flat.length + (r'.flat.length + post.length))) = T.length := by
          have := congrArg List.length HTY.out
          simp only [List.length_append, List.length_cons] at this
          rw [HPP.out] at this
          omega
        have hpT : p' < T.length := by omega
        obtain ⟨nx, hnx0⟩ : ∃ nx, p' + 1 + ky.flat.length = nx := ⟨_, rfl⟩
        rw [hnx0] at HBY
        have HNX := Lib.hid hnx0
        have hnT : nx ≤ T.length := by omega
        clear hnx0 hTl
        by_cases hpq : p' ≤ q
        · have e0 := ends_cell HE.out HB.out hpT HBY.out
          by_cases hqn : q < nx
          · go_wp2_with fail
            rw [← HKI.out]
            refine (Binds_any x k _ HBD.out).mono ?_
            rintro e w5 ⟨bv, rfl, hO5, hb5⟩
            have HB5 := Lib.hid (below_later hb5 HB.out)
            have HBV := Lib.hid (Nms.own hO5)
            obtain ⟨Ab, cb, rfl⟩ := own_shape hO5
            have hbl : (Tr.binds x k).length ≤ 1000000 := by
              unfold Tr.binds
              split
              · simp
              split
              · split <;> simp
              split <;> simp
            clear hO5 hb5 e0 m0 m1 m2 m3 m4 m5 m6 m7 HB
            go_wp2_with fail
            go_loopw [11] (fun ji wy => ∃ j : Nat, j ≤ (Tr.binds x k).length ∧ ji = .int .i64 j ∧ Hid (xq.s ∉ (Tr.binds x k).take j) ∧ Hid (Below w5.heap.size w5 wy)) (fun ji _ => (Tr.binds x k).length - (intOf ji).toNat)
            case atStart => exact ⟨0, Nat.zero_le _, rfl, Lib.hid (by simp), Lib.hid (Below.refl _ _)⟩
            case round =>
              obtain ⟨j, hj, rfl, HJ, HBX⟩ := hrel
              have HB6 := Lib.hid (below_later HBX.out HB5.out)
              by_cases hjl : j < (Tr.binds x k).length
              · obtain ⟨gb, _, eb, y0⟩ := (HBV.out.later HBX.out).at_ hjl
                simp only [Value.slice.injEq] at eb
                obtain ⟨rfl, _, rfl⟩ := eb
                have HTK := Lib.hid (List.take_succ_eq_append_getElem hjl)
                have HMJ := Lib.hid (List.getElem_mem hjl)
                have n3 : wr.cell? ⟨b, off + q * 8 + 3, none⟩ = some (.string xq.s) := by
                  obtain ⟨A9, c9, e9, _, h9⟩ := HN.out.later HB6.out
                  simp only [Value.slice.injEq] at e9
                  obtain ⟨rfl, _, rfl⟩ := e9
                  obtain ⟨b9, off9, e9, hM9⟩ := h9 (by omega)
                  simp only [Option.some.injEq, Addr.mk.injEq] at e9
                  obtain ⟨rfl, rfl, _⟩ := e9
                  exact (hM9.at_ HXQ.out).2.2.2.1
                generalize (Tr.binds x k)[j] = t at *
                by_cases he : t = xq.s
                · have es := bytes_yes he
                  have HR : Hid (∀ w', Below w.heap.size w w' → BoundRes T q xq.s w (.returned (.bool true)) w') := Lib.hid (fun w' hw' => ⟨⟨true, rfl, by
                    simp only [true_iff]
                    exact ⟨i, hlt, x, HX.out, by rw [HBH.out]; exact hen2, k, p', by rw [HKS.out]; exact (HKP.out 0).symm, hpq, by rw [HBY.out]; exact hqn, by rw [← he]; exact HMJ.out⟩⟩, hw'⟩)
                  clear HJ he
                  go_wp2_with fail
                  refine wp_region_plan (S := fun w' => w'.cell? ⟨gb, j, none⟩ = some (.string t) ∧ w'.cell? ⟨b, off + q * 8 + 3, none⟩ = some (.string xq.s)) [(0, true), (1, true), (2, true), (3, true), (4, true), (5, true), (6, true), (7, true), (8, true), (9, true)] (by kernel_rfl) (by kernel_rfl) (by kernel_rfl) (fun _ _ _ _ _ h => h) ⟨y0, n3⟩ ?_
                  intro HS
                  repeat (first | (apply wpPlan_look; rfl; rfl; (intro wq hq; (try dsimp only at hq); go_split_ands; go_simp; (try rw [if_neg (by omega)]); (try rw [if_pos (by omega)]); try with_reducible rfl); simp only [Act.put, List.setIfInBounds_toArray, List.set_cons_zero, List.set_cons_succ]) | (apply wpPlan_skip; rfl; rfl; simp only [Act.put, List.setIfInBounds_toArray, List.set_cons_zero, List.set_cons_succ]) | (apply wpPlan_pass; rfl; rfl; assumption; simp only [Act.put, List.setIfInBounds_toArray, List.set_cons_zero, List.set_cons_succ]))
                  apply wpPlan_done
                  clear HS y0 n3
                  go_wp2_with fail
                  go_ret
                  exact HR.out _ (Below.drew HB6.out)
                · have es := bytes_no he
                  have HJ2 : Hid (xq.s ∉ (Tr.binds x k).take (j + 1)) := Lib.hid (by
                    rw [HTK.out, List.mem_append, List.mem_singleton]
                    rintro (h | h)
                    · exact HJ.out h
                    · exact he h.symm)
                  clear HJ he
                  go_wp2_with fail
                  refine wp_region_plan (S := fun w' => w'.cell? ⟨gb, j, none⟩ = some (.string t) ∧ w'.cell? ⟨b, off + q * 8 + 3, none⟩ = some (.string xq.s)) [(0, true), (1, true), (2, true), (3, true), (4, true), (5, true), (6, true), (7, true), (8, true), (9, true)] (by kernel_rfl) (by kernel_rfl) (by kernel_rfl) (fun _ _ _ _ _ h => h) ⟨y0, n3⟩ ?_
                  intro HS
                  repeat (first | (apply wpPlan_look; rfl; rfl; (intro wq hq; (try dsimp only at hq); go_split_ands; go_simp; (try rw [if_neg (by omega)]); (try rw [if_pos (by omega)]); try with_reducible rfl); simp only [Act.put, List.setIfInBounds_toArray, List.set_cons_zero, List.set_cons_succ]) | (apply wpPlan_skip; rfl; rfl; simp only [Act.put, List.setIfInBounds_toArray, List.set_cons_zero, List.set_cons_succ]) | (apply wpPlan_pass; rfl; rfl; assumption; simp only [Act.put, List.setIfInBounds_toArray, List.set_cons_zero, List.set_cons_succ]))
                  apply wpPlan_done
                  clear HS y0 n3
                  go_wp2_with fail
                  go_roundw
                  case rel => exact ⟨j + 1, by omega, by go_num, HJ2, Lib.hid (Below.drew HBX.out)⟩
                  case measure => simp [intOf]; omega
              · obtain rfl : j = (Tr.binds x k).length := by omega
                have HNB : Hid (xq.s ∉ Tr.binds x k) := Lib.hid (by have := HJ.out; rwa [List.take_length] at this)
                clear HJ
                have HNO' : Hid (∀ kk, kk < k + 1 → ∀ kp, (ks.places (i + 1))[kk]? = some kp → kp ≤ q → q < Tr.behind T (kp : Int) → xq.s ∉ Tr.binds x kk) := Lib.hid (fun kk hkk kp h1 h2 h3 => by
                  rcases Nat.lt_or_ge kk k with h | h
                  · exact HNO.out kk h kp h1 h2 h3
                  · obtain rfl : kk = k := by omega
                    have h4 : (ks.places (i + 1))[kk]? = some p' := (HKP.out 0).symm
                    rw [h4] at h1
                    obtain rfl := Option.some.inj h1
                    exact HNB.out)
                have HKP' : Hid (∀ j, (r'.places nx)[j]? = (ks.places (i + 1))[k + 1 + j]?) := Lib.hid (fun j => by
                  have := HKP.out (j + 1)
                  rw [show k + 1 + j = k + (j + 1) by omega, ← this, ← HNX.out]
                  rfl)
                have HT' : Hid (T = (pr ++ y :: ky.flat) ++ (r'.flat ++ post)) := Lib.hid (by rw [HTR.out]; simp [Tr.F.flat])
                have HO' : Hid r'.Ok := Lib.hid HOr.out.2.2
                have HP' : Hid ((pr ++ y :: ky.flat).length = nx) := Lib.hid (by rw [List.length_append, List.length_cons, HPP.out]; have := HNX.out; omega)
                have hk' : k + 1 + r'.cnt = ks.cnt := by simp only [Tr.F.cnt] at hk; omega
                have e0 := ends_cell HE.out HB6.out hpT HBY.out
                clear HNO HKP HTR HOr HPP HNX HTY HBY hk
                go_wp2_with fail
                go_roundw
                case rel => exact ⟨k + 1, nx, r', _, rfl, by go_num, hk', hnT, HP', HT', HO', HKP', HNO', HB6⟩
                case measure => simp [intOf]; omega
          · have hqn2 : nx ≤ q := by omega
            go_wp2_with fail
            clear e0
            have HNO' : Hid (∀ kk, kk < k + 1 → ∀ kp, (ks.places (i + 1))[kk]? = some kp → kp ≤ q → q < Tr.behind T (kp : Int) → xq.s ∉ Tr.binds x kk) := Lib.hid (fun kk hkk kp h1 h2 h3 => by
              rcases Nat.lt_or_ge kk k with h | h
              · exact HNO.out kk h kp h1 h2 h3
              · obtain rfl : kk = k := by omega
                have h4 : (ks.places (i + 1))[kk]? = some p' := (HKP.out 0).symm
                rw [h4] at h1
                obtain rfl := Option.some.inj h1
                exact absurd (Nat.lt_of_lt_of_eq h3 HBY.out) (Nat.not_lt.2 hqn2))
            have HKP' : Hid (∀ j, (r'.places nx)[j]? = (ks.places (i + 1))[k + 1 + j]?) := Lib.hid (fun j => by
              have := HKP.out (j + 1)
              rw [show k + 1 + j = k + (j + 1) by omega, ← this, ← HNX.out]
              rfl)
            have HT' : Hid (T = (pr ++ y :: ky.flat) ++ (r'.flat ++ post)) := Lib.hid (by rw [HTR.out]; simp [Tr.F.flat])
            have HO' : Hid r'.Ok := Lib.hid HOr.out.2.2
            have HP' : Hid ((pr ++ y :: ky.flat).length = nx) := Lib.hid (by rw [List.length_append, List.length_cons, HPP.out]; have := HNX.out; omega)
            have hk' : k + 1 + r'.cnt = ks.cnt := by simp only [Tr.F.cnt] at hk; omega
            have e0 := ends_cell HE.out HB.out hpT HBY.out
            clear HNO HKP HTR HOr HPP HNX HTY HBY hk
            go_wp2_with fail
            go_roundw
            case rel => exact ⟨k + 1, nx, r', _, rfl, by go_num, hk', hnT, HP', HT', HO', HKP', HNO', HB⟩
            case measure => simp [intOf]; omega
        · have hqp : q < p' := by omega
          have HNO' : Hid (∀ kk, kk < k + 1 → ∀ kp, (ks.places (i + 1))[kk]? = some kp → kp ≤ q → q < Tr.behind T (kp : Int) → xq.s ∉ Tr.binds x kk) := Lib.hid (fun kk hkk kp h1 h2 h3 => by
            rcases Nat.lt_or_ge kk k with h | h
            · exact HNO.out kk h kp h1 h2 h3
            · obtain rfl : kk = k := by omega
              have h4 : (ks.places (i + 1))[kk]? = some p' := (HKP.out 0).symm
              rw [h4] at h1
              obtain rfl := Option.some.inj h1
              omega)
          have HKP' : Hid (∀ j, (r'.places nx)[j]? = (ks.places (i + 1))[k + 1 + j]?) := Lib.hid (fun j => by
            have := HKP.out (j + 1)
            rw [show k + 1 + j = k + (j + 1) by omega, ← this, ← HNX.out]
            rfl)
          have HT' : Hid (T = (pr ++ y :: ky.flat) ++ (r'.flat ++ post)) := Lib.hid (by rw [HTR.out]; simp [Tr.F.flat])
          have HO' : Hid r'.Ok := Lib.hid HOr.out.2.2
          have HP' : Hid ((pr ++ y :: ky.flat).length = nx) := Lib.hid (by rw [List.length_append, List.length_cons, HPP.out]; have := HNX.out; omega)
          have hk' : k + 1 + r'.cnt = ks.cnt := by simp only [Tr.F.cnt] at hk; omega
          have e0 := ends_cell HE.out HB.out hpT HBY.out
          clear HNO HKP HTR HOr HPP HNX HTY HBY hk
          go_wp2_with fail
          go_roundw
          case rel => exact ⟨k + 1, nx, r', _, rfl, by go_num, hk', hnT, HP', HT', HO', HKP', HNO', HB⟩
          case measure => simp [intOf]; omega
end Go.Proofs.YtebameiaeldfiaaGreatDoor

/- Walks of trees, the document's: the free names of a tree. -/
namespace Culp.Tr
set_option linter.unusedSimpArgs false
set_option linter.unusedVariables false
theorem var_step {x y : Nd} {ks : F} {n : Nat} {L : List ByteArray} (hL : L = addAll [] (F.upto x ks n)) (h : (x :: ks.flat)[n]? = some y) : addAll [] (F.upto x ks (n + 1)) = addAll L (varAt y (F.bound x ks n)) := by
  rw [F.upto_succ h, addAll_append, hL]
theorem var_other {y : Nd} {b : List ByteArray} (h : y.kind ≠ 4) : varAt y b = [] := by unfold varAt; rw [if_neg h]
theorem var_in {y : Nd} {b : List ByteArray} (h : y.s ∈ b) : varAt y b = [] := by
  unfold varAt
  simp [h]
theorem var_out {y : Nd} {b : List ByteArray} (h4 : y.kind = 4) (h : y.s ∉ b) : varAt y b = [y.s] := by unfold varAt; rw [if_pos h4, if_neg h]
end Culp.Tr
namespace Go.Proofs.YtebameiaeldfiaaGreatDoor
set_option linter.unusedSimpArgs false
set_option linter.unusedVariables false
open Go.RowKit Go.Maps Culp

set_option maxRecDepth 100000 in
set_option maxHeartbeats 1600000 in
theorem rFree_bad (T : List Nd) (tv : Value) (w : World) (hn : Nodes w tv T) (hz : ∀ x ∈ T, x.s.size ≤ 140737488351232) (hk : ∀ x ∈ T, x.kids ≤ 9223372036854775807) (hc : (Tr.check T).1 ≠ 0) : Calls Tryz.prog 9 #[tv] w (NmsRes [] w) := by
  have HCK := Lib.hid (rCheck_any T tv w hn hz hk)
  have e0 := neq_lit (z := 0) (show ((Tr.check T).1 : Int) ≠ 0 by omega)
  generalize Tr.check T = c at *
  clear hc hz hk
  go_enter Tryz.func9, Tryz.ntmps9
  go_wp2_with fail
  refine HCK.out.mono ?_
  rintro e w1 ⟨rfl, hb1⟩
  have HB1 := Lib.hid hb1
  clear hb1 HCK
  go_wp2_with fail
  go_ret
  exact ⟨_, rfl, World.ownsRow_nil _ _ _ _, HB1.out⟩
set_option maxRecDepth 100000 in
set_option maxHeartbeats 6400000 in
theorem rFree_ok (T : List Nd) (tv : Value) (x0 : Nd) (k0 : Tr.F) (w : World) (hn : Nodes w tv T) (hT : T.length ≤ 4096) (hz : ∀ x ∈ T, x.s.size ≤ 140737488351232) (hk : ∀ x ∈ T, x.kids ≤ 9223372036854775807) (hc : Tr.check T = (0, 0)) (he : T = x0 :: k0.flat) (hO : (Tr.F.cons x0 k0 .nil).Ok) (hm : ∀ y ∈ T, Tr.may y = true) (hh : k0.hgt + 1 ≤ 64) :
    Calls Tryz.prog 9 #[tv] w (NmsRes (Tr.F.free x0 k0) w) := by
  have HCK := Lib.hid (rCheck_any T tv w hn hz hk)
  rw [hc] at HCK
  have HN := Lib.hid hn
  have HM := Lib.hid hm
  have HO := Lib.hid hO
  have HE := Lib.hid he
  have HZ := Lib.hid hz
  have HLF := Lib.hid (Tr.F.leafy_of (Tr.F.cons x0 k0 .nil) hO (by rw [show (Tr.F.cons x0 k0 .nil).flat = T by rw [he]; simp [Tr.F.flat]]; exact hm))
  have hT1 : 0 < T.length := by rw [he]; simp
  obtain ⟨A, c, rfl, hlc, hNN⟩ := hn
  obtain ⟨b, off, rfl, _⟩ := hNN hT1
  clear hz hk hc he hO hm hNN
  go_enter Tryz.func9, Tryz.ntmps9
  go_wp2_with fail
  refine HCK.out.mono ?_
  rintro e w1 ⟨rfl, hb1⟩
  have HB1 := Lib.hid hb1
  clear hb1 HCK
  go_wp2_with fail
  go_loopw [6, 7] (fun ev i wr => ∃ (k : Nat) (u : Value), u = ev ∧ i = .int .i64 k ∧ k ≤ T.length ∧ Hid (wr.ownsRow w.heap.size 3 1 u k (((Tr.ends T).take k).map natV)) ∧ Hid (Below w.heap.size w wr)) (fun _ i _ => T.length - (intOf i).toNat)
  case atStart => exact ⟨0, _, rfl, rfl, Nat.zero_le _, Lib.hid (World.ownsRow_nil _ _ _ _), HB1⟩
  case round =>
    clear HB1
    obtain ⟨k, u, rfl, rfl, hk, HOW, HB⟩ := hrel
    obtain ⟨w2, rfl⟩ : ∃ w2, w2 = wr := ⟨_, rfl⟩
    obtain ⟨Ae, ce, rfl⟩ := own_shape HOW.out
    by_cases hlt : k < T.length
    · have own4 := HOW.out
      have HTK : Hid (((Tr.ends T).take (k + 1)).map natV = ((Tr.ends T).take k).map natV ++ [.int .i64 ((Tr.behind T (k : Int) : Nat) : Int)]) := Lib.hid (by
        have hl : k < (Tr.ends T).length := by rw [Tr.ends_len]; exact hlt
        have he := Tr.ends_at hlt
        rw [List.getElem?_eq_getElem hl] at he
        injection he with he
        rw [List.take_succ_eq_append_getElem hl, List.map_append, he]
        rfl)
      clear HOW
      go_wp2_with fail
      refine (rBehind_any T _ (k : Int) _ (HN.out.later HB.out) (by omega)).mono ?_
      rintro e w' ⟨rfl, rfl⟩
      generalize Tr.behind T (k : Int) = bh at *
      go_wp2_with (at_builtin; refine append_agg rfl (.tmp 24) (.tmp 28) 68 3 rfl w.heap.size _ 1 8 Tryz.underlying68 int_info rfl (by decide) _ _ _ rfl own4 [.int .i64 (bh : Int)] rfl w2.heap.size rfl rfl ?_ ?_ ?_ ?_ ?_)
      · first
          | rfl
          | (intro y hy; simp only [List.mem_cons, List.not_mem_nil, or_false] at hy; subst hy; rfl)
      · omega
      · omega
      · exact HB.out.size
      intro v' w5 hown' hg' hb'
      have HO5 : Hid (w5.ownsRow w.heap.size 3 1 v' (k + 1) (((Tr.ends T).take (k + 1)).map natV)) := Lib.hid (by rw [HTK.out, List.map_take]; exact hown')
      have HB5 := Lib.hid (HB.out.trans hb')
      clear own4 hown' hg' hb' HB HTK
      go_wp2_with fail
      go_roundw
      case rel => exact ⟨k + 1, v', rfl, by go_num, by omega, HO5, HB5⟩
      case measure => simp [intOf]; omega
    have HEN : Hid (w2.ownsRow w.heap.size 3 1 (.slice Ae T.length ce) T.length ((Tr.ends T).map natV)) := Lib.hid (by
      obtain rfl : k = T.length := by omega
      have := HOW.out
      rwa [List.take_of_length_le (by rw [Tr.ends_len]; exact Nat.le_refl _)] at this)
    obtain rfl : k = T.length := by omega
    clear HOW
    go_wp2_with fail
    go_loopw [5, 8] (fun ov i wr => ∃ (k : Nat) (L : List ByteArray) (u : Value), u = ov ∧ i = .int .i64 k ∧ k ≤ T.length ∧ L.length ≤ k ∧ Hid (L = Tr.addAll [] (Tr.F.upto x0 k0 k)) ∧ Hid (wr.ownsRow w.heap.size 9 1 u L.length (L.map Value.string)) ∧ Hid (wr.ownsRow w.heap.size 3 1 (.slice Ae T.length ce) T.length ((Tr.ends T).map natV)) ∧ Hid (Below w.heap.size w wr)) (fun _ i _ => T.length - (intOf i).toNat)
    case atStart => exact ⟨0, [], _, rfl, rfl, Nat.zero_le _, Nat.le_refl _, Lib.hid rfl, Lib.hid (World.ownsRow_nil _ _ _ _), HEN, HB⟩
    case round =>
      clear HEN HB hk hlt
      obtain ⟨k, L, u, rfl, rfl, hk, hLk, HL, HOW, HEN, HB⟩ := hrel
      obtain ⟨w3, rfl⟩ : ∃ w3, w3 = wr := ⟨_, rfl⟩
      obtain ⟨Au, cu, rfl⟩ := own_shape HOW.out
      by_cases hlt : k < T.length
      rotate_left
      · have HL2 : Hid (L = Tr.F.free x0 k0) := Lib.hid (by
          obtain rfl : k = T.length := by omega
          rw [HL.out, HE.out, Tr.F.upto_all HLF.out])
        go_wp2_with fail
        go_ret
        exact ⟨_, rfl, by rw [← HL2.out]; exact HOW.out, HB.out⟩
      obtain ⟨x, hx⟩ : ∃ x, T[k]? = some x := ⟨_, List.getElem?_eq_getElem hlt⟩
      have HX := Lib.hid hx
      have HXE : Hid ((x0 :: k0.flat)[k]? = some x) := Lib.hid (by rw [← HE.out]; exact hx)
      have n9 := nodes_cells (HN.out.later HB.out) hx
      obtain ⟨n0, n1, n2, n3, n4, n5, n6, n7⟩ := n9
      have hkn : k < (x0 :: k0.flat).length := by rw [← HE.out]; exact hlt
      have HMB := Lib.hid (Tr.F.mem_bound (s := x.s) HO.out hkn)
      clear hx hkn
      by_cases h4 : x.kind = 4
      rotate_left
      · have e4 : (x.kind != 4) = true := by rw [bne, beq_no h4]; rfl
        have HL2 : Hid (L = Tr.addAll [] (Tr.F.upto x0 k0 (k + 1))) := Lib.hid (by rw [Tr.var_step HL.out HXE.out, Tr.var_other h4]; rfl)
        clear h4 HL HMB
        go_wp2_with fail
        go_roundw
        case rel => exact ⟨k + 1, L, _, rfl, by go_num, by omega, by omega, HL2, HOW, HEN, HB⟩
        case measure => simp [intOf]; omega
      have e4 : (x.kind != 4) = false := by rw [h4]; rfl
      have H4 := Lib.hid h4
      clear h4
      go_wp2_with fail
      refine (bound_any T _ _ w.heap.size k x x0 k0 _ (HN.out.later HB.out) HEN.out HE.out HO.out HM.out hh HZ.out (by omega) HX.out).mono ?_
      rintro e w4 ⟨⟨bb, rfl, hbb⟩, hb4⟩
      have HB4 := Lib.hid (below_later hb4 HB.out)
      have HOW4 := Lib.hid (own_later HOW.out hb4)
      have HEN4 := Lib.hid (own_later HEN.out hb4)
      have HBB : Hid (bb = true ↔ x.s ∈ Tr.F.bound x0 k0 k) := Lib.hid (by rw [HMB.out, ← HE.out]; exact hbb)
      clear hbb hb4 HB HOW HEN HMB n0 n1 n2 n3 n4 n5 n6 n7
      cases bb with
      | true =>
        have HL2 : Hid (L = Tr.addAll [] (Tr.F.upto x0 k0 (k + 1))) := Lib.hid (by rw [Tr.var_step HL.out HXE.out, Tr.var_in (HBB.out.1 rfl)]; rfl)
        clear HL HBB
        go_wp2_with fail
        go_roundw
        case rel => exact ⟨k + 1, L, _, rfl, by go_num, by omega, by omega, HL2, HOW4, HEN4, HB4⟩
        case measure => simp [intOf]; omega
      | false =>
        have HST : Hid (Tr.addAll [] (Tr.F.upto x0 k0 (k + 1)) = Tr.add1 L x.s) := Lib.hid (by
          rw [Tr.var_step HL.out HXE.out, Tr.var_out H4.out (by have := HBB.out; simp only [Bool.false_eq_true, false_iff] at this; exact this)]
          rfl)
        clear HL HBB
        go_wp2_with fail
        go_loopw [9, 10] (fun kn j wx => ∃ (m : Nat) (bb : Bool), m ≤ L.length ∧ j = .int .i64 m ∧ kn = .bool bb ∧ Hid (bb = true ↔ x.s ∈ L.take m) ∧ Hid (Below w4.heap.size w4 wx)) (fun _ j _ => L.length - (intOf j).toNat)
        case atStart => exact ⟨0, false, Nat.zero_le _, rfl, rfl, Lib.hid (by simp), Lib.hid (Below.refl _ _)⟩
        case round =>
          obtain ⟨m, bb, hm, rfl, rfl, HK, HBX⟩ := hrel
          have HB5 := Lib.hid (below_later HBX.out HB4.out)
          have n3 := (nodes_cells (HN.out.later HB5.out) HX.out).2.2.2.1
          by_cases hml : m < L.length
          · obtain ⟨go, _, ea, x1⟩ := (Nms.own (own_later HOW4.out HBX.out)).at_ hml
            simp only [Value.slice.injEq] at ea
            obtain ⟨rfl, _, rfl⟩ := ea
            have HTK := Lib.hid (List.take_succ_eq_append_getElem hml)
            generalize L[m] = t at *
            cases bb with
            | true =>
              have HK2 : Hid (true = true ↔ x.s ∈ L.take (m + 1)) := Lib.hid (by
                have := HK.out.1 rfl
                rw [HTK.out, List.mem_append]
                simp only [true_iff]
                exact .inl this)
              clear HK
              go_wp2_with fail
              refine wp_region_plan (S := fun w' => w'.cell? ⟨go, m, none⟩ = some (.string t) ∧ w'.cell? ⟨b, off + k * 8 + 3, none⟩ = some (.string x.s)) [(0, true), (1, true), (2, true), (3, true), (4, true), (5, true), (6, true), (7, true), (8, true), (9, true), (10, true), (11, true), (12, true), (13, true)] (by kernel_rfl) (by kernel_rfl) (by kernel_rfl) (fun _ _ _ _ _ h => h) ⟨x1, n3⟩ ?_
              intro HS
              repeat (first | (apply wpPlan_look; rfl; rfl; (intro wq hq; (try dsimp only at hq); go_split_ands; go_simp; (try rw [if_neg (by omega)]); (try rw [if_pos (by omega)]); try with_reducible rfl); simp only [Act.put, List.setIfInBounds_toArray, List.set_cons_zero, List.set_cons_succ]) | (apply wpPlan_skip; rfl; rfl; simp only [Act.put, List.setIfInBounds_toArray, List.set_cons_zero, List.set_cons_succ]) | (apply wpPlan_pass; rfl; rfl; assumption; simp only [Act.put, List.setIfInBounds_toArray, List.set_cons_zero, List.set_cons_succ]))
              apply wpPlan_done
              clear HS x1 n3
              go_wp2_with fail
              go_roundw
              case rel => exact ⟨m + 1, _, by omega, by go_num, rfl, Lib.hid (by have := HK2.out; simp only [true_iff, Bool.false_eq_true, false_iff] at this ⊢; exact this), Lib.hid (Below.drew HBX.out)⟩
              case measure => simp [intOf]; omega
            | false =>
              by_cases he : t = x.s
              · have es := bytes_yes he
                have HK2 : Hid (true = true ↔ x.s ∈ L.take (m + 1)) := Lib.hid (by
                  rw [HTK.out, List.mem_append, List.mem_singleton]
                  simp only [true_iff]
                  exact .inr he.symm)
                clear HK he
                go_wp2_with fail
                refine wp_region_plan (S := fun w' => w'.cell? ⟨go, m, none⟩ = some (.string t) ∧ w'.cell? ⟨b, off + k * 8 + 3, none⟩ = some (.string x.s)) [(0, true), (1, true), (2, true), (3, true), (4, true), (5, true), (6, true), (7, true), (8, true), (9, true), (10, true), (11, true), (12, true), (13, true)] (by kernel_rfl) (by kernel_rfl) (by kernel_rfl) (fun _ _ _ _ _ h => h) ⟨x1, n3⟩ ?_
                intro HS
                repeat (first | (apply wpPlan_look; rfl; rfl; (intro wq hq; (try dsimp only at hq); go_split_ands; go_simp; (try rw [if_neg (by omega)]); (try rw [if_pos (by omega)]); try with_reducible rfl); simp only [Act.put, List.setIfInBounds_toArray, List.set_cons_zero, List.set_cons_succ]) | (apply wpPlan_skip; rfl; rfl; simp only [Act.put, List.setIfInBounds_toArray, List.set_cons_zero, List.set_cons_succ]) | (apply wpPlan_pass; rfl; rfl; assumption; simp only [Act.put, List.setIfInBounds_toArray, List.set_cons_zero, List.set_cons_succ]))
                apply wpPlan_done
                clear HS x1 n3
                go_wp2_with fail
                go_roundw
                case rel => exact ⟨m + 1, _, by omega, by go_num, rfl, Lib.hid (by have := HK2.out; simp only [true_iff, Bool.false_eq_true, false_iff] at this ⊢; exact this), Lib.hid (Below.drew HBX.out)⟩
                case measure => simp [intOf]; omega
              · have es := bytes_no he
                have HK2 : Hid (false = true ↔ x.s ∈ L.take (m + 1)) := Lib.hid (by
                  rw [HTK.out, List.mem_append, List.mem_singleton]
                  have := HK.out
                  simp only [Bool.false_eq_true, false_iff, not_or] at this ⊢
                  exact ⟨this, fun h => he h.symm⟩)
                clear HK he
                go_wp2_with fail
                refine wp_region_plan (S := fun w' => w'.cell? ⟨go, m, none⟩ = some (.string t) ∧ w'.cell? ⟨b, off + k * 8 + 3, none⟩ = some (.string x.s)) [(0, true), (1, true), (2, true), (3, true), (4, true), (5, true), (6, true), (7, true), (8, true), (9, true), (10, true), (11, true), (12, true), (13, true)] (by kernel_rfl) (by kernel_rfl) (by kernel_rfl) (fun _ _ _ _ _ h => h) ⟨x1, n3⟩ ?_
                intro HS
                repeat (first | (apply wpPlan_look; rfl; rfl; (intro wq hq; (try dsimp only at hq); go_split_ands; go_simp; (try rw [if_neg (by omega)]); (try rw [if_pos (by omega)]); try with_reducible rfl); simp only [Act.put, List.setIfInBounds_toArray, List.set_cons_zero, List.set_cons_succ]) | (apply wpPlan_skip; rfl; rfl; simp only [Act.put, List.setIfInBounds_toArray, List.set_cons_zero, List.set_cons_succ]) | (apply wpPlan_pass; rfl; rfl; assumption; simp only [Act.put, List.setIfInBounds_toArray, List.set_cons_zero, List.set_cons_succ]))
                apply wpPlan_done
                clear HS x1 n3
                go_wp2_with fail
                go_roundw
                case rel => exact ⟨m + 1, _, by omega, by go_num, rfl, Lib.hid (by have := HK2.out; simp only [true_iff, Bool.false_eq_true, false_iff] at this ⊢; exact this), Lib.hid (Below.drew HBX.out)⟩
                case measure => simp [intOf]; omega
          · obtain rfl : m = L.length := by omega
            have HK4 : Hid (bb = true ↔ x.s ∈ L) := Lib.hid (by have := HK.out; rwa [List.take_length] at this)
            have HOW5 := Lib.hid (own_later HOW4.out HBX.out)
            have HEN5 := Lib.hid (own_later HEN4.out HBX.out)
            clear HK HOW4 HEN4
            cases bb with
            | true =>
              have HL2 : Hid (L = Tr.addAll [] (Tr.F.upto x0 k0 (k + 1))) := Lib.hid (by rw [HST.out]; unfold Tr.add1; rw [if_pos (HK4.out.1 rfl)])
              clear HST HK4 HBX n3
              go_wp2_with fail
              go_roundw
              case rel => exact ⟨k + 1, L, _, rfl, by go_num, by omega, by omega, HL2, HOW5, HEN5, HB5⟩
              case measure => simp [intOf]; omega
            | false =>
              have HL2 : Hid (L ++ [x.s] = Tr.addAll [] (Tr.F.upto x0 k0 (k + 1))) := Lib.hid (by
                rw [HST.out]; unfold Tr.add1
                rw [if_neg (by have := HK4.out; simp only [Bool.false_eq_true, false_iff] at this; exact this)])
              have own4 := HOW5.out
              have hBx : w.heap.size ≤ wr.heap.size := HB5.out.size
              clear HST HK4 HBX
              go_wp2_with (at_builtin; refine append_agg rfl (.tmp 69) (.tmp 75) 25 9 rfl w.heap.size _ 1 16 Tryz.underlying25 strings_info rfl (by decide) _ _ _ rfl own4 [.string x.s] rfl wr.heap.size rfl rfl ?_ ?_ ?_ hBx ?_)
              · first
                  | rfl
                  | (intro y hy; simp only [List.mem_cons, List.not_mem_nil, or_false] at hy; subst hy; rfl)
              · omega
              · omega
              intro v' w6 hown' hg' hb'
              have HO6 : Hid (w6.ownsRow w.heap.size 9 1 v' (L ++ [x.s]).length ((L ++ [x.s]).map Value.string)) := Lib.hid (by rw [List.length_append, List.map_append]; exact hown')
              have HEN6 := Lib.hid (own_apart_grown HEN5.out hg' (own_apart_type HOW5.out HEN5.out (by decide)))
              have HB6 := Lib.hid (HB5.out.trans hb')
              have hl6 : (L ++ [x.s]).length ≤ k + 1 := by rw [List.length_append, List.length_singleton]; omega
              clear hown' hg' hb' own4 HOW5 HEN5 HB5 n3
              go_wp2_with fail
              go_roundw
              case rel => exact ⟨k + 1, L ++ [x.s], v', rfl, by go_num, by omega, hl6, HL2, HO6, HEN6, HB6⟩
              case measure => simp [intOf]; omega
end Go.Proofs.YtebameiaeldfiaaGreatDoor
