
/- Walks of insert: the casts that If asks for. -/
import Derived.Test.YtdfadmhomjcmeaaGreatDoorNm
import Derived.Test.YtdfadmhomjcmeaaGreatDoorNz
namespace Go.Proofs.YtdfadmhomjcmeaaGreatDoor
set_option linter.unusedSimpArgs false
set_option linter.unusedVariables false
open Go.RowKit Culp
section
variable {W w : World} {c : Nat} {m : ByteArray} {tv yv sv kv : Value} {S : List Ins.Sit} {ys : List ByteArray} {T : List Nd} {x : Nd} {p p0 p1 p2 : Nat} {t0 t1 t2 : Ty} {Kl : List (Nat × Ty)}
set_option maxRecDepth 100000 in
set_option maxHeartbeats 1600000 in
theorem wishes_9 (hx : T[p]? = some x) (hk : x.kind = 9) (hN : Nodes W tv T) (hTl : T.length ≤ 1000000) (hK : KidsV c w kv (([(p0, t0), (p1, t1), (p2, t2)]).map Prod.fst)) (hT : Told ys ([(p0, t0), (p1, t1), (p2, t2)])) (hY : Nms W yv ys) (h : InAt W c m tv yv sv S w) (hM : Ins.MetC .dyn [t1, t2]):
    Calls Tryz.prog 68 #[.pointer (some ⟨c, 0, none⟩), .int .i64 (p : Int), kv] w (WishRes (([(p0, t0), (p1, t1), (p2, t2)]).map Prod.fst) ([(0, .bool, 5), (1, Ins.met [t1, t2], 6), (2, Ins.met [t1, t2], 7)]) w) := by
  have HI := Lib.hid h
  have HT := Lib.hid hT
  have HY := Lib.hid hY
  have hp := (List.getElem?_eq_some_iff.1 hx).1
  have c1 := h.c1
  obtain ⟨A, C, rfl, hlc, hNN⟩ := hN.later h.low
  obtain ⟨b, off, rfl, hM⟩ := hNN (by omega)
  obtain ⟨n0, n1, n2, n3, n4, n5, n6, n7⟩ := hM.at_ hx
  obtain ⟨k, kd, n, s, t, u, l, cl⟩ := x
  obtain rfl : k = 9 := hk
  obtain ⟨g, o, Ck, rfl, hlC, hg, hkc⟩ := hK.shape
  have HKS := Lib.hid hK
  have HKV := Lib.hid hkc
  have hlm : (([(p0, t0), (p1, t1), (p2, t2)] : List (Nat × Ty)).map Prod.fst).length = ([(p0, t0), (p1, t1), (p2, t2)] : List (Nat × Ty)).length := List.length_map _
  rw [hlm] at hlC HKS ⊢
  have HBX : Hid (Box w.heap.size (Nd.mk 9 kd n s t u l cl) (w.alloc (.cells #[.int .i8 9, .int .i64 kd, .int .i64 n, .string s, .string t, .string u, .int .i64 l, .int .i64 cl] 38))) := Lib.hid (MapKept.heap_alloc w _).1
  have HB0 := Lib.hid ((Below.refl w.heap.size w).alloc (Nat.le_refl _) (.cells #[.int .i8 9, .int .i64 kd, .int .i64 n, .string s, .string t, .string u, .int .i64 l, .int .i64 cl] 38))
  clear hM hNN hN h hx hT hY hkc hlm hK
  simp only at n0 n1 n2 n3 n4 n5 n6 n7
  have hC3 : 3 ≤ Ck := hlC
  have hne : ¬ Ck = 1 := by omega
  have HMT := Lib.hid (fun (w' : World) (hb : Below w.heap.size w w') (hI : InAt W c m (.slice (some ⟨b, off, none⟩) T.length C) yv sv S w') => imet_any [(p1, t1), (p2, t2)] (.slice (some ⟨g, o + 1, none⟩) 2 (Ck - 1)) (.inl ⟨g, o + 1, Ck - 1, 2, rfl, rfl, by omega, hg, fun j q hj => by
    have := HKV.out _ (Keep.of hb) (j + 1) q hj
    rwa [show o + (j + 1) = o + 1 + j by omega] at this⟩) (fun a ha => HT.out a (List.mem_cons_of_mem _ ha)) hM (by simp) HY.out hI)
  have HQ := Lib.hid (fun (w' : World) (hb : Below w.heap.size w w') (j q : Nat) hj => HKV.out _ (Keep.of hb) j q hj)
  rw [show ([(p1, t1), (p2, t2)] : List (Nat × Ty)).map Prod.snd = [t1, t2] from rfl] at HMT
  clear hM HKS
  generalize Ins.met [t1, t2] = mt at *
  go_enter Tryz.func68, Tryz.ntmps68
  go_wp2_with fail
  refine (HMT.out _ HB0.out (HI.out.later HB0.out)).mono ?_
  rintro E w2 ⟨rfl, hb2⟩
  have HB2 := Lib.hid (below_later hb2 HB0.out)
  clear hb2 HMT c1 n0 n1 n2 n3 n4 n5 n6 n7
  have k0 : w2.cell? ⟨g, o, none⟩ = some (.int .i64 (p0 : Int)) := HQ.out _ HB2.out 0 p0 rfl
  have k1 : w2.cell? ⟨g, o + 1, none⟩ = some (.int .i64 (p1 : Int)) := HQ.out _ HB2.out 1 p1 rfl
  have k2 : w2.cell? ⟨g, o + 2, none⟩ = some (.int .i64 (p2 : Int)) := HQ.out _ HB2.out 2 p2 rfl
  clear HQ HKV
  go_wp2_with fail
  refine wp_region_plan (S := fun w' => w'.cell? ⟨g, o, none⟩ = some (.int .i64 (p0 : Int)) ∧ w'.cell? ⟨g, o + 1, none⟩ = some (.int .i64 (p1 : Int)) ∧ w'.cell? ⟨g, o + 2, none⟩ = some (.int .i64 (p2 : Int))) [(0, true), (1, true), (2, true), (3, true), (4, true), (5, true), (6, true), (7, true), (8, true), (9, true), (10, true), (11, true), (12, true), (13, true), (14, false), (15, true)] (by kernel_rfl) (by kernel_rfl) (by kernel_rfl) (fun _ _ _ _ _ h => h) ⟨k0, k1, k2⟩ ?_
  intro HS
  repeat (first | (apply wpPlan_look; rfl; rfl; (intro wq hq; (try dsimp only at hq); go_split_ands; go_simp; (try rw [if_neg (by omega)]); (try rw [if_pos (by omega)]); try with_reducible rfl); simp only [Act.put, List.setIfInBounds_toArray, List.set_cons_zero, List.set_cons_succ]) | (apply wpPlan_skip; rfl; rfl; simp only [Act.put, List.setIfInBounds_toArray, List.set_cons_zero, List.set_cons_succ]) | (apply wpPlan_pass; rfl; rfl; assumption; simp only [Act.put, List.setIfInBounds_toArray, List.set_cons_zero, List.set_cons_succ]))
  have hb5 : Below w2.heap.size w2 (w2.drew.alloc (.cells #[.int .i64 (p0 : Int), .string { data := #[98] }, .int .i64 5, .int .i64 (p1 : Int), .string mt.str, .int .i64 6, .int .i64 (p2 : Int), .string mt.str, .int .i64 7] 123)) := (Below.refl _ _).drew.alloc (Nat.le_refl _) _
  have q0 := cell_later hb5 k0
  have q1 := cell_later hb5 k1
  have q2 := cell_later hb5 k2
  refine wpPlan_run rfl rfl (by simp [execOp, go_sem, build_wish3]; (first | exact ⟨rfl, rfl⟩ | rfl)) _ (fun _ h => h) ⟨q0, q1, q2⟩ ?_
  simp only [Act.put, List.setIfInBounds_toArray, List.set_cons_zero, List.set_cons_succ]
  repeat (first | (apply wpPlan_look; rfl; rfl; (intro wq hq; (try dsimp only at hq); go_split_ands; go_simp; (try rw [if_neg (by omega)]); (try rw [if_pos (by omega)]); try with_reducible rfl); simp only [Act.put, List.setIfInBounds_toArray, List.set_cons_zero, List.set_cons_succ]) | (apply wpPlan_skip; rfl; rfl; simp only [Act.put, List.setIfInBounds_toArray, List.set_cons_zero, List.set_cons_succ]) | (apply wpPlan_pass; rfl; rfl; assumption; simp only [Act.put, List.setIfInBounds_toArray, List.set_cons_zero, List.set_cons_succ]))
  apply wpPlan_done
  go_wp2_with fail
  go_ret
  exact wish_made (w1 := w2.drew) (L := [(0, .bool, 5), (1, mt, 6), (2, mt, 7)]) rfl (by simp) HB2.out.drew
end
end Go.Proofs.YtdfadmhomjcmeaaGreatDoor

/- Walks of insert: the casts that an empty list asks for: none. -/
namespace Go.Proofs.YtdfadmhomjcmeaaGreatDoor
set_option linter.unusedSimpArgs false
set_option linter.unusedVariables false
open Go.RowKit Culp
section
variable {W w : World} {c : Nat} {m : ByteArray} {tv yv sv kv : Value} {S : List Ins.Sit} {ys : List ByteArray} {T : List Nd} {x : Nd} {p p0 p1 p2 : Nat} {t0 t1 t2 : Ty} {Kl : List (Nat × Ty)} {A0 : Option Addr} {C0 : Nat}
set_option maxRecDepth 100000 in
set_option maxHeartbeats 1600000 in
theorem wishes_none (hY : Nms W yv ys) (hx : T[p]? = some x) (hk : x.kind = 21) (hN : Nodes W tv T) (hTl : T.length ≤ 1000000) (h : InAt W c m tv yv sv S w) :
    Calls Tryz.prog 68 #[.pointer (some ⟨c, 0, none⟩), .int .i64 (p : Int), .slice A0 0 C0] w (WishRes [] [] w) := by
  have HI := Lib.hid h
  have hp := (List.getElem?_eq_some_iff.1 hx).1
  have c1 := h.c1
  obtain ⟨A, C, rfl, hlc, hNN⟩ := hN.later h.low
  obtain ⟨b, off, rfl, hM⟩ := hNN (by omega)
  obtain ⟨n0, n1, n2, n3, n4, n5, n6, n7⟩ := hM.at_ hx
  obtain ⟨k, kd, n, s, t, u, l, cl⟩ := x
  obtain rfl : k = 21 := hk
  have HB0 := Lib.hid ((Below.refl w.heap.size w).alloc (Nat.le_refl _) (.cells #[.int .i8 21, .int .i64 kd, .int .i64 n, .string s, .string t, .string u, .int .i64 l, .int .i64 cl] 38))
  have HMT := Lib.hid (fun (w' : World) (hI : InAt W c m (.slice (some ⟨b, off, none⟩) T.length C) yv sv S w') => imet_any [] (.slice A0 0 C0) (.inr ⟨rfl, A0, C0, rfl⟩) (fun a ha => by cases ha) trivial (by simp) hY hI)
  have HA := Lib.hid (fun (w' : World) (t : Ty) => iall_any [] c (.slice A0 0 C0) t 13 w' (.inr ⟨rfl, A0, C0, rfl⟩) (by simp))
  clear hM hNN hN h hx hY
  simp only at n0 n1 n2 n3 n4 n5 n6 n7
  go_enter Tryz.func68, Tryz.ntmps68
  go_wp2_with fail
  refine (HMT.out _ (HI.out.later HB0.out)).mono ?_
  rintro E w2 ⟨rfl, hb2⟩
  have HB2 := Lib.hid (below_later hb2 HB0.out)
  clear hb2 HMT c1 n0 n1 n2 n3 n4 n5 n6 n7
  go_wp2_with fail
  refine (HA.out _ _).mono ?_
  rintro E w3 h3
  have HR : Hid (WishRes [] [] w E w3) := Lib.hid (h3.base HB2.out)
  obtain ⟨v, rfl, -, -⟩ := h3
  clear HA
  go_wp2_with fail
  go_ret
  exact HR.out
end
end Go.Proofs.YtdfadmhomjcmeaaGreatDoor

/- Walks of insert: the casts that a node asks for, whatever its kind. -/
namespace Go.Proofs.YtdfadmhomjcmeaaGreatDoor
set_option linter.unusedSimpArgs false
set_option linter.unusedVariables false
open Go.RowKit Culp
theorem klen1 {K : List (Nat × Ty)} (h : (K.length : Int) = 1) : ∃ p0 t0, K = [(p0, t0)] := by
  match K, h with
  | [(p0, t0)], _ => exact ⟨p0, t0, rfl⟩
  | [], h => simp at h
  | _ :: _ :: _, h => simp at h; omega
theorem klen2 {K : List (Nat × Ty)} (h : (K.length : Int) = 2) : ∃ p0 t0 p1 t1, K = [(p0, t0), (p1, t1)] := by
  match K, h with
  | [(p0, t0), (p1, t1)], _ => exact ⟨p0, t0, p1, t1, rfl⟩
  | [], h => simp at h
  | [_], h => simp at h
  | _ :: _ :: _ :: _, h => simp at h; omega
theorem klen3 {K : List (Nat × Ty)} (h : (K.length : Int) = 3) : ∃ p0 t0 p1 t1 p2 t2, K = [(p0, t0), (p1, t1), (p2, t2)] := by
  match K, h with
  | [(p0, t0), (p1, t1), (p2, t2)], _ => exact ⟨p0, t0, p1, t1, p2, t2, rfl⟩
  | [], h => simp at h
  | [_], h => simp at h
  | [_, _], h => simp at h
  | _ :: _ :: _ :: _ :: _, h => simp at h; omega
set_option maxRecDepth 100000 in
set_option maxHeartbeats 1600000 in
theorem wishes_rest {W w : World} {c : Nat} {m : ByteArray} {tv yv sv kv : Value} {S : List Ins.Sit} {T : List Nd} {x : Nd} {p : Nat} {P : List Nat} (hx : T[p]? = some x) (h5 : ¬ x.kind = 5) (h6 : ¬ x.kind = 6) (h8 : ¬ x.kind = 8) (h7 : ¬ x.kind = 7) (h9 : ¬ x.kind = 9) (h10 : ¬ x.kind = 10) (h11 : ¬ x.kind = 11) (h12 : ¬ x.kind = 12) (h16 : ¬ x.kind = 16) (h14 : ¬ x.kind = 14) (h15 : ¬ x.kind = 15) (h13 : ¬ x.kind = 13) (h17 : ¬ x.kind = 17) (h19 : ¬ x.kind = 19) (h20 : ¬ x.kind = 20) (h22 : ¬ x.kind = 22) (h23 : ¬ x.kind = 23) (h24 : ¬ x.kind = 24) (h25 : ¬ x.kind = 25) (h27 : ¬ x.kind = 27) (h28 : ¬ x.kind = 28) (h21 : ¬ x.kind = 21) (hN : Nodes W tv T) (hTl : T.length ≤ 1000000) (h : InAt W c m tv yv sv S w) :
    Calls Tryz.prog 68 #[.pointer (some ⟨c, 0, none⟩), .int .i64 (p : Int), kv] w (WishRes P [] w) := by
  have hp := (List.getElem?_eq_some_iff.1 hx).1
  have c1 := h.c1
  obtain ⟨A, C, rfl, hlc, hNN⟩ := hN.later h.low
  obtain ⟨b, off, rfl, hM⟩ := hNN (by omega)
  obtain ⟨n0, n1, n2, n3, n4, n5, n6, n7⟩ := hM.at_ hx
  obtain ⟨k, kd, n, s, t, u, l, cl⟩ := x
  have HB0 := Lib.hid ((Below.refl w.heap.size w).alloc (Nat.le_refl _) (.cells #[.int .i8 k, .int .i64 kd, .int .i64 n, .string s, .string t, .string u, .int .i64 l, .int .i64 cl] 38))
  clear hM hNN hN h hx
  simp only at n0 n1 n2 n3 n4 n5 n6 n7 h5 h6 h8 h7 h9 h10 h11 h12 h16 h14 h15 h13 h17 h19 h20 h22 h23 h24 h25 h27 h28 h21
  go_enter Tryz.func68, Tryz.ntmps68
  go_wp2_with fail
  go_ret
  exact ⟨_, rfl, World.ownsRow_nil _ _ _ _, HB0.out⟩
theorem wishes_any {W w : World} {c : Nat} {m : ByteArray} {tv yv sv kv : Value} {S : List Ins.Sit} {ys : List ByteArray} {T : List Nd} {x : Nd} {p q : Nat} {Kl : List (Nat × Ty)} {g : Tr.Env} {t : Ty}
    (hx : T[p]? = some x) (hN : Nodes W tv T) (hTl : T.length ≤ 1000000) (h : InAt W c m tv yv sv S w) (hm : Tr.may x = true) (h29 : x.kind ≠ 29) (hT : Told ys Kl) (hl : Kl.length ≤ 1000000) (hY : Nms W yv ys)
    (hlen : (Kl.length : Int) = x.kids) (hK : KidsV c w kv (Kl.map Prod.fst) ∨ (Kl = [] ∧ ∃ A C, kv = .slice A 0 C)) (hnode : Tr.nodeT false x g q Kl = .ok t) :
    Calls Tryz.prog 68 #[.pointer (some ⟨c, 0, none⟩), .int .i64 (p : Int), kv] w (WishRes (Kl.map Prod.fst) (Ins.wishes x (Kl.map Prod.snd)) w) := by
  obtain ⟨_, _, ha, _⟩ := Ins.may_words hm
  have hno := may_note hm
  have har : ∀ (k a : Int), x.kind = k → Tr.arit k = a → a ≠ -1 → (Kl.length : Int) = a := fun k a h0 h1 h2 => by
    rw [h0] at ha
    rcases ha with h | h <;> omega
  have hK' : Kl ≠ [] → KidsV c w kv (Kl.map Prod.fst) := fun hne => hK.resolve_right fun h => hne h.1
  by_cases h5 : x.kind = 5
  · obtain ⟨p0, t0, rfl⟩ := klen1 (har _ _ h5 rfl (by decide))
    have := wishes_5 hx h5 hN hTl (hK' (by simp)) hT hY h (hno.2.1 (by simp [h5]))
    rwa [show Ins.wishes x ([(p0, t0)].map Prod.snd) = [(0, Tr.noteT x.u, 1)] by simp [Ins.wishes, h5]]
  by_cases h6 : x.kind = 6
  · obtain ⟨p0, t0, rfl⟩ := klen1 (har _ _ h6 rfl (by decide))
    have := wishes_6 hx h6 hN hTl (hK' (by simp)) hT hY h (hno.2.1 (by simp [h6]))
    rwa [show Ins.wishes x ([(p0, t0)].map Prod.snd) = [(0, Tr.noteT x.u, 1)] by simp [Ins.wishes, h6]]
  by_cases h8 : x.kind = 8
  · obtain ⟨p0, t0, p1, t1, rfl⟩ := klen2 (har _ _ h8 rfl (by decide))
    have := wishes_8 hx h8 hN hTl (hK' (by simp)) hT hY h (hno.1 (by simp [h8]))
    rwa [show Ins.wishes x ([(p0, t0), (p1, t1)].map Prod.snd) = [(0, Tr.noteT x.t, 2)] by simp [Ins.wishes, h8]]
  by_cases h19 : x.kind = 19
  · obtain ⟨p0, t0, rfl⟩ := klen1 (har _ _ h19 rfl (by decide))
    have := wishes_19 hx h19 hN hTl (hK' (by simp)) hT hY h
    rwa [show Ins.wishes x ([(p0, t0)].map Prod.snd) = [(0, Ins.headed t0 (.pair .dyn .dyn), 10)] by simp [Ins.wishes, h19]]
  by_cases h20 : x.kind = 20
  · obtain ⟨p0, t0, rfl⟩ := klen1 (har _ _ h20 rfl (by decide))
    have := wishes_20 hx h20 hN hTl (hK' (by simp)) hT hY h
    rwa [show Ins.wishes x ([(p0, t0)].map Prod.snd) = [(0, Ins.headed t0 (.pair .dyn .dyn), 10)] by simp [Ins.wishes, h20]]
  by_cases h22 : x.kind = 22
  · obtain ⟨p0, t0, rfl⟩ := klen1 (har _ _ h22 rfl (by decide))
    have := wishes_22 hx h22 hN hTl (hK' (by simp)) hT hY h
    rwa [show Ins.wishes x ([(p0, t0)].map Prod.snd) = [(0, Ins.headed t0 (.list .dyn), 11)] by simp [Ins.wishes, h22]]
  by_cases h23 : x.kind = 23
  · obtain ⟨p0, t0, rfl⟩ := klen1 (har _ _ h23 rfl (by decide))
    have := wishes_23 hx h23 hN hTl (hK' (by simp)) hT hY h
    rwa [show Ins.wishes x ([(p0, t0)].map Prod.snd) = [(0, Ins.headed t0 (.list .dyn), 11)] by simp [Ins.wishes, h23]]
  by_cases h24 : x.kind = 24
  · obtain ⟨p0, t0, rfl⟩ := klen1 (har _ _ h24 rfl (by decide))
    have := wishes_24 hx h24 hN hTl (hK' (by simp)) hT hY h
    rwa [show Ins.wishes x ([(p0, t0)].map Prod.snd) = [(0, Ins.headed t0 (.list .dyn), 11)] by simp [Ins.wishes, h24]]
  by_cases h27 : x.kind = 27
  · obtain ⟨p0, t0, rfl⟩ := klen1 (har _ _ h27 rfl (by decide))
    have := wishes_27 hx h27 hN hTl (hK' (by simp)) hT hY h
    rwa [show Ins.wishes x ([(p0, t0)].map Prod.snd) = [(0, Ins.headed t0 (.box .dyn), 12)] by simp [Ins.wishes, h27]]
  by_cases h10 : x.kind = 10
  · have hne : Kl ≠ [] := fun e => by
      have := har 10 (Tr.arit 10) h10 rfl (by decide)
      rw [e] at this
      exact absurd this (by decide)
    have := wishes_10 hx h10 hN hTl (hK' hne) hT hY h hl
    rwa [show Ins.wishes x (Kl.map Prod.snd) = Ins.all Kl.length .int 8 by simp [Ins.wishes, h10]]
  by_cases h11 : x.kind = 11
  · have hne : Kl ≠ [] := fun e => by
      have := har 11 (Tr.arit 11) h11 rfl (by decide)
      rw [e] at this
      exact absurd this (by decide)
    have := wishes_11 hx h11 hN hTl (hK' hne) hT hY h hl
    rwa [show Ins.wishes x (Kl.map Prod.snd) = Ins.all Kl.length .int 8 by simp [Ins.wishes, h11]]
  by_cases h12 : x.kind = 12
  · have hne : Kl ≠ [] := fun e => by
      have := har 12 (Tr.arit 12) h12 rfl (by decide)
      rw [e] at this
      exact absurd this (by decide)
    have := wishes_12 hx h12 hN hTl (hK' hne) hT hY h hl
    rwa [show Ins.wishes x (Kl.map Prod.snd) = Ins.all Kl.length .int 8 by simp [Ins.wishes, h12]]
  by_cases h16 : x.kind = 16
  · have hne : Kl ≠ [] := fun e => by
      have := har 16 (Tr.arit 16) h16 rfl (by decide)
      rw [e] at this
      exact absurd this (by decide)
    have := wishes_16 hx h16 hN hTl (hK' hne) hT hY h hl
    rwa [show Ins.wishes x (Kl.map Prod.snd) = Ins.all Kl.length .int 8 by simp [Ins.wishes, h16]]
  by_cases h14 : x.kind = 14
  · have hne : Kl ≠ [] := fun e => by
      have := har 14 (Tr.arit 14) h14 rfl (by decide)
      rw [e] at this
      exact absurd this (by decide)
    have := wishes_14 hx h14 hN hTl (hK' hne) hT hY h hl
    rwa [show Ins.wishes x (Kl.map Prod.snd) = Ins.all Kl.length .int 8 by simp [Ins.wishes, h14]]
  by_cases h15 : x.kind = 15
  · have hne : Kl ≠ [] := fun e => by
      have := har 15 (Tr.arit 15) h15 rfl (by decide)
      rw [e] at this
      exact absurd this (by decide)
    have := wishes_15 hx h15 hN hTl (hK' hne) hT hY h hl
    rwa [show Ins.wishes x (Kl.map Prod.snd) = Ins.all Kl.length .int 8 by simp [Ins.wishes, h15]]
  by_cases h13 : x.kind = 13
  · have hne : Kl ≠ [] := fun e => by
      have := har 13 (Tr.arit 13) h13 rfl (by decide)
      rw [e] at this
      exact absurd this (by decide)
    have := wishes_13 hx h13 hN hTl (hK' hne) hT hY h hl
    rwa [show Ins.wishes x (Kl.map Prod.snd) = Ins.all Kl.length .text 9 by simp [Ins.wishes, h13]]
  by_cases h17 : x.kind = 17
  · have hne : Kl ≠ [] := fun e => by
      have := har 17 (Tr.arit 17) h17 rfl (by decide)
      rw [e] at this
      exact absurd this (by decide)
    have := wishes_17 hx h17 hN hTl (hK' hne) hT hY h hl
    rwa [show Ins.wishes x (Kl.map Prod.snd) = Ins.all Kl.length .text 9 by simp [Ins.wishes, h17]]
  by_cases h7 : x.kind = 7
  · obtain ⟨p0, t0, p1, t1, rfl⟩ := klen2 (har _ _ h7 rfl (by decide))
    simp [Tr.nodeT, h7] at hnode
    cases hmt : Tr.matchT t0 62 with
    | none => simp [hmt] at hnode
    | some lm =>
      obtain ⟨u0, v0, rfl⟩ := Tr.matchT_two (.inl rfl) hmt
      have := wishes_7 hx h7 hN hTl (hK' (by simp)) hT hY h u0 _ hmt rfl
      rwa [show Ins.wishes x ([(p0, t0), (p1, t1)].map Prod.snd) = [(0, Ins.headed t0 (.fn .dyn .dyn), 3), (1, Ins.innerM t0 62, 4)] by simp [Ins.wishes, h7]]
  by_cases h25 : x.kind = 25
  · obtain ⟨p0, t0, p1, t1, rfl⟩ := klen2 (har _ _ h25 rfl (by decide))
    simp [Tr.nodeT, h25] at hnode
    cases hmt : Tr.matchT t1 108 with
    | none => simp [hmt] at hnode
    | some lm =>
      obtain ⟨u0, rfl⟩ := Tr.matchT_one (.inl rfl) hmt
      have := wishes_25 hx h25 hN hTl (hK' (by simp)) hT hY h u0 _ hmt rfl
      rwa [show Ins.wishes x ([(p0, t0), (p1, t1)].map Prod.snd) = [(1, Ins.headed t1 (.list .dyn), 11), (0, Ins.innerM t1 108, 14)] by simp [Ins.wishes, h25]]
  by_cases h28 : x.kind = 28
  · obtain ⟨p0, t0, p1, t1, rfl⟩ := klen2 (har _ _ h28 rfl (by decide))
    simp [Tr.nodeT, h28] at hnode
    cases hmt : Tr.matchT t0 120 with
    | none => simp [hmt] at hnode
    | some lm =>
      obtain ⟨u0, rfl⟩ := Tr.matchT_one (.inr rfl) hmt
      have := wishes_28 hx h28 hN hTl (hK' (by simp)) hT hY h u0 _ hmt rfl
      rwa [show Ins.wishes x ([(p0, t0), (p1, t1)].map Prod.snd) = [(0, Ins.headed t0 (.box .dyn), 12), (1, Ins.innerM t0 120, 15)] by simp [Ins.wishes, h28]]
  have hcd : ∀ u : Ty, cons .dyn u = true ∧ meet .dyn u = u := fun u => by cases u <;> exact ⟨rfl, rfl⟩
  by_cases h9 : x.kind = 9
  · obtain ⟨p0, t0, p1, t1, p2, t2, rfl⟩ := klen3 (har _ _ h9 rfl (by decide))
    simp [Tr.nodeT, h9] at hnode
    cases hf : Tr.fitT false t0 .bool 23 p0 with
    | error b => simp [hf] at hnode
    | ok u =>
      simp [hf] at hnode
      have hM := Ins.meets_met hnode
      have h1 := (hT (p1, t1) (by simp)).2
      have := wishes_9 hx h9 hN hTl (hK' (by simp)) hT hY h (by
        refine ⟨(hcd t1).1, ?_, ?_⟩ <;> rw [(hcd t1).2]
        · exact h1
        · exact hM)
      rwa [show Ins.wishes x ([(p0, t0), (p1, t1), (p2, t2)].map Prod.snd) = [(0, .bool, 5), (1, Ins.met [t1, t2], 6), (2, Ins.met [t1, t2], 7)] by simp [Ins.wishes, h9]]
  by_cases h21 : x.kind = 21
  · cases hKl : Kl with
    | nil =>
      subst hKl
      obtain ⟨A0, C0, rfl⟩ : ∃ A C, kv = .slice A 0 C := by
        rcases hK with ⟨g, o, C, n, rfl, hn, -⟩ | ⟨-, h⟩
        · exact ⟨_, _, by rw [← hn]; rfl⟩
        · exact h
      have := wishes_none (A0 := A0) (C0 := C0) hY hx h21 hN hTl h
      rwa [show Ins.wishes x (([] : List (Nat × Ty)).map Prod.snd) = [] by simp [Ins.wishes, h21, Ins.all]]
    | cons a K' =>
      obtain ⟨p0, t0⟩ := a
      subst hKl
      have hM : Ins.MetC t0 (K'.map Prod.snd) := by
        simp [Tr.nodeT, h21] at hnode
        cases hmm : Tr.meetsT false q t0 K' with
        | error b => simp [hmm, Except.map] at hnode
        | ok r => exact Ins.meets_met hmm
      have h1 := (hT (p0, t0) (by simp)).2
      have := wishes_21 hx h21 hN hTl (hK' (by simp)) hT hY h hl (by
        refine ⟨(hcd t0).1, ?_, ?_⟩ <;> rw [(hcd t0).2]
        · exact h1
        · exact hM)
      rwa [show Ins.wishes x (((p0, t0) :: K').map Prod.snd) = Ins.all ((p0, t0) :: K').length (Ins.met (((p0, t0) :: K').map Prod.snd)) 13 by simp [Ins.wishes, h21]]
  have := wishes_rest (kv := kv) (P := Kl.map Prod.fst) hx h5 h6 h8 h7 h9 h10 h11 h12 h16 h14 h15 h13 h17 h19 h20 h22 h23 h24 h25 h27 h28 h21 hN hTl h
  rwa [show Ins.wishes x (Kl.map Prod.snd) = [] by simp [Ins.wishes, h5, h6, h8, h7, h9, h10, h11, h12, h16, h14, h15, h13, h17, h19, h20, h22, h23, h24, h25, h27, h28, h21]]
end Go.Proofs.YtdfadmhomjcmeaaGreatDoor
