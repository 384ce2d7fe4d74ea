
/- Memory: branches, and the parser's state. No program in sight. -/
import Derived.Test.YtnhdbjhdmdefmaaDoorZa
import Derived.Test.YtnhdbjhdmdefmaaDoorTxX
import Derived.Test.YtnhdbjhdmdefmaaDoorFq
import Derived.Test.YtnhdbjhdmdefmaaDoorR4W
namespace Culp.Gr
set_option linter.unusedSimpArgs false
set_option linter.unusedVariables false
open Go Go.RowKit Culp Culp.Tr Go.Proofs.YtnhdbjhdmdefmaaDoor
/-- A slice of pointers to branches. -/
def KidsV (w : World) (v : Value) (ps : List Value) : Prop := ∃ (A : Option Addr) (c : Nat), v = .slice A ps.length c ∧ ps.length ≤ c ∧ (0 < ps.length → ∃ (g : Nat) (cur : Array Value) (fr : Nat × Nat), A = some ⟨g, 0, none⟩ ∧ w.heap[g]? = some (Obj.cells cur 55 fr) ∧ ∀ (j : Nat) (u : Value), ps[j]? = some u → cur[j]? = some u)
/-- Branches, one behind the other, and their pointers. -/
def BrL (w : World) : List Value → F → Prop
  | ps, .nil => ps = []
  | ps, .cons x ks r => ∃ (b : Nat) (kv : Value) (kps rest : List Value), ps = .pointer (some ⟨b, 0, none⟩) :: rest ∧ w.heap[b]? = some (Obj.cells (x.cells ++ [kv]).toArray 88 (0, 0)) ∧ KidsV w kv kps ∧ BrL w kps ks ∧ BrL w rest r
/-- Branches stay. -/
def KB (w w' : World) : Prop := ∀ (b : Nat) (cs : Array Value) (t : TypeId) (fr : Nat × Nat), w.heap[b]? = some (Obj.cells cs t fr) → (t = 88 ∨ t = 55) → w'.heap[b]? = some (Obj.cells cs t fr)
section
variable {w w' w1 w2 : World} {v kv : Value} {ps qs kps : List Value}
theorem KB.refl (w : World) : KB w w := fun _ _ _ _ h _ => h
theorem KB.trans (h : KB w w1) (k : KB w1 w2) : KB w w2 := fun b cs t fr hb ht => k b cs t fr (h b cs t fr hb ht) ht
theorem KB.below (h : Below w.heap.size w w1) : KB w w1 := fun b _ _ _ hb _ => (h.block b (Array.getElem?_eq_some_iff.1 hb).1).trans hb
theorem KidsV.kb (h : KidsV w v ps) (k : KB w w') : KidsV w' v ps := by
  obtain ⟨A, c, h1, h2, h3⟩ := h
  refine ⟨A, c, h1, h2, fun h0 => ?_⟩
  obtain ⟨g, cur, fr, h4, h5, h6⟩ := h3 h0
  exact ⟨g, cur, fr, h4, k _ _ _ _ h5 (.inr rfl), h6⟩
theorem BrL.kb : ∀ (f : F) {ps : List Value}, BrL w ps f → KB w w' → BrL w' ps f
  | .nil, ps, h, _ => h
  | .cons x ks r, ps, h, k => by
    obtain ⟨b, kv, kps, rest, h1, h2, h3, h4, h5⟩ := h
    exact ⟨b, kv, kps, rest, h1, k _ _ _ _ h2 (.inl rfl), h3.kb k, BrL.kb ks h4 k, BrL.kb r h5 k⟩
theorem BrL.cnt : ∀ (f : F) {ps : List Value}, BrL w ps f → ps.length = f.cnt
  | .nil, ps, h => by have h : ps = [] := h; subst h; rfl
  | .cons x ks r, ps, h => by
    obtain ⟨b, kv, kps, rest, rfl, -, -, -, h5⟩ := h
    rw [List.length_cons, BrL.cnt r h5]; rfl
theorem BrL.cat : ∀ (f g : F) {ps qs : List Value}, BrL w ps f → BrL w qs g → BrL w (ps ++ qs) (cat f g)
  | .nil, g, ps, qs, h, k => by have h : ps = [] := h; subst h; exact k
  | .cons x ks r, g, ps, qs, h, k => by
    obtain ⟨b, kv, kps, rest, rfl, h2, h3, h4, h5⟩ := h
    exact ⟨b, kv, kps, rest ++ qs, rfl, h2, h3, h4, BrL.cat r g h5 k⟩
/-- One branch. -/
theorem BrL.mk {x : Nd} {ks : F} {b : Nat} (h : w.heap[b]? = some (Obj.cells (x.cells ++ [kv]).toArray 88 (0, 0))) (hk : KidsV w kv kps) (hb : BrL w kps ks) : BrL w [.pointer (some ⟨b, 0, none⟩)] (.cons x ks .nil) := ⟨b, kv, kps, [], rfl, h, hk, hb, rfl⟩
theorem BrL.single {f : F} (ho : One f) (h : BrL w [v] f) : ∃ b, v = .pointer (some ⟨b, 0, none⟩) := by
  obtain ⟨x, ks, rfl⟩ := ho
  obtain ⟨b, kv, kps, rest, h1, -⟩ := h
  injection h1 with h1
  exact ⟨b, h1⟩
theorem kids_own {base n : Nat} {xs : List Value} (h : w.ownsRow base 55 1 v n xs) : KidsV w v xs := by
  have hl := h.1
  rcases h.2 with ⟨rfl, rfl⟩ | ⟨g, cap, cur, rfl, hb, hh, hc, _, hsz, htk⟩
  · have : xs = [] := List.eq_nil_of_length_eq_zero (by omega)
    subst this
    exact ⟨none, 0, rfl, Nat.le_refl _, fun h => absurd h (Nat.lt_irrefl _)⟩
  · have hn : xs.length = n := by omega
    refine ⟨some ⟨g, 0, none⟩, cap, by rw [hn], by omega, fun h0 => ⟨g, cur, _, rfl, hh, fun j u hj => ?_⟩⟩
    rw [← htk] at hj
    rw [List.getElem?_take] at hj
    split at hj
    · rw [← Array.getElem?_toList]; exact hj
    · cases hj
theorem kids_nil : KidsV w (.slice none 0 0) [] := ⟨none, 0, rfl, Nat.le_refl _, fun h => absurd h (Nat.lt_irrefl _)⟩
theorem kids_lit {g n : Nat} (h : w.heap[g]? = some (Obj.cells ps.toArray 55 (0, 0))) (hn : ps.length = n) : KidsV w (.slice (some ⟨g, 0, none⟩) n n) ps := by
  subst hn
  exact ⟨_, _, rfl, Nat.le_refl _, fun _ => ⟨g, _, _, rfl, h, fun j u hj => by simpa using hj⟩⟩
end
/-- Types' places, as they lie in memory. -/
def places (L : List Tok) (lg : List Nat) : List Value := lg.flatMap fun k => [.int .i64 (pl L k).1, .int .i64 (pl L k).2]
/-- The parser at a token. -/
structure PS (pb B : Nat) (L : List Tok) (tv : Value) (e : Nat × Nat) (i : Nat) (lg : List Nat) (lv : Value) (w : World) : Prop where
  blk : Blk pb #[tv, .int .i64 i, .int .i64 e.1, .int .i64 e.2, lv] 64 w
  toks : w.ownsRow B 60 5 tv L.length (tflat L)
  lrow : w.ownsRow B 25 2 lv lg.length (places L lg)
  small : L.length ≤ 65536
  texts : ∀ t ∈ L, t.1.s.length ≤ 64
  few : lg.length ≤ i
  le : i ≤ L.length
section
variable {pb B i k : Nat} {L : List Tok} {tv lv lv1 u : Value} {e : Nat × Nat} {lg : List Nat} {w w' w1 w2 : World} {t : Tx.Tk} {p : Nat × Nat}
theorem flat_get5 {α : Type} (f : α → List Value) (hf : ∀ x, (f x).length = 5) : ∀ (L : List α) (i : Nat) (x : α) (j : Nat) (u : Value), L[i]? = some x → (f x)[j]? = some u → (L.flatMap f)[i * 5 + j]? = some u
  | [], i, x, j, u, h, _ => by simp at h
  | y :: L, 0, x, j, u, h, hu => by
    simp at h; subst h
    have hj := (List.getElem?_eq_some_iff.1 hu).1
    rw [List.flatMap_cons, Nat.zero_mul, Nat.zero_add, List.getElem?_append_left hj]
    exact hu
  | y :: L, i + 1, x, j, u, h, hu => by
    rw [List.flatMap_cons, List.getElem?_append_right (by rw [hf]; omega), hf, show (i + 1) * 5 + j - 5 = i * 5 + j by omega]
    exact flat_get5 f hf L i x j u (by simpa using h) hu
theorem PS.later (h : PS pb B L tv e i lg lv w) (hb : Below w.heap.size w w') : PS pb B L tv e i lg lv w' := { h with
  blk := h.blk.later hb
  toks := own_later h.toks hb
  lrow := own_later h.lrow hb }
theorem PS.tok (h : PS pb B L tv e i lg lv w) (hi : L[i]? = some (t, p)) : ∃ g c, tv = .slice (some ⟨g, 0, none⟩) L.length c ∧ w.cell? ⟨g, i * 5, none⟩ = some (.int .i8 t.kind) ∧ w.cell? ⟨g, i * 5 + 1, none⟩ = some (.int .i64 t.n) ∧ w.cell? ⟨g, i * 5 + 2, none⟩ = some (.string (by_ t.s)) ∧ w.cell? ⟨g, i * 5 + 3, none⟩ = some (.int .i64 p.1) ∧ w.cell? ⟨g, i * 5 + 4, none⟩ = some (.int .i64 p.2) := by
  have hl := (List.getElem?_eq_some_iff.1 hi).1
  rcases h.toks.2 with ⟨_, h0⟩ | ⟨g, cap, cur, rfl, hb, hh, hc, _, hsz, htk⟩
  · omega
  · have K : ∀ j u, (tcells (t, p))[j]? = some u → w.cell? ⟨g, i * 5 + j, none⟩ = some u := fun j u hj => by
      have hj5 : j < 5 := (List.getElem?_eq_some_iff.1 hj).1
      rw [h.toks.cellAt (i * 5 + j) (by omega)]
      exact flat_get5 tcells (fun _ => rfl) L i (t, p) j u hi hj
    exact ⟨g, cap, rfl, K 0 _ rfl, K 1 _ rfl, K 2 _ rfl, K 3 _ rfl, K 4 _ rfl⟩
theorem own_type_ne {base n size : Nat} {t1 t2 : TypeId} {v : Value} {xs : List Value} {cs : Array Value} {g : Nat} (h : w.ownsRow base t1 size v n xs) (hb : Blk g cs t2 w) (hne : t1 ≠ t2) : v.ownBlock ≠ some g := fun he => by
  rcases h.2 with ⟨rfl, _⟩ | ⟨g', cap, cur, rfl, _, hh, _⟩
  · cases he
  · have e2 : g' = g := Option.some.inj he
    unfold Blk at hb
    rw [e2, hb] at hh
    simp only [Option.some.injEq, Obj.cells.injEq] at hh
    exact hne hh.2.1.symm
theorem keepN_cell (a : Nat) (o : Option Nat) (j : Nat) (u : Value) (w : World) : KeepN a o w (w.setCell ⟨a, j, none⟩ u) :=
  ⟨rfl, rfl, rfl, by rw [World.size_setCell]; exact Nat.le_refl _, fun k _ h _ => Below.heap_setCell _ _ _ _ h⟩
/-- What the parser writes leaves branches. -/
theorem PS.kb (h : PS pb B L tv e i lg lv w) (k : KeepN pb lv.ownBlock w w') : KB w w' := fun b cs t fr hb ht => by
  have hl := (Array.getElem?_eq_some_iff.1 hb).1
  refine (k.block b hl (fun e => ?_) (fun e => ?_)).trans hb
  · subst e
    have := h.blk
    unfold Blk at this
    rw [this] at hb
    simp only [Option.some.injEq, Obj.cells.injEq] at hb
    rcases ht with rfl | rfl
    · exact absurd hb.2.1 (by decide)
    · exact absurd hb.2.1 (by decide)
  · rcases h.lrow.2 with ⟨h1, _⟩ | ⟨g', cap, cur, h1, _, hh, _⟩
    · rw [h1] at e; cases e
    · rw [h1] at e
      have e2 : g' = b := Option.some.inj e
      rw [e2, hb] at hh
      simp only [Option.some.injEq, Obj.cells.injEq] at hh
      rcases ht with rfl | rfl
      · exact absurd hh.2.1 (by decide)
      · exact absurd hh.2.1 (by decide)
/-- The parser steps on. -/
theorem PS.go (h : PS pb B L tv e i lg lv w) (k : Nat) (hk : k ≤ L.length) (hl : lg.length ≤ k) : PS pb B L tv e k lg lv (w.setCell ⟨pb, 1, none⟩ (.int .i64 k)) := { h with
  blk := by
    have := h.blk
    unfold Blk at this ⊢
    simp [World.setCell, Array.getElem?_modify, this]
  toks := own_apart_keep h.toks ((Keep.refl _ _).setCell _ _) (own_type_ne h.toks h.blk (by decide))
  lrow := own_apart_keep h.lrow ((Keep.refl _ _).setCell _ _) (own_type_ne h.lrow h.blk (by decide))
  few := hl
  le := hk }
/-- The parser has come so far since. -/
def Went (pb B : Nat) (L : List Tok) (tv : Value) (e : Nat × Nat) (lv : Value) (i : Nat) (lg : List Nat) (w w' : World) : Prop := ∃ lv', KeepN pb lv.ownBlock w w' ∧ PS pb B L tv e i lg lv' w' ∧ (lv'.ownBlock = lv.ownBlock ∨ ∃ b, lv'.ownBlock = some b ∧ w.heap.size ≤ b)
/-- A refusal, as it is thrown. -/
def refV (p : Nat × Nat) : List PanicEntry := [{ v := .iface 76 (.agg #[.int .i64 p.1, .int .i64 p.2]), recovered := false }]
/-- What a call of the parser comes to. -/
def PRes {α : Type} (R : World → Value → α → Prop) (spec : Except Nat (α × Nat × List Nat)) (pb B : Nat) (L : List Tok) (tv : Value) (e : Nat × Nat) (lv : Value) (w : World) (E : Ending) (w' : World) : Prop := match spec with
  | .error j => E = .panicked (refV (here L e j)) ∧ KeepN pb lv.ownBlock w w'
  | .ok (a, k, lg') => ∃ v, E = .returned v ∧ R w' v a ∧ Went pb B L tv e lv k lg' w w'
theorem Went.refl (h : PS pb B L tv e i lg lv w) : Went pb B L tv e lv i lg w w := ⟨lv, KeepN.refl _ _ _, h, .inl rfl⟩
theorem Went.later (h : Went pb B L tv e lv i lg w w1) (hb : Below w1.heap.size w1 w2) : Went pb B L tv e lv i lg w w2 := by
  obtain ⟨lv', h1, h2, h3⟩ := h
  exact ⟨lv', h1.trans (KeepN.of pb lv'.ownBlock hb) (by
    rcases h3 with h | ⟨b, hb, hs⟩
    · exact .inl h
    · exact .inr ⟨b, hb, hs⟩), h2.later hb, h3⟩
theorem Went.trans (h : KeepN pb lv.ownBlock w w1) (hl : lv1.ownBlock = lv.ownBlock ∨ ∃ b, lv1.ownBlock = some b ∧ w.heap.size ≤ b) (k : Went pb B L tv e lv1 i lg w1 w2) : Went pb B L tv e lv i lg w w2 := by
  obtain ⟨lv', k1, k2, k3⟩ := k
  refine ⟨lv', h.trans k1 hl, k2, ?_⟩
  rcases k3 with k3 | ⟨b, hb, hs⟩
  · rcases hl with hl | ⟨b, hb, hs⟩
    · exact .inl (k3.trans hl)
    · exact .inr ⟨b, by rw [k3]; exact hb, hs⟩
  · exact .inr ⟨b, hb, Nat.le_trans h.size hs⟩
/-- A further call, told from where all began. -/
theorem Went.call {α : Type} {R : World → Value → α → Prop} {spec : Except Nat (α × Nat × List Nat)} {P : Program} {F : FuncId} {args : Array Value} (h : Went pb B L tv e lv i lg w w1) (hc : ∀ lv1, PS pb B L tv e i lg lv1 w1 → Calls P F args w1 (PRes R spec pb B L tv e lv1 w1)) :
    Calls P F args w1 (fun E w' => PRes R spec pb B L tv e lv w E w' ∧ KB w1 w') := by
  obtain ⟨lv1, h1, h2, h3⟩ := h
  refine (hc lv1 h2).mono fun E w' hr => ?_
  cases spec with
  | error j => exact ⟨⟨hr.1, h1.trans hr.2 h3⟩, h2.kb hr.2⟩
  | ok r =>
    obtain ⟨v, k1, k2, k3⟩ := hr
    have k4 := k3
    obtain ⟨lv2, m1, _⟩ := k3
    exact ⟨⟨v, k1, k2, Went.trans h1 h3 k4⟩, h2.kb m1⟩
end
end Culp.Gr
