
/- Walks of the document's chapter 8: types: their parts, consistent, the meet, heads, annotations. -/
import Derived.Test.YtdfadmhomjcmeaaDoorKj
import Derived.Test.YtdfadmhomjcmeaaDoorTrW
import Derived.Test.YtdfadmhomjcmeaaDoorKk
import Derived.Test.YtdfadmhomjcmeaaDoorKp
import Derived.Test.YtdfadmhomjcmeaaDoorKr
import Derived.Test.YtdfadmhomjcmeaaDoorKu
import Derived.Laws.CopyRow
import Derived.OwnWalk
namespace Go.Proofs.YtdfadmhomjcmeaaDoor
set_option linter.unusedSimpArgs false
set_option linter.unusedVariables false
open Go.RowKit Culp

theorem hd_dyn {t : Ty} : (((t.hd.toNat : Nat) : Int) == 63) = decide (t = .dyn) := by cases t <;> rfl
theorem r8Note_any (s : ByteArray) (h : NoteOk s) (w : World) : Calls Tryd.prog 8 #[.string s] w (Gives (.string (Tr.noteT s).str) w) := by
  by_cases h0 : s.size = 0
  · have q := empty_list h0
    have HR : Hid (Tr.noteT s = .dyn) := Lib.hid (by unfold Tr.noteT; rw [if_pos h0])
    clear h0 h
    go_enter Tryd.func8, Tryd.ntmps8
    go_wp2_with fail
    go_ret
    rw [HR.out]
    exact Gives.mk rfl
  · have q := some_list h0
    obtain ⟨t, rfl, _, h2⟩ := h h0
    rw [h2]
    clear h0 h h2
    go_enter Tryd.func8, Tryd.ntmps8
    go_wp2_with fail
    go_ret
    exact Gives.mk rfl
end Go.Proofs.YtdfadmhomjcmeaaDoor

/- Walks of the document's checker: its state; refusals; types that must fit; heads. -/
namespace Culp.Tr
set_option linter.unusedSimpArgs false
set_option linter.unusedVariables false
/-- Two types must fit, after what came before. -/
def fitG {α : Type} (same : Bool) (R : Except Bad α) (s t : Ty) (n : Int) (p : Nat) : Except Bad α := match R with
  | .error b => .error b
  | .ok x => (fitT same s t n p).map fun _ => x
theorem fitG_good {α : Type} {same : Bool} {R : Except Bad α} {s t : Ty} {n : Int} {p : Nat} (h : Good R) (hn : n ≠ 0) : Good (fitG same R s t n p) := by
  cases R with
  | ok x => exact map_good _ (fitT_good hn)
  | error b => exact fun c hc => h c (by injection hc with hc; rw [hc])
/-- The document's text of an answer. -/
def strQ : Except Bad Ty → ByteArray | .ok t => t.str | .error _ => Ty.dyn.str
def tyQ : Except Bad Ty → Ty | .ok t => t | .error _ => .dyn
theorem strQ_ty (R : Except Bad Ty) : strQ R = (tyQ R).str := by cases R <;> rfl
theorem tyQ_fits {R : Except Bad Ty} (h : FitsR R) : (tyQ R).fits := by
  cases R with
  | ok t => exact h t rfl
  | error b => show Ty.dyn.fits; unfold Ty.fits; decide
theorem fitG_ok {α : Type} {same : Bool} {R : Except Bad α} {s t : Ty} {n : Int} {p : Nat} {v : α} (h : fitG same R s t n p = .ok v) : R = .ok v := by
  cases R with
  | error b => cases h
  | ok x =>
    unfold fitG at h
    dsimp only at h
    cases hf : fitT same s t n p with
    | error b => rw [hf] at h; cases h
    | ok u => rw [hf] at h; exact h
theorem fitG_map {α β : Type} {same : Bool} {R : Except Bad α} {s t : Ty} {n : Int} {p : Nat} (f : α → β) : (fitG same R s t n p).map f = fitG same (R.map f) s t n p := by
  cases R with
  | error b => rfl
  | ok x =>
    show (((fitT same s t n p).map fun _ => x).map f) = (fitT same s t n p).map fun _ => f x
    cases fitT same s t n p <;> rfl
theorem strQ_size {R : Except Bad Ty} (h : FitsR R) : (strQ R).size ≤ 64 := by
  cases R with
  | ok t => show t.str.size ≤ 64; rw [str_size]; exact h t rfl
  | error b => show Ty.dyn.str.size ≤ 64; decide
end Culp.Tr
namespace Go.Proofs.YtdfadmhomjcmeaaDoor
set_option linter.unusedSimpArgs false
set_option linter.unusedVariables false
open Go.RowKit Culp
section
variable {c B a a' : Nat} {sm : Bool} {tv yv : Value} {ys : List ByteArray} {e e' : Int} {w w' : World}
end
section
variable (c B : Nat) (sm : Bool) (tv yv : Value) (ys : List ByteArray) (a : Nat) (w : World)
theorem str_same (s t : Ty) : (s.str.toList == t.str.toList) = decide (s = t) := by
  rw [toL, toL, str_list, str_list, Bool.eq_iff_iff]
  simp only [beq_iff_eq, decide_eq_true_eq]
  exact ⟨enc_inj, fun h => by rw [h]⟩
end
end Go.Proofs.YtdfadmhomjcmeaaDoor

/- Walks of the document's checker: heads of kids; what each kid must be; the meet of kids. -/
namespace Culp.Tr
set_option linter.unusedSimpArgs false
set_option linter.unusedVariables false
theorem eachT_snoc (same : Bool) (t : Ty) : ∀ (K : List (Nat × Ty)) (p : Nat) (s : Ty), eachT same t (K ++ [(p, s)]) = fitG same (eachT same t K) s t 23 p
  | [], p, s => by
    show (match fitT same s t 23 p with | .error b => .error b | .ok _ => .ok ()) = (fitT same s t 23 p).map fun _ => ()
    cases fitT same s t 23 p <;> rfl
  | (q, u) :: K, p, s => by
    simp only [List.cons_append, eachT]
    cases fitT same u t 23 q with
    | error b => rfl
    | ok x => exact eachT_snoc same t K p s
theorem eachT_good (same : Bool) (t : Ty) : ∀ (K : List (Nat × Ty)), Good (eachT same t K)
  | [] => good_ok _
  | (q, u) :: K => fun b hb => by
    unfold eachT at hb
    cases hf : fitT same u t 23 q with
    | error c => rw [hf] at hb; injection hb with hb; subst hb; exact fitT_good (by decide) _ hf
    | ok x => rw [hf] at hb; exact eachT_good same t K b hb
theorem meetsT_good {same : Bool} {p : Nat} : ∀ (K : List (Nat × Ty)) (m : Ty), Good (meetsT same p m K)
  | [], m => good_ok _
  | (q, s) :: K, m => fun b hb => by
    unfold meetsT at hb
    cases hf : fitT same m s 25 q with
    | error c => rw [hf] at hb; injection hb with hb; subst hb; exact fitT_good (by decide) _ hf
    | ok x =>
      rw [hf] at hb
      dsimp only at hb
      split at hb
      · exact meetsT_good K _ b hb
      · injection hb with hb; subst hb; show (21 : Int) ≠ 0; decide
end Culp.Tr
namespace Go.Proofs.YtdfadmhomjcmeaaDoor
set_option linter.unusedSimpArgs false
set_option linter.unusedVariables false
open Go.RowKit Culp
/-- The parts of a type of a head, as the document tells them. -/
def RMatchRes (o : Option (List Ty)) (w : World) (e : Ending) (w' : World) : Prop := match o with
  | none => ∃ A n C, e = .returned (.tuple #[.slice A n C, .bool false]) ∧ Below w.heap.size w w'
  | some l => ∃ v, e = .returned (.tuple #[v, .bool true]) ∧ w'.ownsRow w.heap.size 9 1 v l.length (strs l) ∧ Below w.heap.size w w'
section
variable (c B : Nat) (sm : Bool) (tv yv : Value) (ys : List ByteArray) (a : Nat) (w : World)
end
end Go.Proofs.YtdfadmhomjcmeaaDoor

/- Walks of the document's checker: the meet of kids; the table's rows of pairs, lists, boxes and As. -/
namespace Culp.Tr
set_option linter.unusedSimpArgs false
set_option linter.unusedVariables false
theorem fitG_fits {same : Bool} {R : Except Bad Ty} {s t : Ty} {n : Int} {p : Nat} (h : FitsR R) : FitsR (fitG same R s t n p) := fun u hu => h u (fitG_ok hu)
end Culp.Tr
namespace Go.Proofs.YtdfadmhomjcmeaaDoor
set_option linter.unusedSimpArgs false
set_option linter.unusedVariables false
open Go.RowKit Culp
theorem stE_map {α β : Type} (f : α → β) (R : Except Tr.Bad α) : Tr.stE (R.map f) = Tr.stE R := by cases R <;> rfl
theorem stA_map {α β : Type} (f : α → β) (a : Nat) (R : Except Tr.Bad α) : Tr.stA a (R.map f) = Tr.stA a R := by cases R <;> rfl
section
variable (c B : Nat) (sm : Bool) (tv yv : Value) (ys : List ByteArray) (a : Nat) (w : World)
end
section
variable (c B : Nat) (sm : Bool) (tv yv : Value) (ys : List ByteArray) (a : Nat) (w : World)
variable (p : Nat) (x : Nd) (p0 p1 p2 : Nat) (t0 t1 t2 : Ty) (K : List (Nat × Ty)) (kv : Value)
end
end Go.Proofs.YtdfadmhomjcmeaaDoor

/- Walks of the document's checker: the table's rows that ask what must fit; the table. -/
namespace Culp.Tr
set_option linter.unusedSimpArgs false
set_option linter.unusedVariables false
def ifG (same : Bool) (p p0 : Nat) (t0 t1 : Ty) (K : List (Nat × Ty)) : Except Bad Ty := match fitT same t0 .bool 23 p0 with
  | .error b => .error b
  | .ok _ => meetsT same p t1 K
def callG (same : Bool) (p0 : Nat) (t0 : Ty) (p1 : Nat) (t1 : Ty) : Except Bad Ty := fitG same (thenPart (partT p0 t0 62 0) p0 t0 62 1) t1 (tyQ (partT p0 t0 62 0)) 23 p1
theorem fitG_goodT {α : Type} {same : Bool} {R : Except Bad α} {s t : Ty} {p : Nat} (h : Good R) : Good (fitG same R s t 23 p) := fitG_good h (by decide)
end Culp.Tr
namespace Go.Proofs.YtdfadmhomjcmeaaDoor
set_option linter.unusedSimpArgs false
set_option linter.unusedVariables false
open Go.RowKit Culp
section
variable (c B : Nat) (sm : Bool) (tv yv : Value) (ys : List ByteArray) (a : Nat) (w : World)
variable (p : Nat) (x : Nd) (p0 p1 p2 : Nat) (t0 t1 t2 : Ty) (K : List (Nat × Ty)) (kv : Value)
variable (iv : Value)
end
end Go.Proofs.YtdfadmhomjcmeaaDoor

/- Walks of the document's checker: environments; the table, whole. -/
namespace Culp.Tr
set_option linter.unusedSimpArgs false
set_option linter.unusedVariables false
section
variable {same : Bool} {x : Nd} {env : Env} {p p0 p1 p2 : Nat} {t0 t1 t2 : Ty} {K : List (Nat × Ty)}
theorem nodeG_19 (h : x.kind = 19) : nodeT same x env p ((p0, t0) :: K) = partT p0 t0 44 0 := by simp [nodeT, h]
theorem nodeG_20 (h : x.kind = 20) : nodeT same x env p ((p0, t0) :: K) = partT p0 t0 44 1 := by simp [nodeT, h]
theorem nodeG_26 (h : x.kind = 26) : nodeT same x env p ((p0, t0) :: K) = .ok (.box t0) := by simp [nodeT, h]
theorem nodeG_27 (h : x.kind = 27) : nodeT same x env p ((p0, t0) :: K) = partT p0 t0 120 0 := by simp [nodeT, h]
theorem nodeG_22 (h : x.kind = 22) : nodeT same x env p ((p0, t0) :: K) = partT p0 t0 108 0 := by simp [nodeT, h]
theorem nodeG_23 (h : x.kind = 23) : nodeT same x env p ((p0, t0) :: K) = (partT p0 t0 108 0).map .list := by simp [nodeT, h]
theorem nodeG_24 (h : x.kind = 24) : nodeT same x env p ((p0, t0) :: K) = (partT p0 t0 108 0).map fun _ => .bool := by simp [nodeT, h]
theorem nodeG_21 (h : x.kind = 21) : nodeT same x env p ((p0, t0) :: K) = (meetsT same p t0 K).map .list := by simp [nodeT, h]
theorem nodeG_18 (h : x.kind = 18) : nodeT same x env p ([(p0, t0), (p1, t1)]) = .ok (.pair t0 t1) := by simp [nodeT, h]
theorem nodeG_21e (h : x.kind = 21) : nodeT same x env p [] = .ok (.list .dyn) := by simp [nodeT, h]
theorem nodeG_29 (h : x.kind = 29) : nodeT same x env p ((p0, t0) :: K) = fitG same (.ok (noteT x.t)) t0 (noteT x.t) 23 p := by simp [nodeT, h, fitG]
theorem nodeG_5 (h : x.kind = 5) : nodeT same x env p ((p0, t0) :: K) = fitG same (.ok (.fn (noteT x.t) (noteT x.u))) t0 (noteT x.u) 23 p0 := by simp [nodeT, h, fitG]
theorem nodeG_6 (h : x.kind = 6) : nodeT same x env p ((p0, t0) :: K) = fitG same (.ok (.fn (noteT x.t) (noteT x.u))) t0 (noteT x.u) 23 p0 := by simp [nodeT, h, fitG]
theorem nodeG_8 (h : x.kind = 8) : nodeT same x env p [(p0, t0), (p1, t1)] = fitG same (.ok t1) t0 (noteT x.t) 23 p0 := by simp [nodeT, h, fitG]
theorem nodeG_28 (h : x.kind = 28) : nodeT same x env p [(p0, t0), (p1, t1)] = fitG same (partT p0 t0 120 0) t1 (tyQ (partT p0 t0 120 0)) 23 p1 := by
  simp only [nodeT, h]
  simp
  unfold fitG partT
  cases matchT t0 120 <;> simp [tyQ]
theorem nodeG_7 (h : x.kind = 7) : nodeT same x env p [(p0, t0), (p1, t1)] = callG same p0 t0 p1 t1 := by
  simp only [nodeT, h]
  simp
  unfold callG fitG thenPart partT
  cases matchT t0 62 <;> simp [tyQ]
theorem nodeG_25 (h : x.kind = 25) : nodeT same x env p [(p0, t0), (p1, t1)] = (fitG same (partT p1 t1 108 0) t0 (tyQ (partT p1 t1 108 0)) 23 p0).map .list := by
  simp only [nodeT, h]
  simp
  unfold fitG partT
  cases matchT t1 108 with
  | none => simp [tyQ]; rfl
  | some l =>
    simp only [List.getD_eq_getElem?_getD, tyQ]
    generalize fitT same t0 (l[0]?.getD .dyn) 23 p0 = r
    cases r <;> rfl
theorem nodeG_9 (h : x.kind = 9) : nodeT same x env p [(p0, t0), (p1, t1), (p2, t2)] = ifG same p p0 t0 t1 [(p2, t2)] := by
  simp only [nodeT, h]
  simp
  unfold ifG
  rfl
theorem nodeG_1 (h : x.kind = 1) : nodeT same x env p K = .ok .int := by simp [nodeT, h]
theorem nodeG_2 (h : x.kind = 2) : nodeT same x env p K = .ok .text := by simp [nodeT, h]
theorem nodeG_3 (h : x.kind = 3) : nodeT same x env p K = .ok .bool := by simp [nodeT, h]
theorem nodeG_4 (h : x.kind = 4) : nodeT same x env p K = Go.Proofs.YtdfadmhomjcmeaaDoor.lookR env x.s p := by
  simp only [nodeT, h, Go.Proofs.YtdfadmhomjcmeaaDoor.lookR]
  simp
  cases lookT env x.s <;> rfl
end
end Culp.Tr
namespace Go.Proofs.YtdfadmhomjcmeaaDoor
set_option linter.unusedSimpArgs false
set_option linter.unusedVariables false
open Go.RowKit Culp
def bcells (b : ByteArray × Ty) : List Value := [.string b.1, .string b.2.str]
theorem flat_bind : ∀ (L : List (ByteArray × Ty)) (k : Nat) (b : ByteArray × Ty), L[k]? = some b → (L.flatMap bcells)[k * 2]? = some (.string b.1) ∧ (L.flatMap bcells)[k * 2 + 1]? = some (.string b.2.str)
  | [], k, b, h => by simp at h
  | c :: L, 0, b, h => by
    simp only [List.getElem?_cons_zero, Option.some.injEq] at h
    subst h
    exact ⟨rfl, rfl⟩
  | c :: L, k + 1, b, h => by
    rw [List.getElem?_cons_succ] at h
    have := flat_bind L k b h
    rw [List.flatMap_cons, show (k + 1) * 2 = (k * 2) + 2 by omega, show k * 2 + 2 + 1 = (k * 2 + 1) + 2 by omega]
    exact this
theorem flat_bind_len (L : List (ByteArray × Ty)) : (L.flatMap bcells).length = L.length * 2 := by
  induction L with
  | nil => rfl
  | cons c L ih => rw [List.flatMap_cons, List.length_append, ih]; simp [bcells]; omega
section
variable (c B : Nat) (sm : Bool) (tv yv : Value) (ys : List ByteArray) (a : Nat) (w : World)
variable (p : Nat) (x : Nd) (kv : Value) (iv : Value) (Be : Nat) (env : Tr.Env)
end
section
variable (c B : Nat) (sm : Bool) (tv yv : Value) (ys : List ByteArray) (a : Nat) (w : World)
variable (p : Nat) (x : Nd) (env : Tr.Env) (K : List (Nat × Ty)) (kv iv : Value) (Be : Nat)
end
end Go.Proofs.YtdfadmhomjcmeaaDoor

/- Walks of the document's checker: what a kid finds bound. -/
namespace Culp
set_option linter.unusedSimpArgs false
set_option linter.unusedVariables false
open Go Go.RowKit
theorem run_copy_wide {P : Program} (w : World) (dT sT ty elem : TypeId) (g n dCap : Nat) (ad : Addr) (sCap : Nat) (cur : Array Value) (t : TypeId) (cs : List Value) (i : TypeInfo) (hu : P.underlying dT = some (.slice elem)) (hi : P.info? elem = some i)
    (hg : w.heap[g]? = some (.cells cur t (0, 0))) (hn : cs.length = n * i.size) (hsrc : ∀ j v, cs[j]? = some v → w.cell? (ad.add j) = some v) (hfit : cs.length ≤ cur.size) (h1 : ∀ v ∈ cs, v.oneCell' = true) :
    (Builtin.copy_ #[dT, sT] ty #[.slice (some ⟨g, 0, none⟩) n dCap, .slice (some ad) n sCap]).run P w = .ok (goInt n) (w.setRow g (cs ++ cur.toList.drop cs.length).toArray) := by
  have hl := run_loadCells_list (P := P) w ad cs hsrc
  have hst := run_storeCells_at P g 0 t cs 0 cur w hg (by simpa using hfit) h1
  simp [Builtin.copy_, run_underlying hu, Builtin.lenOf, Builtin.firstCells, Go.sizeOf, typeInfo, hi, ← hn, hl, hst]
theorem run_copy_zero {P : Program} (w : World) (dT sT ty elem : TypeId) (d a : Option Addr) (dCap sCap : Nat) (i : TypeInfo) (hu : P.underlying dT = some (.slice elem)) (hi : P.info? elem = some i) :
    (Builtin.copy_ #[dT, sT] ty #[.slice d 0 dCap, .slice a 0 sCap]).run P w = .ok (goInt 0) w := by
  have hl : ∀ (x : Addr), (loadCells x 0).run P w = .ok #[] w := fun x => by simpa using run_loadCells_list (P := P) w x [] (by simp)
  cases d <;> cases a <;> simp [Builtin.copy_, run_underlying hu, Builtin.lenOf, Builtin.firstCells, Go.sizeOf, typeInfo, hi, storeCells, hl]
theorem wpList_copy_wide {P : Program} {w : World} {ops : Array Oper} {rest : List Oper} {o : Oper} {a : Act} {Q : Exit → Act → World → Prop} (hgd : o.guard = none) (d s : Operand) (dT sT : TypeId)
    (ho : o.op = .call { callee := .builtin .copy, args := #[d, s], argTypes := #[dT, sT] }) (elem : TypeId) (hu : P.underlying dT = some (.slice elem)) (i : TypeInfo) (hi : P.info? elem = some i) (size : Nat) (hsz : i.size = size) (h0 : 0 < size)
    (g n C : Nat) (A : Option Addr) (hd : a.eval d = .slice (some ⟨g, 0, none⟩) n n) (hs : a.eval s = .slice A n C) (base : Nat) (zs : List Value) (hown : w.ownsRow base elem size (.slice (some ⟨g, 0, none⟩) n n) n zs)
    (cs : List Value) (hcs : cs.length = n * size) (hA : 0 < n → ∃ ad, A = some ad ∧ ∀ j v, cs[j]? = some v → w.cell? (ad.add j) = some v) (h1 : ∀ v ∈ cs, v.oneCell' = true) (w0 : World) (hb : Below base w0 w)
    (h : ∀ w', w'.ownsRow base elem size (.slice (some ⟨g, 0, none⟩) n n) n cs → Below base w0 w' → wpList P ops Q rest (a.put o.dst (goInt n)) w') : wpList P ops Q (o :: rest) a w := by
  refine wpList_plain hgd fun K hK => ?_
  rcases hown.2 with ⟨e, _⟩ | ⟨g', cap, cur, e, hB, hh, hc, hm, hcz, htk⟩
  · cases e
  simp only [Value.slice.injEq, Option.some.injEq, Addr.mk.injEq] at e
  obtain ⟨⟨rfl, _, _⟩, _, rfl⟩ := e
  by_cases hn : n = 0
  · subst hn
    have hcn : cs = [] := List.eq_nil_of_length_eq_zero (by rw [hcs, Nat.zero_mul])
    have hrun := run_copy_zero (P := P) w dT sT o.type elem (some ⟨g, 0, none⟩) A 0 C i hu hi
    unfold Oper.wp
    simp [execOp, ho, resolve, invoke, builtin, hd, hs, hrun, Result.andThen]
    refine hK _ _ (h w ?_ hb)
    subst hcn
    have hz : zs = [] := List.eq_nil_of_length_eq_zero (by rw [hown.1, Nat.zero_mul])
    rw [hz] at hown
    exact hown
  · obtain ⟨ad, rfl, hsrc⟩ := hA (by omega)
    have hcl : cs.length = cur.size := by rw [hcs, hcz]
    have hrun := run_copy_wide (P := P) w dT sT o.type elem g n n ad C cur elem cs i hu hi hh (by rw [hcs, hsz]) hsrc (by omega) h1
    have hdr : cur.toList.drop cs.length = [] := List.drop_eq_nil_of_le (by rw [hcl, Array.length_toList]; omega)
    rw [hdr, List.append_nil] at hrun
    unfold Oper.wp
    simp [execOp, ho, resolve, invoke, builtin, hd, hs, hrun, Result.andThen]
    refine hK _ _ (h _ ⟨hcs, .inr ⟨g, n, cs.toArray, rfl, hB, setRow_heap w g cur cs.toArray elem _ hh, Nat.le_refl _, hm, ?_, ?_⟩⟩ ?_)
    · simpa using hcs
    · rw [List.take_of_length_le (by simpa using Nat.le_of_eq hcs)]
    · exact hb.trans ⟨rfl, rfl, rfl, by simp [World.setRow], fun k hk => setRow_other w g k cs.toArray (by omega)⟩
end Culp
namespace Go.Proofs.YtdfadmhomjcmeaaDoor
set_option linter.unusedSimpArgs false
set_option linter.unusedVariables false
open Go.RowKit Culp
theorem bcells_one {l : List (ByteArray × Ty)} : ∀ v ∈ l.flatMap bcells, v.oneCell' = true := fun v hv => by
  rw [List.mem_flatMap] at hv
  obtain ⟨b, _, hb⟩ := hv
  simp only [bcells, List.mem_cons, List.not_mem_nil, or_false] at hb
  rcases hb with rfl | rfl <;> rfl
theorem rev_cons (b : ByteArray × Ty) (l : List (ByteArray × Ty)) : (b :: l).reverse.flatMap bcells = l.reverse.flatMap bcells ++ [.string b.1, .string b.2.str] := by
  rw [List.reverse_cons, List.flatMap_append]
  rfl
theorem add_zero_addr (g j : Nat) : (⟨g, 0, none⟩ : Addr).add j = ⟨g, j, none⟩ := by
  unfold Addr.add
  split
  · rename_i h0; subst h0; rfl
  · simp
/-- The names of a function that calls itself. -/
def NamesNm (s : ByteArray) (w : World) (e : Ending) (w' : World) : Prop := ∃ a b : ByteArray, e = .returned (.tuple #[.string a, .string b]) ∧ (∀ x y, Tr.two s.data.toList = some (x, y) → a = ⟨x.toArray⟩ ∧ b = ⟨y.toArray⟩) ∧ Below w.heap.size w w'
section
variable (c : Nat) (w : World) (x : Nd) (k : Nat) (env : Tr.Env) (iv : Value) (Be : Nat)
end
end Go.Proofs.YtdfadmhomjcmeaaDoor
