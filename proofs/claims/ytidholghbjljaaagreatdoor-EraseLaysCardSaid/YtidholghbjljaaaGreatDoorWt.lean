
/- Memory: modules of one's own, whose slots' texts are written. No program in sight. -/
import Derived.Test.YtidholghbjljaaaGreatDoorWr
import Derived.Test.YtidholghbjljaaaGreatDoorWi
namespace Culp.Er
set_option linter.unusedSimpArgs false
set_option linter.unusedVariables false
open Go Go.RowKit Culp
/-- Modules all of whose rows are one's own. -/
structure OwnSt (sk : Sk) (L : List Md) (H : Nat) (f : Pos → ByteArray) (w : World) : Prop where
  mat : MAt sk w L f
  mix : Mixed sk H L (fun _ => True) w
section
variable {sk : Sk} {L : List Md} {H K : Nat} {f : Pos → ByteArray} {w w' : World} {p : Pos} {t : ByteArray}
theorem Under.blk (h : Under sk K L) {r : Row} (hr : r.has L) : r.blk sk < K := by
  cases r with
  | all => exact h.b hr
  | imp m => obtain ⟨md, hm, hp⟩ := hr; exact h.ib m md hm hp
  | dfs m => obtain ⟨md, hm, hp⟩ := hr; exact h.db m md hm hp
  | nds m i => obtain ⟨md, d, hm, hd, hp⟩ := hr; exact h.tb m md hm i d hd hp
theorem OwnSt.keep (h : OwnSt sk L H f w) (hu : Under sk K L) (hb : Below K w w') : OwnSt sk L H f w' := ⟨h.mat.keep hu hb, h.mix.inj, fun r hd hr => by
  obtain ⟨h1, h2, h3⟩ := h.mix.own r hd hr
  exact ⟨h1, Nat.lt_of_lt_of_le h2 hb.size, h3.of (hb.block _ (hu.blk hr))⟩, h.mix.nil, h.mix.old⟩
theorem OwnSt.lay (h : OwnSt sk L H f w) (hp : Real L p) : OwnSt sk L H (upd f p t) (w.setCell (addr sk p) (.string t)) := ⟨h.mat.set (h.mix.all fun _ _ => trivial) hp, h.mix.set _ _⟩
theorem OwnSt.free (h : OwnSt sk L H f w) (hp : Real L p) : w.frozen? (addr sk p) = false := by
  obtain ⟨_, _, _, _, cs, _, _, _, hh, _⟩ := h.mix.own _ trivial hp.has
  rw [addr_eq]
  simp [World.frozen?, hh]
theorem OwnSt.under (h : OwnSt sk L H f w) : Under sk w.heap.size L := by
  have key : ∀ r : Row, r.has L → r.blk sk < w.heap.size := fun r hr => (h.mix.own r trivial hr).2.1
  exact ⟨fun h0 => key .all h0, fun m md hm h0 => key (.imp m) ⟨md, hm, h0⟩, fun m md hm h0 => key (.dfs m) ⟨md, hm, h0⟩, fun m md hm i d hd h0 => key (.nds m i) ⟨md, d, hm, hd, h0⟩⟩
theorem OwnSt.low (h : OwnSt sk L H f w) (hp : Real L p) : H ≤ (addr sk p).block := by
  rw [addr_eq]; exact (h.mix.own _ trivial hp.has).1
theorem addr_lt (hu : Under sk K L) (hp : Real L p) : (addr sk p).block < K := by
  rw [addr_eq]; exact hu.blk hp.has
theorem MAt.cell (h : MAt sk w L f) (hp : Real L p) : w.cell? (addr sk p) = some (.string (f p)) := by
  obtain ⟨a, m, i, k⟩ := p
  obtain ⟨md, hm, h2⟩ := hp
  simp only at hm h2
  have hk := h m md hm
  rcases h2 with ⟨rfl, hi, rfl⟩ | ⟨d, hd, ⟨rfl, rfl⟩ | ⟨h2, hk'⟩⟩
  · exact (hk.imps i _ (List.getElem?_eq_getElem hi)).2.2.1
  · exact (hk.defs i d hd).1.2.2.1
  · have hn := hk.nodes i d hd k _ (List.getElem?_eq_getElem hk')
    rcases h2 with rfl | rfl
    · exact hn 4 _ rfl
    · exact hn 5 _ rfl
end
theorem OwnSt.low' {sk : Sk} {L : List Md} {f : Pos → ByteArray} {H H' : Nat} {w : World} (h : OwnSt sk L H f w) (hH : H' ≤ H) : OwnSt sk L H' f w := ⟨h.mat, h.mix.inj, fun r hd hr => ⟨Nat.le_trans hH (h.mix.own r hd hr).1, (h.mix.own r hd hr).2⟩, h.mix.nil, fun r hd _ => absurd trivial hd⟩
/-- A text laid in one of the first slots. -/
def layTo (S : List Sl) (f : Pos → ByteArray) (slot : Int) (t : ByteArray) (k : Nat) : Pos → ByteArray := match S[slot.toNat]? with
  | some s => if 0 ≤ slot ∧ slot < k then upd f s.pos (laid s t) else f
  | none => f
section
variable {S : List Sl} {f : Pos → ByteArray} {slot : Int} {t : ByteArray} {k : Nat} {s : Sl}
theorem layTo_zero : layTo S f slot t 0 = f := by
  unfold layTo
  split
  · rw [if_neg (by omega)]
  · rfl
theorem layTo_hit (h : S[k]? = some s) (he : slot = (k : Int)) : layTo S f slot t (k + 1) = upd (layTo S f slot t k) s.pos (laid s t) := by
  subst he
  unfold layTo
  rw [Int.toNat_natCast, h]
  simp only
  rw [if_pos (by omega), if_neg (by omega)]
theorem layTo_miss (h : slot ≠ (k : Int)) : layTo S f slot t (k + 1) = layTo S f slot t k := by
  unfold layTo
  split
  · by_cases h2 : 0 ≤ slot ∧ slot < k
    · rw [if_pos (by omega), if_pos h2]
    · rw [if_neg (by omega), if_neg h2]
  · rfl
end
end Culp.Er
