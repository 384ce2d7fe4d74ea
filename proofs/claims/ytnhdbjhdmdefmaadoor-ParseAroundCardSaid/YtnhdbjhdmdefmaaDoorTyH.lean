
/- Arguments: bytes that came in; a copy of bytes. -/
import Derived.Test.YtnhdbjhdmdefmaaDoorTyD
import Derived.ChangeSlices
import Derived.Deep.Slices
import Derived.ChangeSame
import Derived.SizedLaws
import Derived.OpenShut
import Derived.Laws.BytesArg
namespace Culp
set_option linter.unusedSimpArgs false
set_option linter.unusedVariables false
open Go Go.RowKit
/-- Many more elements, their source anywhere. -/
theorem append_at {P : Program} {w : World} {ops : Array Oper} {rest : List Oper} {o : Oper} {a : Act} {Q : Exit → Act → World → Prop} (hgd : o.guard = none) (s x : Operand) (t e : TypeId)
    (ho : o.op = .call { callee := .builtin .append, args := #[s, x], argTypes := #[t, t] })
    (base : Nat) (z : Value) (bytes : Nat) (ht : P.underlying t = some (.slice e)) (hi : (P.info? e).map (fun i => (i.zero, i.size, i.bytes)) = some (some z, 1, bytes))
    (hzs : z.cells.size = 1)
    (v : Value) (n : Nat) (xs : List Value) (hs : a.eval s = v) (hown : w.ownsRow base e 1 v n xs)
    (b off m c : Nat) (news : List Value) (hx : a.eval x = .slice (some ⟨b, off, none⟩) m c) (hl : news.length = m)
    (hA : ∀ i u, news[i]? = some u → w.cell? ⟨b, off + i, none⟩ = some u) (h1 : ∀ u ∈ news, u.oneCell' = true)
    (h63 : n + m ≤ 1000000000000000) (hbytes : (n + m) * bytes ≤ 140737488355328) (hbase : base ≤ w.heap.size)
    (h : ∀ v' w', w'.ownsRow base e 1 v' (n + m) (xs ++ news) → w.grownBy w' v.ownBlock → Below base w w' → wpList P ops Q rest (a.put o.dst v') w') :
    wpList P ops Q (o :: rest) a w := by
  obtain ⟨i, hi, hz, hz1, hz2⟩ := info_parts hi
  refine wpList_append_own _ hgd s x t ho base e i z 1 bytes ht hi hz hz1 hz2 hzs (by decide) v n xs hs hown ⟨b, off, none⟩ m c news hx (by omega) ?_ h1 (by unfold maxLen; omega) hbytes hbase ?_
  · intro j u hj
    have := hA j u hj
    have e1 : (⟨b, off, none⟩ : Addr).add j = ⟨b, off + j, none⟩ := by
      unfold Addr.add
      split
      · rename_i h0; subst h0; rfl
      · simp
    rw [e1]; exact this
  · intro v' w' hown' hg _
    refine h v' w' hown' hg ((Below.refl base w).grown hg hbase fun k hk => ?_)
    exact (hown.lt k hk).1
end Culp
namespace Go.Proofs.YtnhdbjhdmdefmaaDoor
open Go.RowKit Go.Maps Culp Go.ChangeShapes Go.WideShapes Go.Deep

theorem run_append_zero {P : Program} (w : World) (t ty e : TypeId) (i : TypeInfo) (ht : P.underlying t = some (.slice e)) (hi : P.info? e = some i) (A : Option Addr) (c : Nat) :
    (Builtin.append_ #[t, t] ty #[.slice none 0 0, .slice A 0 c]).run P w = .ok (.slice none 0 0) w := by
  cases A with
  | none => simp [Builtin.append_, run_underlying ht, Go.sizeOf, typeInfo, hi, Builtin.lenOf, Builtin.firstCells]
  | some a => simp [Builtin.append_, run_underlying ht, Go.sizeOf, typeInfo, hi, Builtin.lenOf, Builtin.firstCells, loadCells, loadCellsFrom]
theorem append_zero {P : Program} {w : World} {ops : Array Oper} {rest : List Oper} {o : Oper} {a : Act} {Q : Exit → Act → World → Prop} (hgd : o.guard = none) (s x : Operand) (t e : TypeId)
    (ho : o.op = .call { callee := .builtin .append, args := #[s, x], argTypes := #[t, t] }) (i : TypeInfo) (ht : P.underlying t = some (.slice e)) (hi : P.info? e = some i)
    (hs : a.eval s = .slice none 0 0) (A : Option Addr) (c : Nat) (hx : a.eval x = .slice A 0 c) (h : wpList P ops Q rest (a.put o.dst (.slice none 0 0)) w) : wpList P ops Q (o :: rest) a w := by
  refine wpList_plain hgd fun K hK => ?_
  unfold Oper.wp execOp
  simp only [ho, resolve, invoke, builtin, Sem.run_bind, Sem.run_pure, Result.andThen_ok, List.map_toArray, List.map_cons, List.map_nil, hs, hx, run_append_zero w t _ e i ht hi A c]
  exact hK _ _ h
theorem get_byte (s : ByteArray) (k : Nat) (hk : k < s.size) : s.data.toList[k]? = some s[k] := by
  rw [List.getElem?_eq_getElem (by rw [size_list]; exact hk)]; rfl
theorem u8_cells : Tryd.prog.cellsOf 5 = 1 := by kernel_rfl
set_option maxRecDepth 100000 in
theorem open_bytes {H : Type} {enc : TypeId × Value → H} {w : World} {base : Nat} {spare : Nat → Bool} {held : Bool} {r : Reach} {b0 : Nat} {v : Value} {d : DataW H} {p : List MemPlace} (hv : Value.okWide Tryd.prog w r b0 31 v) (h : DataW.Trod enc Tryd.prog w base spare held 31 v d p) :
    ∃ s : ByteArray, BytesV w v s ∧ s.size ≤ maxLen := by
  obtain ⟨A, len, cap, rfl⟩ := okWide_slice Tryd.underlying31 hv
  obtain ⟨fuel, hf⟩ := h
  rcases open_ints (k := .u8) Tryd.underlying31 Tryd.underlying5 u8_cells hf with ⟨h0, h1⟩ | ⟨a, len', cap', zs, hcs, hb, hl, hm, hz, hx, hi, hw⟩
  · simp [Value.cells] at h0
    obtain ⟨rfl, rfl, rfl⟩ := h0
    exact ⟨⟨#[]⟩, ⟨none, 0, rfl, Nat.le_refl _, fun h => absurd h (by decide)⟩, Nat.zero_le _⟩
  · simp [Value.cells] at hcs
    obtain ⟨rfl, rfl, rfl⟩ := hcs
    have hlz : len ≤ zs.length := by rw [hz]; split <;> omega
    have hsz : (strOfNums (zs.take len)).size = len := by rw [strOfNums_size, List.length_take]; omega
    refine ⟨strOfNums (zs.take len), ⟨some a, cap, by rw [hsz], by rw [hsz]; exact hl, fun h0 => ?_⟩, by rw [hsz]; omega⟩
    rw [hsz] at h0
    have hsp : a.spot = none := by
      have := hi 0 (by omega)
      simpa [Addr.add] using World.cell?_spot this
    obtain ⟨b, off, sp⟩ := a
    simp only at hsp
    subst hsp
    refine ⟨b, off, rfl, fun i hil => ?_⟩
    rw [hsz] at hil
    have hc := hi i (by omega)
    have hadd : (⟨b, off, none⟩ : Addr).add i = ⟨b, off + i, none⟩ := by
      unfold Addr.add; split
      · rename_i h0; subst h0; rfl
      · simp
    rw [hadd] at hc
    rw [hc]
    have hmem : zs.getD i 0 ∈ zs := by
      rw [List.getD_eq_getElem?_getD, List.getElem?_eq_getElem (by omega), Option.getD_some]; exact List.getElem_mem _
    have hwf := hw _ hmem
    have hz0 := bounds_u8 hwf
    have hil2 : i < zs.length := by omega
    have hgd : zs.getD i 0 = zs[i] := by rw [List.getD_eq_getElem?_getD, List.getElem?_eq_getElem hil2, Option.getD_some]
    rw [hgd] at hz0 ⊢
    have hget := get_byte (strOfNums (zs.take len)) i (by omega)
    rw [strOfNums_data, List.getElem?_map, List.getElem?_take_of_lt hil, List.getElem?_eq_getElem hil2] at hget
    simp only [Option.map_some, Option.some.injEq] at hget
    rw [← hget]
    congr 2
    rw [UInt8.toNat_ofNat']
    omega
theorem copy_res {w w' : World} {v : Value} {s : ByteArray} (h : w'.ownsRow w.heap.size 5 1 v s.size (s.data.toList.map byteV)) : BytesV w' v s := by
  have hcap : ∃ A c, v = .slice A s.size c ∧ s.size ≤ c := by
    rcases h.2 with ⟨rfl, h0⟩ | ⟨g, cap, cur, rfl, _, _, hc, _⟩
    · exact ⟨none, 0, by rw [h0], by omega⟩
    · exact ⟨_, cap, rfl, hc⟩
  obtain ⟨A0, c0, e0, hc0⟩ := hcap
  obtain ⟨A, c, e1, _, hA⟩ := own_form h
  rw [e0] at e1
  injection e1 with e1 _ e2
  subst e1 e2
  refine ⟨_, _, e0, hc0, fun h0 => ?_⟩
  obtain ⟨g, rfl, _, hc⟩ := hA h0
  refine ⟨g, 0, rfl, fun i hi => ?_⟩
  rw [Nat.zero_add]
  refine hc i _ ?_
  rw [List.getElem?_map, get_byte s i hi]; rfl
end Go.Proofs.YtnhdbjhdmdefmaaDoor
