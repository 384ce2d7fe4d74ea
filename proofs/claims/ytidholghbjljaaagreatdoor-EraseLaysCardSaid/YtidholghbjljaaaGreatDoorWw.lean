
/- Walks of erase: bare. -/
import Derived.Test.YtidholghbjljaaaGreatDoorWv
import Derived.Deep.QuietTactic
import Derived.BigQuiet
namespace Go.Proofs.YtidholghbjljaaaGreatDoor
set_option linter.unusedSimpArgs false
set_option linter.unusedVariables false
open Go.RowKit Culp Culp.Er
/-- What holds while modules are bared. -/
structure BareI (sk : Sk) (L : List Md) (f : Pos → ByteArray) (H nb : Nat) (W0 : World) (k : Nat) (o : Option Nat) (v : Value) (W : World) : Prop where
  cell : One nb 110 v W
  row : W.ownsRow (nb + 1) 9 1 v k ((bareAt (slots L) f k).1.map Value.string)
  blk : v.ownBlock = o
  own : OwnSt sk L H (bareAt (slots L) f k).2 W
  below : Below H W0 W
theorem eq_noK (t : ByteArray) : known t = if t = no then dynB else t := rfl
section
variable {sk : Sk} {L : List Md} {f : Pos → ByteArray} {H K nb : Nat} {W0 W W' : World} {k : Nat} {o : Option Nat} {v : Value}
theorem BareI.keep (h : BareI sk L f H nb W0 k o v W) (hu : Under sk K L) (hnb : nb < K) (hH : H ≤ K) (hb : Below K W W') (hs : ∀ g, o = some g → W'.heap[g]? = W.heap[g]?) : BareI sk L f H nb W0 k o v W' :=
  ⟨h.cell.keep hb hnb, own_same h.row fun g hg => hs g (h.blk ▸ hg), h.blk, h.own.keep hu hb, h.below.trans (hb.mono hH)⟩
set_option maxRecDepth 100000 in
set_option maxHeartbeats 3200000 in
theorem bare1_any (s : Sl) (K0 : Nat) (hk : (slots L)[k]? = some s) (hkl : k ≤ 1000000000) (h : BareI sk L f H nb W0 k o v W) (hu : Under sk K0 L) (hnb : K0 ≤ nb) (hHK : H ≤ K0) (hK : nb < K) (hKW : K ≤ W.heap.size) :
    Calls Tryz.prog 104 #[.int .i64 k, slotV s ((bareAt (slots L) f k).2 s.pos), placeV sk s, .pointer (some ⟨nb, 0, none⟩)] W fun e W' => e = .returned (.tuple #[]) ∧ Over K o W W' ∧ ∃ o' v', BareI sk L f H nb W0 (k + 1) o' v' W' ∧ (o' = o ∨ ∃ g, o' = some g ∧ W.heap.size ≤ g) := by
  have hreal := slots_real (List.mem_of_getElem? hk)
  have hst : bareAt (slots L) f (k + 1) = stepB (bareAt (slots L) f k) s := bare_step hk
  have HB2 : Hid (∀ a b, Below W.heap.size W ((W.alloc a).alloc b)) := Lib.hid fun a b => below_two W a b
  have HI := Lib.hid h
  have hnbW : nb < W.heap.size := by omega
  have HNE := Lib.hid (own_ne_cell h.row h.cell (by decide))
  have c0 := h.cell.cell
  have c0f := h.cell.free
  obtain ⟨An, cn, rfl⟩ := own_shape h.row
  have HR := Lib.hid hreal
  have HO : Hid (∀ a b, ((W.alloc a).alloc b).ownsRow (nb + 1) 9 1 (.slice An k cn) k ((bareAt (slots L) f k).1.map Value.string)) := Lib.hid fun a b => (h.row.alloc a).alloc b
  have HS1 : Hid ((bareAt (slots L) f (k + 1)).1.map Value.string = (bareAt (slots L) f k).1.map Value.string ++ [.string (known ((bareAt (slots L) f k).2 s.pos))]) := Lib.hid (by rw [hst]; unfold stepB; simp)
  have HS2 : Hid ((bareAt (slots L) f (k + 1)).2 = upd (bareAt (slots L) f k).2 s.pos no) := Lib.hid (by rw [hst]; rfl)
  have e1 := eq_no ((bareAt (slots L) f k).2 s.pos)
  have HKN := Lib.hid (eq_noK ((bareAt (slots L) f k).2 s.pos))
  -- the end: the row told, the text laid
  have HEND : Hid (∀ (a b : Obj) (v' : Value) (w5 : World), w5.ownsRow (nb + 1) 9 1 v' (k + 1) ((bareAt (slots L) f (k + 1)).1.map Value.string) → ((W.alloc a).alloc b).grownBy w5 (Value.slice An k cn).ownBlock → (v'.ownBlock = (Value.slice An k cn).ownBlock ∨ v'.ownBlock = some (W.heap.size + 1 + 1 + 1)) →
      One nb 110 (.slice An k cn) w5 ∧ (∀ c z t, b = .cells c t z → w5.heap[W.heap.size + 1]? = some (.cells c t z)) ∧ (w5.setCell ⟨nb, 0, none⟩ v').cell? (addr sk s.pos) = some (.string ((bareAt (slots L) f k).2 s.pos)) ∧ (w5.setCell ⟨nb, 0, none⟩ v').frozen? (addr sk s.pos) = false ∧
      Over K o W ((w5.setCell ⟨nb, 0, none⟩ v').setCell (addr sk s.pos) (.string no)) ∧ ∃ o' v'', BareI sk L f H nb W0 (k + 1) o' v'' ((w5.setCell ⟨nb, 0, none⟩ v').setCell (addr sk s.pos) (.string no)) ∧ (o' = o ∨ ∃ g, o' = some g ∧ W.heap.size ≤ g)) := Lib.hid fun a b v' w5 h1 h2 h3 => by
    have hobn : ∀ g, o = some g → nb + 1 ≤ g ∧ g < W.heap.size := fun g hg => HI.out.row.lt g (HI.out.blk.trans hg)
    have hP := Pushed.mk (T := 110) HI.out.cell HNE.out (HB2.out a b) h1 h2 (h3.imp id fun e => ⟨_, e, by omega⟩)
    obtain ⟨-, v'', p1, p2, p3, p4⟩ := hP
    rw [HI.out.blk] at p3 p4
    have hbb : Below K0 W (w5.setCell ⟨nb, 0, none⟩ v') := p3.below (Below.refl _ _) (by omega) hnb (fun g hg => by have := hobn g hg; omega)
    have ho := HI.out.own.keep hu hbb
    have hal := addr_lt hu HR.out
    have hlo := HI.out.own.low HR.out
    have hs5 := hbb.size
    have hv'' : v''.ownBlock ≠ some (addr sk s.pos).block := fun e => by
      have := (p2.lt _ e).1
      omega
    refine ⟨(h2.block nb (by rw [World.size_alloc, World.size_alloc]; omega) (fun e => HNE.out e.symm)).trans (((HB2.out a b).block nb hnbW).trans HI.out.cell), fun c z t hb => ?_, ho.mat.cell HR.out, ho.free HR.out, ⟨by rw [World.size_setCell]; exact hs5, fun b h1 h2 h3 => ?_⟩, v''.ownBlock, v'', ⟨?_, ?_, rfl, ?_, ?_⟩, ?_⟩
    · rw [h2.block _ (by rw [World.size_alloc, World.size_alloc]; omega) (fun e => by
        have := hobn _ (HI.out.blk.symm.trans e.symm)
        omega), ← World.size_alloc W a, World.alloc_heap_new, hb]
    · rw [Below.heap_setCell _ _ _ _ (show b ≠ (addr sk s.pos).block by omega)]
      exact p3.block b h2 (by omega) h3
    · exact (Below.heap_setCell _ _ _ _ (show nb ≠ (addr sk s.pos).block by omega)).trans p1
    · exact own_same p2 fun g hg => Below.heap_setCell _ _ _ _ (fun e => hv'' (by rw [hg, e]))
    · rw [HS2.out]; exact ho.lay HR.out
    · exact HI.out.below.trans (below_setCell (hbb.mono (by omega)) hlo)
    · exact p4
  clear h hst hreal
  unfold slotV placeV
  generalize (bareAt (slots L) f k).2 s.pos = t at *
  by_cases ht : t = no
  · have hkn : known t = { data := #[63] } := by rw [HKN.out, if_pos ht]; rfl
    rw [hkn] at HS1
    rw [decide_eq_true ht] at e1
    rw [HS1.out] at HEND
    clear ht hkn
    go_enter Tryz.func104, Tryz.ntmps104
    go_wp2_with (at_builtin; refine append_agg_at rfl (.tmp 11) (.tmp 14) 110 9 rfl (nb + 1) _ 1 16 Tryz.underlying110 strings_info rfl (by decide) _ _ _ rfl (HO.out _ _) [.string { data := #[63] }] rfl (W.heap.size + 2) rfl (by simp) ?_ ?_ ?_ ?_ ?_)
    · intro y hy; simp only [List.mem_cons, List.not_mem_nil, or_false] at hy; subst hy; rfl
    · omega
    · omega
    · simp; omega
    intro v' w5 hown' hg' hb' hat
    obtain ⟨h5, h6, h7, h8, h9⟩ := HEND.out _ _ v' w5 hown' hg' hat
    have c5 := h5.cell
    have f5 := h5.free
    have hbx := h6 _ _ _ rfl
    obtain ⟨A5, k5, rfl⟩ := own_shape hown'
    obtain ⟨w6, hw6⟩ : ∃ w6, w5.setCell ⟨nb, 0, none⟩ (.slice A5 (k + 1) k5) = w6 := ⟨_, rfl⟩
    have b0 : w6.cell? ⟨W.heap.size + 1, 0, none⟩ = some (.pointer (some (addr sk s.pos))) := by
      rw [← hw6, World.cell?_of_block (a := ⟨W.heap.size + 1, 0, none⟩) (Below.heap_setCell _ _ _ _ (show W.heap.size + 1 ≠ nb by omega))]
      simp [World.cell?, hbx]
    rw [hw6] at h7 h8 h9
    have H9 := Lib.hid h9
    clear hown' hg' hb' hat h5 h6 h9 hbx c0 c0f HEND HO HI HR HKN
    go_wp2_with fail
    exact bodyPost_end (v := .tuple #[]) (by simp [results, Tryz.results104, go_sem]) rfl ⟨rfl, H9.out⟩
  · have hkn : known t = t := by rw [HKN.out, if_neg ht]
    rw [hkn] at HS1
    rw [decide_eq_false ht] at e1
    rw [HS1.out] at HEND
    clear ht hkn
    go_enter Tryz.func104, Tryz.ntmps104
    go_wp2_with (at_builtin; refine append_agg_at rfl (.tmp 11) (.tmp 14) 110 9 rfl (nb + 1) _ 1 16 Tryz.underlying110 strings_info rfl (by decide) _ _ _ rfl (HO.out _ _) [.string t] rfl (W.heap.size + 2) rfl (by simp) ?_ ?_ ?_ ?_ ?_)
    · intro y hy; simp only [List.mem_cons, List.not_mem_nil, or_false] at hy; subst hy; rfl
    · omega
    · omega
    · simp; omega
    intro v' w5 hown' hg' hb' hat
    obtain ⟨h5, h6, h7, h8, h9⟩ := HEND.out _ _ v' w5 hown' hg' hat
    have c5 := h5.cell
    have f5 := h5.free
    have hbx := h6 _ _ _ rfl
    obtain ⟨A5, k5, rfl⟩ := own_shape hown'
    obtain ⟨w6, hw6⟩ : ∃ w6, w5.setCell ⟨nb, 0, none⟩ (.slice A5 (k + 1) k5) = w6 := ⟨_, rfl⟩
    have b0 : w6.cell? ⟨W.heap.size + 1, 0, none⟩ = some (.pointer (some (addr sk s.pos))) := by
      rw [← hw6, World.cell?_of_block (a := ⟨W.heap.size + 1, 0, none⟩) (Below.heap_setCell _ _ _ _ (show W.heap.size + 1 ≠ nb by omega))]
      simp [World.cell?, hbx]
    rw [hw6] at h7 h8 h9
    have H9 := Lib.hid h9
    clear hown' hg' hb' hat h5 h6 h9 hbx c0 c0f HEND HO HI HR HKN
    go_wp2_with fail
    exact bodyPost_end (v := .tuple #[]) (by simp [results, Tryz.results104, go_sem]) rfl ⟨rfl, H9.out⟩
set_option maxRecDepth 100000 in
theorem bare_each (A2 : Option Addr) (c2 K0 : Nat) (hA2 : 0 < L.length → A2 = some ⟨sk.b, sk.o, none⟩) (hc2 : L.length ≤ c2) (h : BareI sk L (note L) H nb W0 0 none v W) (hu : Under sk K0 L) (hnb : K0 ≤ nb) (hHK : H ≤ K0) (hK : nb < W.heap.size) (hS : Sp W) (hz : ∀ m ∈ L, MdSz m) (h0 : Mo.mods L = 0) :
    Calls Tryz.prog 37 #[.slice A2 L.length c2, .func (.func 104) #[] #[.pointer (some ⟨nb, 0, none⟩)]] W fun e w' => e = .returned (.int .i64 0) ∧ ∃ o v', BareI sk L (note L) H nb W0 (slots L).length o v' w' := by
  have hft := fits_of h0
  refine (each_ok sk L (fun k => (bareAt (slots L) (note L) k).2) A2 c2 hA2 hc2 hft 104 (by intro a b; rfl) _ _ hS (by show ∀ m ∈ lay (note L) L, MdSz m; rw [lay_note]; exact hz) (by show Mo.mods (lay (note L) L) = 0; rw [lay_note]; exact h0) (fun k o W => ∃ v, BareI sk L (note L) H nb W0 k o v W)
    (fun k o W g hI hg => ?_) (fun k o W W' hI hb hs => ?_) (fun k o W hI => hI.choose_spec.own.mat) ⟨_, h⟩ ?_).mono ?_
  · obtain ⟨v, hI⟩ := hI
    have hr := hI.row
    rw [← hI.blk] at hg
    rcases hr.2 with ⟨rfl, _⟩ | ⟨g', cap, cur, rfl, _, hh, _⟩
    · cases hg
    · injection hg with hg
      obtain rfl : g' = g := hg
      exact ⟨_, hh, rfl⟩
  · obtain ⟨v, hI⟩ := hI
    exact ⟨v, hI.keep (hu.mono (by omega)) hK (by omega) hb hs⟩
  · intro k s o W1 hs hI hlt
    obtain ⟨v, hI⟩ := hI
    have hkl := (List.getElem?_eq_some_iff.1 hs).1
    refine (bare1_any s K0 hs (by have := hft.len; omega) hI hu hnb hHK hK hlt).mono ?_
    rintro E W' ⟨rfl, h1, o', v', h2, h3⟩
    exact ⟨rfl, h1, o', ⟨v', h2⟩, h3⟩
  · rintro E w' ⟨rfl, ⟨o, v, h1⟩, -⟩
    exact ⟨rfl, o, v, h1⟩
end
def BareRes (L : List Md) (w : World) (E : Ending) (w' : World) : Prop := Below w.heap.size w w' ∧ ∃ A c nv, E = .returned (.tuple #[.slice A L.length c, nv, .bool (decide (Mo.mods L = 0))]) ∧ (∃ A n c, nv = .slice A n c) ∧
  (Mo.mods L = 0 → OutRes L (bareAt (slots L) (note L) (slots L).length).2 w.heap.size (.slice A L.length c) w' ∧ w'.ownsRow w.heap.size 9 1 nv (slots L).length ((bareAt (slots L) (note L) (slots L).length).1.map Value.string))
set_option maxRecDepth 100000 in
set_option maxHeartbeats 3200000 in
theorem bare_any (L : List Md) (v : Value) (w : World) (hm : Mods w v L) (hS : Sp w) (hl : Lens L) (hz : ∀ m ∈ L, MdSz m) : Calls Tryz.prog 74 #[v] w (BareRes L w) := by
  obtain ⟨sk, hM, ⟨A, c, rfl, hc, hA⟩, hu⟩ := sk_of_mods hm
  have HC := Lib.hid (copied_any sk L (note L) A c w hA hM hu hl)
  have HS := Lib.hid hS
  have HZ := Lib.hid hz
  have HL : Hid (L.length ≤ 1000000000000000) := Lib.hid (by have := hl.len; omega)
  clear hM hu hA hm hS hl hz hc
  go_enter Tryz.func74, Tryz.ntmps74
  go_wp2_with fail
  refine HC.out.mono ?_
  rintro E w3 ⟨v3, sk3, rfl, ⟨A3, c3, rfl, hc3, hA3⟩, hb3, hM3, hX3, hV3⟩
  have HV3 := Lib.hid hV3
  clear hV3
  have hs3 := hb3.size
  have hb4 : Below w3.heap.size w3 (w3.alloc (.cells #[.slice none 0 0] 110)) := (Below.refl _ _).alloc (Nat.le_refl _) _
  have HB4 : Hid (Below w.heap.size w (w3.alloc (.cells #[.slice none 0 0] 110))) := Lib.hid (hb3.trans (hb4.mono (by omega)))
  have hu3 := hX3.under (by omega)
  have hI : BareI sk3 L (note L) w.heap.size w3.heap.size w 0 none (.slice none 0 0) (w3.alloc (.cells #[.slice none 0 0] 110)) := ⟨(MapKept.heap_alloc w3 _).1, ⟨rfl, .inl ⟨rfl, rfl⟩⟩, rfl, (OwnSt.mk hM3 hX3).keep hu3 hb4, HB4.out⟩
  by_cases h0 : Mo.mods L = 0
  · have HE := Lib.hid (bare_each A3 c3 w3.heap.size hA3 hc3 hI hu3 (Nat.le_refl _) (by omega) (by rw [World.size_alloc]; omega) (HS.out.later HB4.out) HZ.out h0)
    have HM0 := Lib.hid h0
    have HA3 := Lib.hid hA3
    clear h0 hI hX3 hM3 hb3 hA3 HC hu3 hb4
    go_wp2_with fail
    refine HE.out.mono ?_
    rintro E w5 ⟨rfl, o, u, hI5⟩
    have c0 := hI5.cell.cell
    have HI5 := Lib.hid hI5
    clear hI5 HE
    go_wp2_with fail
    go_quiet (fail)
    go_wp2_with fail
    refine bodyPost_ret (v := .tuple #[.slice A3 L.length c3, u, .bool true]) (by simp [results, Tryz.results74, go_sem]) rfl ?_
    have hbd : ∀ (K n : Nat), Below K w5 (w5.drewN n) := fun K n => ⟨rfl, rfl, rfl, Nat.le_refl _, fun _ _ => rfl⟩
    obtain ⟨Au, cu, rfl⟩ := own_shape HI5.out.row
    refine ⟨HI5.out.below.trans (hbd _ _), A3, c3, _, by rw [decide_eq_true HM0.out], ⟨Au, _, cu, rfl⟩, fun _ => ⟨⟨sk3, ⟨A3, c3, rfl, hc3, HA3.out⟩, HI5.out.own.keep HI5.out.own.under (hbd _ _), HV3.out⟩, own_later (own_base HI5.out.row (by omega)) (hbd _ _)⟩⟩
  · have hmods : Mods (w3.alloc (.cells #[.slice none 0 0] 110)) (.slice A3 L.length c3) L := by
      have := hI.own.mat.mods (v := .slice A3 L.length c3) ⟨A3, c3, rfl, hc3, hA3⟩
      have h2 : lay (bareAt (slots L) (note L) 0).2 L = L := lay_note L
      rwa [h2] at this
    have HE := Lib.hid (each_bad L (.slice A3 L.length c3) ⟨A3, _, c3, rfl⟩ 104 #[.pointer (some ⟨w3.heap.size, 0, none⟩)] _ hmods (HS.out.later HB4.out) HL.out HZ.out h0)
    have HM0 := Lib.hid h0
    have hnz : (((Mo.mods L : Nat) : Int) == 0) = false := beq_eq_false_iff_ne.2 (by omega)
    obtain ⟨z, HZZ⟩ : ∃ z, Hid (Mo.mods L = z) := ⟨_, Lib.hid rfl⟩
    rw [HZZ.out] at HE hnz
    have HR1 : Hid ((w3.alloc (.cells #[.slice none 0 0] 110)).cell? ⟨w3.heap.size, 0, none⟩ = some (.slice none 0 0)) := Lib.hid ((World.cell?_alloc_at _ _ _ _ rfl).trans rfl)
    clear h0 hI hX3 hM3 hb3 hA3 HC hu3 hb4 hmods
    go_wp2_with fail
    refine HE.out.mono ?_
    rintro E w5 ⟨rfl, hb5⟩
    have c0 := cell_later hb5 HR1.out
    have HB5 := Lib.hid (below_later hb5 HB4.out)
    clear hb5 HE
    go_wp2_with fail
    go_quiet (fail)
    go_wp2_with fail
    refine bodyPost_ret (v := .tuple #[.slice A3 L.length c3, .slice none 0 0, .bool false]) (by simp [results, Tryz.results74, go_sem]) rfl ?_
    exact ⟨HB5.out.trans ⟨rfl, rfl, rfl, Nat.le_refl _, fun _ _ => rfl⟩, A3, c3, _, by rw [decide_eq_false HM0.out], ⟨none, 0, 0, rfl⟩, fun h => absurd h HM0.out⟩
end Go.Proofs.YtidholghbjljaaaGreatDoor
