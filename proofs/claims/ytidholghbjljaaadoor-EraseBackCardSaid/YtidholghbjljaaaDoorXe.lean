
/- The walk of the statement EraseBack. -/
import Derived.Test.YtidholghbjljaaaDoorXd
import Derived.Test.YtidholghbjljaaaDoorVg
import Derived.Test.YtidholghbjljaaaDoorVh
namespace Go.Proofs.YtidholghbjljaaaDoor
set_option linter.unusedSimpArgs false
set_option linter.unusedVariables false
open Go.RowKit Go.Maps Culp Culp.Er
theorem ebool_info : (Tryd.prog.info? 4).map (fun i => (i.zero, i.size, i.bytes)) = some (some (.bool false), 1, 1) := by kernel_rfl
theorem rep_succ (b : Bool) (k : Nat) : List.replicate k (Value.bool b) ++ [.bool b] = (List.replicate (k + 1) b).map Value.bool := by
  rw [List.map_replicate, List.replicate_succ']
theorem own_bools {w : World} {base : Nat} {e : TypeId} {v : Value} {n : Nat} {l : List Bool} (h : w.ownsRow base e 1 v n (l.map Value.bool)) : Bools w v l := by
  have hl : n = l.length := by have := h.1; simp at this; omega
  subst hl
  rcases h.2 with ⟨rfl, h0⟩ | ⟨g, cap, cur, rfl, hb, hh, hc, _, hsz, htk⟩
  · exact ⟨none, 0, 0, 0, by rw [h0], fun h => by omega, fun j x hj => by have := (List.getElem?_eq_some_iff.1 hj).1; omega⟩
  · refine ⟨_, cap, g, 0, rfl, fun _ => ⟨rfl, (h.lt g rfl).2⟩, fun j x hj => ?_⟩
    have hjl := (List.getElem?_eq_some_iff.1 hj).1
    rw [Nat.zero_add, h.cellAt j (by omega)]
    simp [hj]
def TimesRes (b : Bool) (n : Nat) (w : World) (E : Ending) (w' : World) : Prop := ∃ v, E = .returned v ∧ Below w.heap.size w w' ∧ Bools w' v (List.replicate n b)
set_option maxRecDepth 100000 in
set_option maxHeartbeats 1600000 in
theorem times_any (b : Bool) (n : Nat) (hn : n ≤ 1000000000) (w : World) : Calls Tryd.prog 9 #[.bool b, .int .i64 (n : Int)] w (TimesRes b n w) := by
  go_enter Tryd.func9, Tryd.ntmps9
  go_wp2_with fail
  go_loopw [5, 6] (fun lv i wr => ∃ k : Nat, k ≤ n ∧ i = .int .i64 k ∧ Hid (wr.ownsRow w.heap.size 4 1 lv k ((List.replicate k b).map Value.bool)) ∧ Hid (Below w.heap.size w wr)) (fun _ i _ => n - (intOf i).toNat)
  case atStart => exact ⟨0, Nat.zero_le _, rfl, Lib.hid ⟨rfl, .inl ⟨rfl, rfl⟩⟩, Lib.hid (Below.refl _ _)⟩
  case round =>
    obtain ⟨k, hk, rfl, HO, HB⟩ := hrel
    have hown := HO.out
    obtain ⟨A, c, rfl⟩ := own_shape hown
    by_cases hlt : k < n
    · go_wp2_with (at_builtin; refine append_one rfl (.tmp 12) (.tmp 14) 23 4 rfl w.heap.size _ 1 Tryd.underlying23 ebool_info rfl _ _ _ rfl hown _ rfl rfl ?_ ?_ ?_ ?_)
      · omega
      · omega
      · exact HB.out.size
      · intro v' w' hown' hg hb'
        rw [rep_succ] at hown'
        have HO2 := Lib.hid hown'
        have HB2 := Lib.hid (HB.out.trans hb')
        obtain ⟨A2, c2, rfl⟩ := own_shape hown'
        clear hown' hg hb' hown HO HB
        go_wp2_with fail
        go_roundw
        case rel => exact ⟨k + 1, by omega, by go_num, HO2, HB2⟩
        case measure => simp [intOf]; omega
    · obtain rfl : k = n := by omega
      clear hown
      go_wp2_with fail
      go_ret
      exact ⟨_, rfl, HB.out, own_bools HO.out⟩
/-- The lengths that the likeness of modules asks for. -/
theorem eq_lens {L : List Md} (h : Mo.mods L = 0) : L.length ≤ 1000000000000000 ∧ ∀ m ∈ L, m.imps.length ≤ 1000000000000000 ∧ m.defs.length ≤ 1000000000000000 ∧ ∀ d ∈ m.defs, d.tree.length ≤ 100000000000 := by
  have h1 := lens_of h
  obtain ⟨_, _, h3⟩ := mods_zero.1 h
  refine ⟨by have := h1.len; omega, fun m hm => ⟨by have := h1.imps m hm; omega, by have := h1.defs m hm; omega, fun d hd => ?_⟩⟩
  have := Mo.check_small ((modE_zero.1 (h3 m hm)).2 d hd).2
  omega
/-- Texts in slots that may stand there are short, or the same as before. -/
theorem lay_sz {L : List Md} {f : Pos → ByteArray} (hz : ∀ m ∈ L, MdSz m) (hf : ∀ p, (f p).size ≤ 140737488351232) : ∀ m ∈ lay f L, MdSz m := fun x hx => by
  obtain ⟨m, md, hm, rfl⟩ := lay_mem.1 hx
  obtain ⟨h1, ⟨h2, h3⟩, h4, h5⟩ := hz md (List.mem_of_getElem? hm)
  have e1 : (layMd f m md).imps.length = md.imps.length := layI_len m 0 _
  have e2 : (layMd f m md).defs.length = md.defs.length := layD_len m 0 _
  refine ⟨h1, ⟨by omega, fun y hy => ?_⟩, by omega, fun y hy => ?_⟩
  · obtain ⟨i, z, hz, rfl⟩ := layI_mem.1 hy
    obtain ⟨a, b, c⟩ := h3 z (List.mem_of_getElem? hz)
    exact ⟨a, b, hf _⟩
  · obtain ⟨i, z, hz, rfl⟩ := layD_mem.1 hy
    obtain ⟨a, b, c, d, e⟩ := h5 z (List.mem_of_getElem? hz)
    have e3 : (layDf f m i z).tree.length = z.tree.length := layT_len m i 0 _
    refine ⟨a, hf _, by omega, fun q hq => ?_, fun q hq => ?_⟩
    · obtain ⟨k, n, hn, rfl⟩ := layT_mem.1 hq
      obtain ⟨a1, a2, a3, a4⟩ := d n (List.mem_of_getElem? hn)
      exact ⟨a1, hf _, hf _, a4⟩
    · obtain ⟨k, n, hn, rfl⟩ := layT_mem.1 hq
      exact e n (List.mem_of_getElem? hn)
theorem note_sz {L : List Md} (hz : ∀ m ∈ L, MdSz m) (p : Pos) : (note L p).size ≤ 140737488351232 := by
  have h0 : no.size ≤ 140737488351232 := by show (0 : Nat) ≤ _; omega
  unfold note
  split
  · exact h0
  · rename_i md hm
    obtain ⟨h1, ⟨h2, h3⟩, h4, h5⟩ := hz md (List.mem_of_getElem? hm)
    split
    · split
      · rename_i x hx; exact (h3 x (List.mem_of_getElem? hx)).2.2
      · exact h0
    · split
      · exact h0
      · rename_i d hd
        obtain ⟨a, b, c, e, g⟩ := h5 d (List.mem_of_getElem? hd)
        split
        · exact b
        · split
          · exact h0
          · rename_i x hx
            obtain ⟨a1, a2, a3, a4⟩ := e x (List.mem_of_getElem? hx)
            split
            · exact a2
            · exact a3
theorem kept_sz {L : List Md} {keep : List Bool} (hz : ∀ m ∈ L, MdSz m) : ∀ m ∈ lay (kept keep L) L, MdSz m := lay_sz hz fun p => by
  have h1 : ∀ s : Sl, (laid s no).size ≤ 140737488351232 := fun s => by
    unfold laid
    split
    · show (1 : Nat) ≤ _; omega
    · show (0 : Nat) ≤ _; omega
  by_cases hs : ∀ s ∈ slots L, s.pos ≠ p
  · rw [kept_off hs]; exact note_sz hz p
  · simp only [ne_eq, Classical.not_forall, Decidable.not_not] at hs
    obtain ⟨s, hs, rfl⟩ := hs
    rcases kept_at (keep := keep) hs with e | ⟨_, e⟩
    · rw [e]; exact note_sz hz _
    · rw [e]; exact h1 s
theorem laidF_sz {L : List Md} {s : Sl} {t : ByteArray} (hz : ∀ m ∈ L, MdSz m) (ht : t = no ∨ isTy t.data.toList = true) : ∀ m ∈ lay (laidF L s t) L, MdSz m := lay_sz hz fun p => by
  unfold laidF upd
  split
  · unfold laid
    split
    · show (1 : Nat) ≤ _; omega
    · rcases ht with rfl | ht
      · show (0 : Nat) ≤ _; omega
      · have : t.size ≤ 64 := by
          rcases Nat.lt_or_ge 64 t.size with h | h
          · rw [isTy_long h] at ht; cases ht
          · exact h
        omega
  · exact note_sz hz p
/-- What Keep makes of modules that may be. -/
theorem Keep_ok (L : List Md) (v kv : Value) (keep : List Bool) (w : World) (h0 : Mo.mods L = 0) (hc : (idxW (slots L) (note L) (slots L).length).length = keep.length) (hm : Mods w v L) (hk : Bools w kv keep) (hS : Sp w) (hz : ∀ m ∈ L, MdSz m) :
    Calls Tryd.prog 8 #[v, kv] w fun E w' => ∃ A c, E = .returned (.tuple #[.slice A L.length c, .int .i64 0]) ∧ Below w.heap.size w w' ∧ Mods w' (.slice A L.length c) (lay (kept keep L) L) := by
  have hl := (fits_of h0).len
  have hil := idxW_len (slots L) (note L) (slots L).length
  refine (Keep_any L v kv keep w hm hk (by omega) hS (lens_of h0) hz).mono ?_
  rintro E w' ⟨hb, ⟨hz, -⟩ | ⟨-, hn, -⟩ | ⟨-, -, u, rfl, ho⟩⟩
  · exact absurd h0 hz
  · exact absurd (kept_count.trans hc) hn
  · have hmm := ho.mods
    obtain ⟨A, c, rfl⟩ := hmm.form
    have hlen : (lay (keepAt keep (slots L) (note L) (slots L).length).2 L).length = L.length := layM_len 0 L
    rw [hlen] at hmm
    exact ⟨A, c, by rw [hlen], hb, hmm⟩
end Go.Proofs.YtidholghbjljaaaDoor
