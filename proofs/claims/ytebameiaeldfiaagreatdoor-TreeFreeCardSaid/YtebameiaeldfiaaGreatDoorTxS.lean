
/- Walks of package text and of its reference: a text is quoted. -/
import Derived.Test.YtebameiaeldfiaaGreatDoorTxR
namespace Culp
set_option linter.unusedSimpArgs false
set_option linter.unusedVariables false
open Go Go.RowKit
/-- Two more elements onto a row of the call's own; they lie in a block that was just made for them. -/
theorem append_two {P : Program} {w : World} {ops : Array Oper} {rest : List Oper} {o : Oper} {a : Act} {Q : Exit → Act → World → Prop} (hgd : o.guard = none) (s x : Operand) (t e : TypeId)
    (ho : o.op = .call { callee := .builtin .append, args := #[s, x], argTypes := #[t, t] })
    (base : Nat) (z : Value) (bytes : Nat) (ht : P.underlying t = some (.slice e)) (hi : (P.info? e).map (fun i => (i.zero, i.size, i.bytes)) = some (some z, 1, bytes))
    (hzs : z.cells.size = 1)
    (v : Value) (n : Nat) (xs : List Value) (hs : a.eval s = v) (hown : w.ownsRow base e 1 v n xs) (u1 u2 : Value)
    (hx : a.eval x = .slice (some ⟨w.heap.size, 0, none⟩) 2 2) (h1 : u1.oneCell' = true) (h2 : u2.oneCell' = true)
    (h63 : n + 2 ≤ 1000000000000000) (hbytes : (n + 2) * bytes ≤ 140737488355328) (hbase : base ≤ w.heap.size)
    (h : ∀ v' w', w'.ownsRow base e 1 v' (n + 2) (xs ++ [u1, u2]) → Below base w w' → wpList P ops Q rest (a.put o.dst v') w') :
    wpList P ops Q (o :: rest) a (w.alloc (.cells #[u1, u2] e)) := by
  refine append_many hgd s x t e ho base z bytes ht hi hzs v n xs hs (hown.alloc _) _ 2 2 [u1, u2] hx rfl (fun _ => ⟨w.heap.size, rfl, fun i u hu => ?_⟩) ?_ h63 hbytes (by simp; omega) (by omega) ?_
  · rw [World.cell?_alloc_at _ _ _ _ rfl]
    match i, hu with
    | 0, hu => exact hu
    | 1, hu => exact hu
  · intro u hu
    simp at hu
    rcases hu with rfl | rfl
    · exact h1
    · exact h2
  · intro v' w' hown' _ hb
    exact h v' w' hown' (((Below.refl base w).alloc hbase _).trans hb)
namespace Tx
theorem escs_app : ∀ (a b : List UInt8), escs (a ++ b) = match escs a, escs b with | some x, some y => some (x ++ y) | _, _ => none
  | [], b => by cases h : escs b <;> simp [escs, h]
  | c :: a, b => by
    have ih := escs_app a b
    rw [List.cons_append, escs, escs, ih]
    cases esc c <;> cases escs a <;> cases escs b <;> simp
theorem escs_snoc {l a e : List UInt8} {c : UInt8} (h : escs l = some a) (hc : esc c = some e) : escs (l ++ [c]) = some (a ++ e) := by
  rw [escs_app, h]; simp [escs, hc]
theorem escs_no : ∀ {l : List UInt8} {c : UInt8}, c ∈ l → esc c = none → escs l = none
  | d :: l, c, h, hc => by
    rw [escs]
    rcases List.mem_cons.1 h with rfl | h
    · rw [hc]
    · rw [escs_no h hc]; cases esc d <;> rfl
theorem esc_nl {c : UInt8} (h : c.toNat = 10) : esc c = some [92, 110] := by unfold esc; rw [if_pos h]
theorem esc_no {c : UInt8} (h : c.toNat ≠ 10) (h2 : c.toNat < 32 ∨ 126 < c.toNat) : esc c = none := by unfold esc; rw [if_neg h, if_pos h2]
theorem esc_q {c : UInt8} (h : c.toNat = 34 ∨ c.toNat = 92) : esc c = some [92, c] := by unfold esc; rw [if_neg (by omega), if_neg (by omega), if_pos h]
theorem esc_c {c : UInt8} (h1 : 32 ≤ c.toNat) (h2 : c.toNat ≤ 126) (h3 : c.toNat ≠ 34) (h4 : c.toNat ≠ 92) : esc c = some [c] := by unfold esc; rw [if_neg (by omega), if_neg (by omega), if_neg (by omega)]
theorem esc_len {c : UInt8} {e : List UInt8} (h : esc c = some e) : e.length ≤ 2 := by
  unfold esc at h
  split at h
  · injection h with h; subst h; simp
  split at h
  · cases h
  split at h <;> (injection h with h; subst h; simp)
theorem quote_long {l : List UInt8} (h : 64 < l.length) : quote l = none := by unfold quote; rw [if_pos h]
theorem quote_bad {l : List UInt8} (h : escs l = none) : quote l = none := by unfold quote; rw [h]; split <;> rfl
theorem quote_good {l m : List UInt8} (h1 : l.length ≤ 64) (h : escs l = some m) : quote l = some (34 :: m ++ [34]) := by unfold quote; rw [if_neg (by omega), h]; rfl
end Tx
end Culp
namespace Go.Proofs.YtebameiaeldfiaaGreatDoor
open Go.RowKit Go.Maps Culp

/-- What Quote answers. -/
def QuoteRes (l : List UInt8) (w : World) (e : Ending) (w' : World) : Prop := Below w.heap.size w w' ∧ match Tx.quote l with
  | some q => e = .returned (.tuple #[.string (bs q), .int .i64 0])
  | none => e = .returned (.tuple #[.string { data := #[] }, .int .i64 14])
theorem QuoteRes.yes {l q : List UInt8} {w w' : World} {t : ByteArray} (h : Tx.quote l = some q) (hb : Below w.heap.size w w') (ht : t = bs q) : QuoteRes l w (.returned (.tuple #[.string t, .int .i64 0])) w' := ⟨hb, by rw [h, ht]⟩
theorem QuoteRes.no {l : List UInt8} {w w' : World} (h : Tx.quote l = none) (hb : Below w.heap.size w w') : QuoteRes l w (.returned (.tuple #[.string { data := #[] }, .int .i64 14])) w' := ⟨hb, by rw [h]⟩

set_option maxRecDepth 100000 in
set_option maxHeartbeats 1600000 in
theorem tQuote_any (s : ByteArray) (w : World) (hs : s.size ≤ 140737488351232) : Calls Tryz.prog 82 #[.string s] w (QuoteRes s.data.toList w) := by
  have hl := size_list s
  by_cases h64 : 64 < s.size
  · have HQ := Lib.hid (Tx.quote_long (l := s.data.toList) (by omega))
    clear hl
    go_enter Tryz.func82, Tryz.ntmps82
    go_wp2_with fail
    go_ret2
    exact QuoteRes.no HQ.out (Below.refl _ _)
  have HL := Lib.hid hl
  clear hl
  go_enter Tryz.func82, Tryz.ntmps82
  go_wp2_with fail
  have hown0 : (w.alloc (.cells #[.int .u8 34] 5)).ownsRow w.heap.size 5 1 (.slice (some ⟨w.heap.size, 0, none⟩) 1 1) ([34] : List UInt8).length (([34] : List UInt8).map byteV) :=
    World.ownsRow_lit (base := w.heap.size) (e := 5) (size := 1) w #[.int .u8 34] 1 (Nat.le_refl _) (by unfold maxLen; omega) (by simp)
  go_loopw [4, 13] (fun v i wr => ∃ (k : Nat) (acc : List UInt8) (u : Value), k ≤ s.size ∧ i = .int .i64 k ∧ v = u ∧ Hid (Tx.escs (s.data.toList.take k) = some acc) ∧ acc.length ≤ 2 * k ∧ wr.ownsRow w.heap.size 5 1 u (34 :: acc).length ((34 :: acc).map byteV) ∧ Below w.heap.size w wr) (fun _ i _ => s.size - (intOf i).toNat)
  case atStart => exact ⟨0, [], _, Nat.zero_le _, rfl, rfl, Lib.hid rfl, by simp, hown0, (Below.refl _ _).alloc (Nat.le_refl _) _⟩
  case round =>
    clear hown0
    obtain ⟨k, acc, u, hk, rfl, rfl, HE, hal, hown, hbel⟩ := hrel
    by_cases hlt : k < s.size
    · have HM := Lib.hid (mem_get s k hlt)
      have HT := Lib.hid (take_snoc' s k hlt)
      have step : ∀ e, Tx.esc s[k] = some e → Hid (Tx.escs (s.data.toList.take (k + 1)) = some (acc ++ e)) := fun e he => Lib.hid (by rw [HT.out]; exact Tx.escs_snoc HE.out he)
      by_cases c10 : s[k].toNat = 10
      · have e10 := eq_lit (n := s[k].toNat) (z := 10) (by omega)
        have HE2 := step _ (Tx.esc_nl c10)
        clear step c10
        go_wp2_with (at_builtin; refine append_two rfl (.tmp 26) (.tmp 27) 97 5 rfl w.heap.size _ 1 Tryz.underlying97 u8_info rfl _ _ _ rfl hown _ _ rfl rfl rfl ?_ ?_ ?_ ?_)
        · simp; omega
        · simp; omega
        · exact hbel.size
        intro v' w2 hown' hb'
        have hb2 := hbel.trans hb'
        have hown2 : w2.ownsRow w.heap.size 5 1 v' (34 :: (acc ++ [92, 110])).length ((34 :: (acc ++ [92, 110])).map byteV) := by simpa [byteV] using hown'
        clear hown hbel hb' hown'
        go_wp2_with fail
        go_roundw
        case rel => exact ⟨k + 1, acc ++ [92, 110], v', by omega, by go_num, rfl, HE2, by simp; omega, hown2, hb2⟩
        case measure => simp [intOf]; omega
      have e10 := ne_lit (n := s[k].toNat) (z := 10) (by omega)
      by_cases hr : s[k].toNat < 32 ∨ 126 < s[k].toNat
      · have HQ := Lib.hid (Tx.quote_bad (Tx.escs_no HM.out (Tx.esc_no c10 hr)))
        have HB := Lib.hid hbel
        clear step c10 hown hbel
        by_cases hr2 : s[k].toNat < 32
        · clear hr
          go_wp2_with fail
          go_ret2
          exact QuoteRes.no HQ.out HB.out
        · have hr3 : 126 < s[k].toNat := by omega
          clear hr
          go_wp2_with fail
          go_ret2
          exact QuoteRes.no HQ.out HB.out
      have hr1 : 32 ≤ s[k].toNat := by omega
      have hr2 : s[k].toNat ≤ 126 := by omega
      clear hr c10
      by_cases c34 : s[k].toNat = 34
      · have e34 := eq_lit (n := s[k].toNat) (z := 34) (by omega)
        have HE2 := step _ (Tx.esc_q (.inl c34))
        clear step c34
        go_wp2_with (at_builtin; refine append_two rfl (.tmp 43) (.tmp 45) 97 5 rfl w.heap.size _ 1 Tryz.underlying97 u8_info rfl _ _ _ rfl hown _ _ rfl rfl rfl ?_ ?_ ?_ ?_)
        · simp; omega
        · simp; omega
        · exact hbel.size
        intro v' w2 hown' hb'
        have hb2 := hbel.trans hb'
        have hown2 : w2.ownsRow w.heap.size 5 1 v' (34 :: (acc ++ [92, s[k]])).length ((34 :: (acc ++ [92, s[k]])).map byteV) := by simpa [byteV] using hown'
        clear hown hbel hb' hown'
        go_wp2_with fail
        go_roundw
        case rel => exact ⟨k + 1, acc ++ [92, s[k]], v', by omega, by go_num, rfl, HE2, by simp; omega, hown2, hb2⟩
        case measure => simp [intOf]; omega
      have e34 := ne_lit (n := s[k].toNat) (z := 34) (by omega)
      by_cases c92 : s[k].toNat = 92
      · have e92 := eq_lit (n := s[k].toNat) (z := 92) (by omega)
        have HE2 := step _ (Tx.esc_q (.inr c92))
        clear step c34 c92
        go_wp2_with (at_builtin; refine append_two rfl (.tmp 43) (.tmp 45) 97 5 rfl w.heap.size _ 1 Tryz.underlying97 u8_info rfl _ _ _ rfl hown _ _ rfl rfl rfl ?_ ?_ ?_ ?_)
        · simp; omega
        · simp; omega
        · exact hbel.size
        intro v' w2 hown' hb'
        have hb2 := hbel.trans hb'
        have hown2 : w2.ownsRow w.heap.size 5 1 v' (34 :: (acc ++ [92, s[k]])).length ((34 :: (acc ++ [92, s[k]])).map byteV) := by simpa [byteV] using hown'
        clear hown hbel hb' hown'
        go_wp2_with fail
        go_roundw
        case rel => exact ⟨k + 1, acc ++ [92, s[k]], v', by omega, by go_num, rfl, HE2, by simp; omega, hown2, hb2⟩
        case measure => simp [intOf]; omega
      have e92 := ne_lit (n := s[k].toNat) (z := 92) (by omega)
      have HE2 := step _ (Tx.esc_c hr1 hr2 c34 c92)
      clear step c34 c92
      go_wp2_with (at_builtin; refine append_one rfl (.tmp 19) (.tmp 21) 97 5 rfl w.heap.size _ 1 Tryz.underlying97 u8_info rfl _ _ _ rfl hown _ rfl rfl ?_ ?_ ?_ ?_)
      · simp; omega
      · simp; omega
      · exact hbel.size
      intro v' w2 hown' hg hb'
      have hb2 := hbel.trans hb'
      have hown2 : w2.ownsRow w.heap.size 5 1 v' (34 :: (acc ++ [s[k]])).length ((34 :: (acc ++ [s[k]])).map byteV) := by simpa [byteV] using hown'
      clear hown hbel hg hb' hown'
      go_wp2_with fail
      go_roundw
      case rel => exact ⟨k + 1, acc ++ [s[k]], v', by omega, by go_num, rfl, HE2, by simp; omega, hown2, hb2⟩
      case measure => simp [intOf]; omega
    · have HQ := Lib.hid (Tx.quote_good (l := s.data.toList) (m := acc) (by rw [HL.out]; omega) (by have := HE.out; rw [List.take_of_length_le (by rw [HL.out]; omega)] at this; exact this))
      go_wp2_with (at_builtin; refine append_one rfl (.tmp 48) (.tmp 49) 97 5 rfl w.heap.size _ 1 Tryz.underlying97 u8_info rfl _ _ _ rfl hown _ rfl rfl ?_ ?_ ?_ ?_)
      · simp; omega
      · simp; omega
      · exact hbel.size
      intro v' w2 hown' hg hb'
      have HB := Lib.hid (hbel.trans hb')
      have hown2 : w2.ownsRow w.heap.size 5 1 v' (34 :: acc ++ [34]).length ((34 :: acc ++ [34]).map byteV) := by simpa [byteV] using hown'
      have hcv := own_text hown2
      clear hown hbel hg hb' hown' hown2
      go_wp2_with fail
      go_ret2
      exact QuoteRes.yes HQ.out HB.out rfl
end Go.Proofs.YtebameiaeldfiaaGreatDoor
