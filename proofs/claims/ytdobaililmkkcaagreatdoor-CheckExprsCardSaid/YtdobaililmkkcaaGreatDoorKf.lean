
/- Walks of package relate: Match, Meet. -/
import Derived.Test.YtdobaililmkkcaaGreatDoorRelW
import Derived.Test.YtdobaililmkkcaaGreatDoorKa
import Derived.Test.YtdobaililmkkcaaGreatDoorTrH
namespace Culp
set_option linter.unusedSimpArgs false
set_option linter.unusedVariables false
theorem meet_len : ∀ s t : Ty, (meet s t).enc.length ≤ s.enc.length + t.enc.length := by
  intro s
  induction s with
  | dyn => intro t; simp [meet]
  | int => intro t; cases t <;> simp [meet, Ty.enc]
  | bool => intro t; cases t <;> simp [meet, Ty.enc]
  | text => intro t; cases t <;> simp [meet, Ty.enc]
  | fn a b ha hb => intro t; cases t <;> simp [meet, Ty.enc]; rename_i c d; have := ha c; have := hb d; omega
  | pair a b ha hb => intro t; cases t <;> simp [meet, Ty.enc]; rename_i c d; have := ha c; have := hb d; omega
  | list a ha => intro t; cases t <;> simp [meet, Ty.enc]; rename_i c; have := ha c; omega
  | box a ha => intro t; cases t <;> simp [meet, Ty.enc]; rename_i c; have := ha c; omega
/-- The meets of parts. -/
def meets (a b : List Ty) : List Ty := List.zipWith meet a b
theorem meet_same {s t : Ty} (h : s.hd = t.hd) (hc : cons s t = true) : (meet s t).enc = s.hd :: Ty.encs (meets s.kids t.kids) := by
  cases s <;> cases t <;> simp [Ty.hd] at h <;> simp [meet, Ty.enc, Ty.hd, meets, Ty.kids, Ty.encs]
theorem meets_len : ∀ a b : List Ty, (Ty.encs (meets a b)).length ≤ (Ty.encs a).length + (Ty.encs b).length
  | [], _ => by simp [meets, Ty.encs]
  | _ :: _, [] => by simp [meets, Ty.encs]
  | x :: a, y :: b => by
    have h1 := meets_len a b
    have h2 := meet_len x y
    simp only [meets, List.zipWith_cons_cons, encs_cons, List.length_append] at *
    omega
/-- What is written when so many parts have met. -/
def meetB (s t : Ty) (k : Nat) : ByteArray := ⟨(s.hd :: Ty.encs (meets (s.kids.take k) (t.kids.take k))).toArray⟩
theorem meetB_step {s t : Ty} {k : Nat} (h1 : k < s.kids.length) (h2 : k < t.kids.length) : meetB s t k ++ (meet s.kids[k] t.kids[k]).str = meetB s t (k + 1) := by
  apply ByteArray.ext
  apply Array.ext'
  have e : meets (s.kids.take (k + 1)) (t.kids.take (k + 1)) = meets (s.kids.take k) (t.kids.take k) ++ [meet s.kids[k] t.kids[k]] := by
    unfold meets
    rw [List.take_succ_eq_append_getElem h1, List.take_succ_eq_append_getElem h2, List.zipWith_append (by rw [List.length_take, List.length_take]; omega)]
    rfl
  unfold meetB
  rw [e, encs_append, encs_cons]
  simp [Ty.str, Ty.encs]
theorem meetB_end {s t : Ty} (h : s.hd = t.hd) (hc : cons s t = true) : meetB s t s.kids.length = (meet s t).str := by
  unfold meetB
  rw [List.take_length, kids_same h, List.take_length]
  show _ = (⟨(meet s t).enc.toArray⟩ : ByteArray)
  rw [meet_same h hc]
theorem meetB_size (s t : Ty) (k : Nat) (hs : s.fits) (ht : t.fits) : (meetB s t k).size ≤ 200 := by
  have h1 := meets_len (s.kids.take k) (t.kids.take k)
  have h2 : ∀ l : List Ty, (Ty.encs (l.take k)).length ≤ (Ty.encs l).length := fun l => by
    have := congrArg List.length (encs_append (l.take k) (l.drop k))
    rw [List.take_append_drop, List.length_append] at this
    omega
  have h3 := h2 s.kids
  have h4 := h2 t.kids
  have h5 := congrArg List.length (enc_kids s)
  have h6 := congrArg List.length (enc_kids t)
  rw [List.length_cons] at h5 h6
  unfold Ty.fits at hs ht
  have e : (meetB s t k).size = (Ty.encs (meets (s.kids.take k) (t.kids.take k))).length + 1 := by simp [meetB, ByteArray.size]
  omega
theorem meetB_0 {s t : Ty} (h : 0 < s.str.size) : s.str.extract 0 1 = meetB s t 0 := by
  apply ByteArray.ext
  apply Array.ext'
  have e : s.enc = s.hd :: s.enc.tail := by cases s <;> rfl
  simp only [ByteArray.data_extract, Array.toList_extract, str_list, List.extract_eq_take_drop]
  rw [e]
  simp [meetB, meets, Ty.encs]
theorem cons_sub {s t : Ty} (h : s.hd = t.hd) (hc : cons s t = true) {k : Nat} (h1 : k < s.kids.length) (h2 : k < t.kids.length) : cons s.kids[k] t.kids[k] = true := by
  rw [cons_same h] at hc
  revert hc h1 h2
  generalize s.kids = a
  generalize t.kids = b
  intro hc h1 h2
  induction a generalizing b k with
  | nil => exact absurd h1 (Nat.not_lt_zero _)
  | cons x a ih => match b, h2 with
    | y :: b, h2 =>
      simp only [allK, Bool.and_eq_true] at hc
      match k with
      | 0 => exact hc.1
      | k + 1 => exact ih b hc.2 (by simpa using h1) (by simpa using h2)
end Culp
namespace Go.Proofs.YtdobaililmkkcaaGreatDoor
set_option linter.unusedSimpArgs false
set_option linter.unusedVariables false
open Go.RowKit Culp

def MeetC (n : Nat) : Prop := ∀ (s t : Ty) (w : World), s.fits → t.fits → cons s t = true → s.sz ≤ n →
  Calls Tryz.prog 137 #[.string s.str, .string t.str] w (Makes (.string (meet s t).str) w)
set_option maxHeartbeats 800000 in
theorem zip_any {n : Nat} (ih : MeetC n) (s t : Ty) (w : World) (hs : s.fits) (ht : t.fits) (hc : cons s t = true) (hh : s.hd = t.hd) (hn : s.sz ≤ n + 1) :
    Calls Tryz.prog 148 #[.string s.str, .string t.str, .func (.func 137) #[] #[]] w (Makes (.string (meet s t).str) w) := by
  have hp : 0 < s.str.size := by rw [str_size]; exact s.enc_pos
  have HE := Lib.hid (meetB_0 (s := s) (t := t) hp)
  have HF := Lib.hid (meetB_end hh hc)
  have HL := Lib.hid (kids_same hh)
  have hk2 : s.kids.length ≤ 2 := by cases s <;> simp [Ty.kids]
  go_enter Tryz.func148, Tryz.ntmps148
  go_wp2_with fail
  rw [HE.out]
  refine (Parts_any t ht _).mono ?_
  rintro e w1 ⟨v1, rfl, ho1, hb1⟩
  go_wp2_with fail
  refine (Parts_any s hs _).mono ?_
  rintro e w2 ⟨v2, rfl, ho2, hb2⟩
  have HO1 := Lib.hid (own_later ho1 hb2)
  have HO2 := Lib.hid ho2
  have HB := Lib.hid (below_later hb2 hb1)
  obtain ⟨A1, c1, rfl⟩ := own_shape ho1
  obtain ⟨A2, c2, rfl⟩ := own_shape ho2
  have HHH := Lib.hid hh
  have HCC := Lib.hid hc
  clear ho1 ho2 hb1 hb2 hh hc HE
  go_wp2_with fail
  go_loopw [7, 18] (fun o i wr => ∃ k : Nat, k ≤ s.kids.length ∧ i = .int .i64 k ∧ o = .string (meetB s t k) ∧ Hid (Below w2.heap.size w2 wr)) (fun _ i _ => s.kids.length - (intOf i).toNat)
  case atStart => exact ⟨0, Nat.zero_le _, rfl, rfl, Lib.hid (Below.refl _ _)⟩
  case round =>
    obtain ⟨k, hk, rfl, rfl, HBR⟩ := hrel
    by_cases hlt : k < s.kids.length
    · have hlt2 : k < t.kids.length := by rw [← HL.out]; exact hlt
      obtain ⟨g2, _, e2, _, _, _, _, hc2⟩ := own_read HO2.out (by omega)
      obtain ⟨g1, _, e1, _, _, _, _, hc1⟩ := own_read HO1.out (by have := HL.out; omega)
      simp only [Value.slice.injEq] at e1 e2
      obtain ⟨rfl, _, rfl⟩ := e1
      obtain ⟨rfl, _, rfl⟩ := e2
      have q2 : wr.cell? ⟨g2, k, none⟩ = some (.string s.kids[k].str) := cell_later HBR.out (hc2 k _ (by simp [strs, hlt]))
      have q1 : wr.cell? ⟨g1, k, none⟩ = some (.string t.kids[k].str) := cell_later HBR.out (hc1 k _ (by simp [strs, hlt2]))
      have hm := meetB_step hlt hlt2
      have HCS := Lib.hid (cons_sub HHH.out HCC.out hlt hlt2)
      have fa := fits_sub hs (List.getElem_mem hlt)
      have fb := fits_sub ht (List.getElem_mem hlt2)
      have sz := kids_sz (List.getElem_mem hlt)
      have i2 : (k : Int) < (t.kids.length : Int) := by omega
      have hsz := meetB_size s t k hs ht
      have hml := meet_len s.kids[k] t.kids[k]
      rw [← str_size] at hml
      generalize s.kids[k] = a at *
      generalize t.kids[k] = b at *
      have HM := Lib.hid hm
      have hml2 : (meet a b).str.size ≤ 128 := by unfold Ty.fits at fa fb; omega
      clear hc1 hc2 hm hml
      generalize meetB s t k = o at *
      go_wp2_with fail
      refine (ih a b _ fa fb HCS.out (by omega)).mono ?_
      rintro e w3 ⟨rfl, hb3⟩
      have HB3 := Lib.hid (below_later hb3 HBR.out)
      clear hb3 HBR q1 q2
      go_wp2_with fail
      rw [HM.out]
      go_roundw
      case rel => exact ⟨k + 1, by omega, by go_num, rfl, HB3⟩
      case measure => simp [intOf]; omega
    · obtain rfl : k = s.kids.length := by omega
      rw [HF.out]
      have HB3 := Lib.hid (below_later HBR.out HB.out)
      clear HBR
      go_wp2_with fail
      go_ret
      exact Makes.mk rfl HB3.out
theorem meet_step {n : Nat} (ih : MeetC n) : MeetC (n + 1) := by
  intro s t w hs ht hc hn
  by_cases h1 : s = .dyn
  · subst h1
    have q := str_isdyn
    go_enter Tryz.func137, Tryz.ntmps137
    go_wp2_with fail
    go_ret
    exact Makes.mk rfl (Below.refl _ _)
  · have q := str_dyn h1
    by_cases h2 : t = .dyn
    · subst h2
      have q' := str_isdyn
      have HM := Lib.hid (meet_dyn s)
      go_enter Tryz.func137, Tryz.ntmps137
      go_wp2_with fail
      go_ret
      exact Makes.mk (str_congr (by rw [HM.out])) (Below.refl _ _)
    · have q' := str_dyn h2
      have hh : s.hd = t.hd := by
        by_cases h3 : s.hd = t.hd
        · exact h3
        · rw [cons_head h1 h2 h3] at hc; cases hc
      have HZ := Lib.hid (zip_any ih s t w hs ht hc hh hn)
      clear h1 h2 hh hc
      go_enter Tryz.func137, Tryz.ntmps137
      go_wp2_with fail
      refine HZ.out.mono ?_
      rintro e w1 ⟨rfl, hb1⟩
      go_wp2_with fail
      go_ret
      exact Makes.mk rfl hb1
theorem meet_all : ∀ n, MeetC n
  | 0 => fun s _ _ _ _ _ h => by have := s.sz_pos; omega
  | n + 1 => meet_step (meet_all n)
theorem meet_any (s t : Ty) (w : World) (hs : s.fits) (ht : t.fits) (hc : cons s t = true) :
    Calls Tryz.prog 137 #[.string s.str, .string t.str] w (Makes (.string (meet s t).str) w) := meet_all _ s t w hs ht hc (Nat.le_refl _)
set_option maxHeartbeats 800000 in
theorem refused_two (s t : Ty) (w : World) (hs : s.fits) (ht : t.fits) (g : Nat) (h1 : w.cell? ⟨g, 0, none⟩ = some (.string s.str)) (h2 : w.cell? ⟨g, 1, none⟩ = some (.string t.str)) :
    Calls Tryz.prog 136 #[.slice (some ⟨g, 0, none⟩) 2 2] w (Gives (.int .i64 0) w) := by
  have HS := Lib.hid (fun w => Check_yes s hs w)
  have HT := Lib.hid (fun w => Check_yes t ht w)
  go_enter Tryz.func136, Tryz.ntmps136
  go_wp2_with fail
  go_loop [9] (fun i => ∃ k : Nat, k ≤ 2 ∧ i = .int .i64 k) (fun i => 2 - (intOf i).toNat)
  case atStart => exact ⟨0, Nat.zero_le _, rfl⟩
  case round =>
    obtain ⟨k, hk, rfl⟩ := hrel
    match k, hk with
    | 0, _ =>
      go_wp2_with fail
      refine (HS.out _).mono ?_
      rintro e w' ⟨rfl, rfl⟩
      go_wp2_with fail
      go_round
      case rel => exact ⟨1, by omega, by go_num⟩
      case measure => simp [intOf]
    | 1, _ =>
      go_wp2_with fail
      refine (HT.out _).mono ?_
      rintro e w' ⟨rfl, rfl⟩
      go_wp2_with fail
      go_round
      case rel => exact ⟨2, by omega, by go_num⟩
      case measure => simp [intOf]
    | 2, _ =>
      go_wp2_with fail
      go_ret
      exact Gives.mk rfl
/-- The meet of two consistent types, if it is not too large. -/
theorem build_two (w : World) (s t : ByteArray) : (Instr.buildSlice 23 2 #[(0, .string s), (1, .string t)]).run Tryz.prog w = .ok (.slice (some ⟨w.heap.size, 0, none⟩) 2 2) (w.alloc (.cells #[.string s, .string t] 9)) := by
  simp [go_sem, Instr.buildSlice, run_underlying Tryz.underlying23]
def MeetRes (s t : Ty) : Value := if (meet s t).enc.length ≤ 64 then .tuple #[.string (meet s t).str, .int .i64 0] else .tuple #[.string ByteArray.empty, .int .i64 21]
set_option maxHeartbeats 800000 in
theorem Meet_any (s t : Ty) (w : World) (hs : s.fits) (ht : t.fits) (hc : cons s t = true) :
    Calls Tryz.prog 121 #[.string s.str, .string t.str] w (Makes (MeetRes s t) w) := by
  have HC := Lib.hid (fun w => Consistent_any s t hs ht w)
  rw [hc] at HC
  have HM := Lib.hid (fun w => meet_any s t w hs ht hc)
  have HR : Hid (MeetRes s t = if (meet s t).str.size ≤ 64 then .tuple #[.string (meet s t).str, .int .i64 0] else .tuple #[.string ByteArray.empty, .int .i64 21]) := Lib.hid (by rw [str_size]; rfl)
  have HL := Lib.hid (fun w g => refused_two s t w hs ht g)
  have hlen : (meet s t).str.size ≤ 200 := by
    have := meet_len s t
    rw [str_size]
    unfold Ty.fits at hs ht
    omega
  generalize MeetRes s t = R at *
  generalize (meet s t).str = m at *
  clear hc
  have hbs := fun w => build_two w s.str t.str
  go_enter Tryz.func121, Tryz.ntmps121
  go_wp2_with fail
  have q0 : (w.alloc (.cells #[.string s.str, .string t.str] 9)).cell? ⟨w.heap.size, 0, none⟩ = some (.string s.str) := by rw [World.cell?_alloc_at _ _ _ _ rfl]; rfl
  have q1 : (w.alloc (.cells #[.string s.str, .string t.str] 9)).cell? ⟨w.heap.size, 1, none⟩ = some (.string t.str) := by rw [World.cell?_alloc_at _ _ _ _ rfl]; rfl
  refine (HL.out _ w.heap.size q0 q1).mono ?_
  rintro e w1 ⟨rfl, rfl⟩
  have HB : Hid (Below w.heap.size w (w.alloc (.cells #[.string s.str, .string t.str] 9))) := Lib.hid ((Below.refl _ _).alloc (Nat.le_refl _) _)
  clear q0 q1 hbs
  go_wp2_with fail
  refine (HC.out _).mono ?_
  rintro e w2 ⟨rfl, hb2⟩
  have HB2 := Lib.hid (below_later hb2 HB.out)
  clear hb2 HB
  go_wp2_with fail
  refine (HM.out _).mono ?_
  rintro e w3 ⟨rfl, hb3⟩
  have HB3 := Lib.hid (below_later hb3 HB2.out)
  clear hb3 HB2
  by_cases h64 : m.size ≤ 64
  · have h65 : ¬ (64 < m.size) := by omega
    have HR' : Hid (R = .tuple #[.string m, .int .i64 0]) := Lib.hid (by rw [HR.out, if_pos h64])
    clear HR
    go_wp2_with fail
    go_ret2
    exact Makes.mk HR'.out.symm HB3.out
  · have h65 : 64 < m.size := by omega
    have HR' : Hid (R = .tuple #[.string ByteArray.empty, .int .i64 21]) := Lib.hid (by rw [HR.out, if_neg h64])
    clear HR
    go_wp2_with fail
    go_ret2
    exact Makes.mk HR'.out.symm HB3.out
/-- The parts of a type of a head. -/
def MatchRes (o : Option (List Ty)) (w : World) (e : Ending) (w' : World) : Prop := match o with
  | none => e = .returned (.tuple #[.slice none 0 0, .bool false]) ∧ Below w.heap.size w w'
  | some l => ∃ v, e = .returned (.tuple #[v, .bool true]) ∧ w'.ownsRow w.heap.size 9 1 v l.length (strs l) ∧ Below w.heap.size w w'
theorem build_dd (w : World) : (Instr.buildSlice 23 2 #[(0, .string { data := #[63] }), (1, .string { data := #[63] })]).run Tryz.prog w = .ok (.slice (some ⟨w.heap.size, 0, none⟩) 2 2) (w.alloc (.cells #[.string { data := #[63] }, .string { data := #[63] }] 9)) := by
  simp [go_sem, Instr.buildSlice, run_underlying Tryz.underlying23]
theorem build_d (w : World) : (Instr.buildSlice 23 1 #[(0, .string { data := #[63] })]).run Tryz.prog w = .ok (.slice (some ⟨w.heap.size, 0, none⟩) 1 1) (w.alloc (.cells #[.string { data := #[63] }] 9)) := by
  simp [go_sem, Instr.buildSlice, run_underlying Tryz.underlying23]
set_option maxHeartbeats 1600000 in
theorem Match_any (t : Ty) (w : World) (ht : t.fits) (h : UInt8) (hh : h = 62 ∨ h = 44 ∨ h = 108 ∨ h = 120) :
    Calls Tryz.prog 120 #[.string t.str, .int .u8 h.toNat] w (MatchRes (Tr.matchT t h) w) := by
  have S1 : Hid (isTy t.str.data.toList = true) := by rw [Hid, str_list]; exact isTy_enc t ht
  have hp : 0 < t.str.size := by rw [str_size]; exact t.enc_pos
  have e1 := str_get t hp
  by_cases h1 : t.hd = h
  · have HP := Lib.hid (Parts_any t ht)
    have HM : Hid (Tr.matchT t h = some t.kids) := Lib.hid (by
      unfold Tr.matchT
      by_cases h2 : t = .dyn
      · subst h2
        rw [← h1] at hh
        simp [Ty.hd] at hh
      · rw [if_neg h2, if_pos h1])
    have eh : (((t.hd.toNat : Nat) : Int) == ((h.toNat : Nat) : Int)) = true := by rw [h1]; exact beq_self_eq_true _
    clear h1 hh
    go_enter Tryz.func120, Tryz.ntmps120
    go_wp2_with fail
    refine (ris_any _ _).mono ?_
    rw [S1.out]
    rintro e w' ⟨rfl, rfl⟩
    go_wp2_with fail
    refine (HP.out _).mono ?_
    rintro e w1 ⟨v1, rfl, ho1, hb1⟩
    obtain ⟨A1, c1, rfl⟩ := own_shape ho1
    have HO := Lib.hid ho1
    have HB := Lib.hid hb1
    clear ho1 hb1
    go_wp2_with fail
    go_ret2
    rw [HM.out]
    exact ⟨_, rfl, HO.out, HB.out⟩
  · have eh : (((t.hd.toNat : Nat) : Int) == ((h.toNat : Nat) : Int)) = false := beq_eq_false_iff_ne.2 fun e => h1 ((u8_eq_iff _ _).1 e)
    by_cases h2 : t = .dyn
    · subst h2
      have q := str_isdyn
      have hbd := build_dd
      have hb1 := build_d
      have HB : ∀ v : Array Value, Hid (Below w.heap.size w (w.alloc (.cells v 9))) := fun v => Lib.hid ((Below.refl _ _).alloc (Nat.le_refl _) _)
      have hO2 : Hid ((w.alloc (.cells #[.string { data := #[63] }, .string { data := #[63] }] 9)).ownsRow w.heap.size 9 1 (.slice (some ⟨w.heap.size, 0, none⟩) 2 2) 2 (strs [.dyn, .dyn])) := Lib.hid ⟨rfl, .inr ⟨w.heap.size, 2, _, rfl, Nat.le_refl _, (MapKept.heap_alloc w _).1, Nat.le_refl _, by unfold maxLen; omega, rfl, rfl⟩⟩
      have hO1 : Hid ((w.alloc (.cells #[.string { data := #[63] }] 9)).ownsRow w.heap.size 9 1 (.slice (some ⟨w.heap.size, 0, none⟩) 1 1) 1 (strs [.dyn])) := Lib.hid (own_lit w _ _)
      clear h1
      rcases hh with rfl | rfl | rfl | rfl
      all_goals
        go_enter Tryz.func120, Tryz.ntmps120
        go_wp2_with fail
        refine (ris_any _ _).mono ?_
        rw [S1.out]
        rintro e w' ⟨rfl, rfl⟩
        go_wp2_with fail
        go_ret2
        first
          | exact ⟨_, rfl, hO2.out, (HB _).out⟩
          | exact ⟨_, rfl, hO1.out, (HB _).out⟩
    · have q := str_dyn h2
      have HM : Hid (Tr.matchT t h = none) := Lib.hid (by
        unfold Tr.matchT
        rw [if_neg h2, if_neg h1])
      clear h1 h2 hh
      go_enter Tryz.func120, Tryz.ntmps120
      go_wp2_with fail
      refine (ris_any _ _).mono ?_
      rw [S1.out]
      rintro e w' ⟨rfl, rfl⟩
      go_wp2_with fail
      go_ret2
      rw [HM.out]
      exact ⟨rfl, Below.refl _ _⟩
end Go.Proofs.YtdobaililmkkcaaGreatDoor
