
/- Walks of package relate: Match, Meet. -/
import Derived.Test.YtdfadmhomjcmeaaGreatDoorR4W
import Derived.Test.YtdfadmhomjcmeaaGreatDoorKb
import Derived.Test.YtdfadmhomjcmeaaGreatDoorTrW
import Derived.Test.YtdfadmhomjcmeaaGreatDoorFs
namespace Culp
set_option linter.unusedSimpArgs false
set_option linter.unusedVariables false
theorem meet_len : ∀ s t : Ty, (meet s t).enc.length ≤ s.enc.length + t.enc.length := by
  intro s
  induction s with
  | dyn => intro t; simp [meet]
  | int => intro t; cases t <;> simp [meet, Ty.enc]
  | bool => intro t; cases t <;> simp [meet, Ty.enc]
  | text => intro t; cases t <;> simp [meet, Ty.enc]
  | fn a b ha hb => intro t; cases t <;> simp [meet, Ty.enc]; rename_i c d; have := ha c; have := hb d; omega
  | pair a b ha hb => intro t; cases t <;> simp [meet, Ty.enc]; rename_i c d; have := ha c; have := hb d; omega
  | list a ha => intro t; cases t <;> simp [meet, Ty.enc]; rename_i c; have := ha c; omega
  | box a ha => intro t; cases t <;> simp [meet, Ty.enc]; rename_i c; have := ha c; omega
/-- The meets of parts. -/
def meets (a b : List Ty) : List Ty := List.zipWith meet a b
theorem meet_same {s t : Ty} (h : s.hd = t.hd) (hc : cons s t = true) : (meet s t).enc = s.hd :: Ty.encs (meets s.kids t.kids) := by
  cases s <;> cases t <;> simp [Ty.hd] at h <;> simp [meet, Ty.enc, Ty.hd, meets, Ty.kids, Ty.encs]
theorem meets_len : ∀ a b : List Ty, (Ty.encs (meets a b)).length ≤ (Ty.encs a).length + (Ty.encs b).length
  | [], _ => by simp [meets, Ty.encs]
  | _ :: _, [] => by simp [meets, Ty.encs]
  | x :: a, y :: b => by
    have h1 := meets_len a b
    have h2 := meet_len x y
    simp only [meets, List.zipWith_cons_cons, encs_cons, List.length_append] at *
    omega
/-- What is written when so many parts have met. -/
def meetB (s t : Ty) (k : Nat) : ByteArray := ⟨(s.hd :: Ty.encs (meets (s.kids.take k) (t.kids.take k))).toArray⟩
theorem meetB_step {s t : Ty} {k : Nat} (h1 : k < s.kids.length) (h2 : k < t.kids.length) : meetB s t k ++ (meet s.kids[k] t.kids[k]).str = meetB s t (k + 1) := by
  apply ByteArray.ext
  apply Array.ext'
  have e : meets (s.kids.take (k + 1)) (t.kids.take (k + 1)) = meets (s.kids.take k) (t.kids.take k) ++ [meet s.kids[k] t.kids[k]] := by
    unfold meets
    rw [List.take_succ_eq_append_getElem h1, List.take_succ_eq_append_getElem h2, List.zipWith_append (by rw [List.length_take, List.length_take]; omega)]
    rfl
  unfold meetB
  rw [e, encs_append, encs_cons]
  simp [Ty.str, Ty.encs]
theorem meetB_end {s t : Ty} (h : s.hd = t.hd) (hc : cons s t = true) : meetB s t s.kids.length = (meet s t).str := by
  unfold meetB
  rw [List.take_length, kids_same h, List.take_length]
  show _ = (⟨(meet s t).enc.toArray⟩ : ByteArray)
  rw [meet_same h hc]
theorem meetB_size (s t : Ty) (k : Nat) (hs : s.fits) (ht : t.fits) : (meetB s t k).size ≤ 200 := by
  have h1 := meets_len (s.kids.take k) (t.kids.take k)
  have h2 : ∀ l : List Ty, (Ty.encs (l.take k)).length ≤ (Ty.encs l).length := fun l => by
    have := congrArg List.length (encs_append (l.take k) (l.drop k))
    rw [List.take_append_drop, List.length_append] at this
    omega
  have h3 := h2 s.kids
  have h4 := h2 t.kids
  have h5 := congrArg List.length (enc_kids s)
  have h6 := congrArg List.length (enc_kids t)
  rw [List.length_cons] at h5 h6
  unfold Ty.fits at hs ht
  have e : (meetB s t k).size = (Ty.encs (meets (s.kids.take k) (t.kids.take k))).length + 1 := by simp [meetB, ByteArray.size]
  omega
theorem meetB_0 {s t : Ty} (h : 0 < s.str.size) : s.str.extract 0 1 = meetB s t 0 := by
  apply ByteArray.ext
  apply Array.ext'
  have e : s.enc = s.hd :: s.enc.tail := by cases s <;> rfl
  simp only [ByteArray.data_extract, Array.toList_extract, str_list, List.extract_eq_take_drop]
  rw [e]
  simp [meetB, meets, Ty.encs]
theorem cons_sub {s t : Ty} (h : s.hd = t.hd) (hc : cons s t = true) {k : Nat} (h1 : k < s.kids.length) (h2 : k < t.kids.length) : cons s.kids[k] t.kids[k] = true := by
  rw [cons_same h] at hc
  revert hc h1 h2
  generalize s.kids = a
  generalize t.kids = b
  intro hc h1 h2
  induction a generalizing b k with
  | nil => exact absurd h1 (Nat.not_lt_zero _)
  | cons x a ih => match b, h2 with
    | y :: b, h2 =>
      simp only [allK, Bool.and_eq_true] at hc
      match k with
      | 0 => exact hc.1
      | k + 1 => exact ih b hc.2 (by simpa using h1) (by simpa using h2)
end Culp
namespace Go.Proofs.YtdfadmhomjcmeaaGreatDoor
set_option linter.unusedSimpArgs false
set_option linter.unusedVariables false
open Go.RowKit Culp

def MeetC (n : Nat) : Prop := ∀ (s t : Ty) (w : World), s.fits → t.fits → cons s t = true → s.sz ≤ n →
  Calls Tryz.prog 162 #[.string s.str, .string t.str] w (Makes (.string (meet s t).str) w)
set_option maxHeartbeats 800000 in
theorem zip_any {n : Nat} (ih : MeetC n) (s t : Ty) (w : World) (hs : s.fits) (ht : t.fits) (hc : cons s t = true) (hh : s.hd = t.hd) (hn : s.sz ≤ n + 1) :
    Calls Tryz.prog 177 #[.string s.str, .string t.str, .func (.func 162) #[] #[]] w (Makes (.string (meet s t).str) w) := by
  have hp : 0 < s.str.size := by rw [str_size]; exact s.enc_pos
  have HE := Lib.hid (meetB_0 (s := s) (t := t) hp)
  have HF := Lib.hid (meetB_end hh hc)
  have HL := Lib.hid (kids_same hh)
  have hk2 : s.kids.length ≤ 2 := by cases s <;> simp [Ty.kids]
  go_enter Tryz.func177, Tryz.ntmps177
  go_wp2_with fail
  rw [HE.out]
  refine (Parts_any t ht _).mono ?_
  rintro e w1 ⟨v1, rfl, ho1, hb1⟩
  go_wp2_with fail
  refine (Parts_any s hs _).mono ?_
  rintro e w2 ⟨v2, rfl, ho2, hb2⟩
  have HO1 := Lib.hid (own_later ho1 hb2)
  have HO2 := Lib.hid ho2
  have HB := Lib.hid (below_later hb2 hb1)
  obtain ⟨A1, c1, rfl⟩ := own_shape ho1
  obtain ⟨A2, c2, rfl⟩ := own_shape ho2
  have HHH := Lib.hid hh
  have HCC := Lib.hid hc
  clear ho1 ho2 hb1 hb2 hh hc HE
  go_wp2_with fail
  go_loopw [7, 18] (fun o i wr => ∃ k : Nat, k ≤ s.kids.length ∧ i = .int .i64 k ∧ o = .string (meetB s t k) ∧ Hid (Below w2.heap.size w2 wr)) (fun _ i _ => s.kids.length - (intOf i).toNat)
  case atStart => exact ⟨0, Nat.zero_le _, rfl, rfl, Lib.hid (Below.refl _ _)⟩
  case round =>
    obtain ⟨k, hk, rfl, rfl, HBR⟩ := hrel
    by_cases hlt : k < s.kids.length
    · have hlt2 : k < t.kids.length := by rw [← HL.out]; exact hlt
      obtain ⟨g2, _, e2, _, _, _, _, hc2⟩ := own_read HO2.out (by omega)
      obtain ⟨g1, _, e1, _, _, _, _, hc1⟩ := own_read HO1.out (by have := HL.out; omega)
      simp only [Value.slice.injEq] at e1 e2
      obtain ⟨rfl, _, rfl⟩ := e1
      obtain ⟨rfl, _, rfl⟩ := e2
      have q2 : wr.cell? ⟨g2, k, none⟩ = some (.string s.kids[k].str) := cell_later HBR.out (hc2 k _ (by simp [strs, hlt]))
      have q1 : wr.cell? ⟨g1, k, none⟩ = some (.string t.kids[k].str) := cell_later HBR.out (hc1 k _ (by simp [strs, hlt2]))
      have hm := meetB_step hlt hlt2
      have HCS := Lib.hid (cons_sub HHH.out HCC.out hlt hlt2)
      have fa := fits_sub hs (List.getElem_mem hlt)
      have fb := fits_sub ht (List.getElem_mem hlt2)
      have sz := kids_sz (List.getElem_mem hlt)
      have i2 : (k : Int) < (t.kids.length : Int) := by omega
      have hsz := meetB_size s t k hs ht
      have hml := meet_len s.kids[k] t.kids[k]
      rw [← str_size] at hml
      generalize s.kids[k] = a at *
      generalize t.kids[k] = b at *
      have HM := Lib.hid hm
      have hml2 : (meet a b).str.size ≤ 128 := by unfold Ty.fits at fa fb; omega
      clear hc1 hc2 hm hml
      generalize meetB s t k = o at *
      go_wp2_with fail
      refine (ih a b _ fa fb HCS.out (by omega)).mono ?_
      rintro e w3 ⟨rfl, hb3⟩
      have HB3 := Lib.hid (below_later hb3 HBR.out)
      clear hb3 HBR q1 q2
      go_wp2_with fail
      rw [HM.out]
      go_roundw
      case rel => exact ⟨k + 1, by omega, by go_num, rfl, HB3⟩
      case measure => simp [intOf]; omega
    · obtain rfl : k = s.kids.length := by omega
      rw [HF.out]
      have HB3 := Lib.hid (below_later HBR.out HB.out)
      clear HBR
      go_wp2_with fail
      go_ret
      exact Makes.mk rfl HB3.out
theorem meet_step {n : Nat} (ih : MeetC n) : MeetC (n + 1) := by
  intro s t w hs ht hc hn
  by_cases h1 : s = .dyn
  · subst h1
    have q := str_isdyn
    go_enter Tryz.func162, Tryz.ntmps162
    go_wp2_with fail
    go_ret
    exact Makes.mk rfl (Below.refl _ _)
  · have q := str_dyn h1
    by_cases h2 : t = .dyn
    · subst h2
      have q' := str_isdyn
      have HM := Lib.hid (meet_dyn s)
      go_enter Tryz.func162, Tryz.ntmps162
      go_wp2_with fail
      go_ret
      exact Makes.mk (str_congr (by rw [HM.out])) (Below.refl _ _)
    · have q' := str_dyn h2
      have hh : s.hd = t.hd := by
        by_cases h3 : s.hd = t.hd
        · exact h3
        · rw [cons_head h1 h2 h3] at hc; cases hc
      have HZ := Lib.hid (zip_any ih s t w hs ht hc hh hn)
      clear h1 h2 hh hc
      go_enter Tryz.func162, Tryz.ntmps162
      go_wp2_with fail
      refine HZ.out.mono ?_
      rintro e w1 ⟨rfl, hb1⟩
      go_wp2_with fail
      go_ret
      exact Makes.mk rfl hb1
theorem meet_all : ∀ n, MeetC n
  | 0 => fun s _ _ _ _ _ h => by have := s.sz_pos; omega
  | n + 1 => meet_step (meet_all n)
theorem meet_any (s t : Ty) (w : World) (hs : s.fits) (ht : t.fits) (hc : cons s t = true) :
    Calls Tryz.prog 162 #[.string s.str, .string t.str] w (Makes (.string (meet s t).str) w) := meet_all _ s t w hs ht hc (Nat.le_refl _)
set_option maxHeartbeats 800000 in
theorem refused_two (s t : Ty) (w : World) (hs : s.fits) (ht : t.fits) (g : Nat) (h1 : w.cell? ⟨g, 0, none⟩ = some (.string s.str)) (h2 : w.cell? ⟨g, 1, none⟩ = some (.string t.str)) :
    Calls Tryz.prog 161 #[.slice (some ⟨g, 0, none⟩) 2 2] w (Gives (.int .i64 0) w) := by
  have HS := Lib.hid (fun w => Check_yes s hs w)
  have HT := Lib.hid (fun w => Check_yes t ht w)
  go_enter Tryz.func161, Tryz.ntmps161
  go_wp2_with fail
  go_loop [9] (fun i => ∃ k : Nat, k ≤ 2 ∧ i = .int .i64 k) (fun i => 2 - (intOf i).toNat)
  case atStart => exact ⟨0, Nat.zero_le _, rfl⟩
  case round =>
    obtain ⟨k, hk, rfl⟩ := hrel
    match k, hk with
    | 0, _ =>
      go_wp2_with fail
      refine (HS.out _).mono ?_
      rintro e w' ⟨rfl, rfl⟩
      go_wp2_with fail
      go_round
      case rel => exact ⟨1, by omega, by go_num⟩
      case measure => simp [intOf]
    | 1, _ =>
      go_wp2_with fail
      refine (HT.out _).mono ?_
      rintro e w' ⟨rfl, rfl⟩
      go_wp2_with fail
      go_round
      case rel => exact ⟨2, by omega, by go_num⟩
      case measure => simp [intOf]
    | 2, _ =>
      go_wp2_with fail
      go_ret
      exact Gives.mk rfl
/-- The meet of two consistent types, if it is not too large. -/
theorem build_two (w : World) (s t : ByteArray) : (Instr.buildSlice 24 2 #[(0, .string s), (1, .string t)]).run Tryz.prog w = .ok (.slice (some ⟨w.heap.size, 0, none⟩) 2 2) (w.alloc (.cells #[.string s, .string t] 9)) := by
  simp [go_sem, Instr.buildSlice, run_underlying Tryz.underlying24]
def MeetRes (s t : Ty) : Value := if (meet s t).enc.length ≤ 64 then .tuple #[.string (meet s t).str, .int .i64 0] else .tuple #[.string ByteArray.empty, .int .i64 21]
set_option maxHeartbeats 800000 in
theorem Meet_any (s t : Ty) (w : World) (hs : s.fits) (ht : t.fits) (hc : cons s t = true) :
    Calls Tryz.prog 148 #[.string s.str, .string t.str] w (Makes (MeetRes s t) w) := by
  have HC := Lib.hid (fun w => Consistent_any s t hs ht w)
  rw [hc] at HC
  have HM := Lib.hid (fun w => meet_any s t w hs ht hc)
  have HR : Hid (MeetRes s t = if (meet s t).str.size ≤ 64 then .tuple #[.string (meet s t).str, .int .i64 0] else .tuple #[.string ByteArray.empty, .int .i64 21]) := Lib.hid (by rw [str_size]; rfl)
  have HL := Lib.hid (fun w g => refused_two s t w hs ht g)
  have hlen : (meet s t).str.size ≤ 200 := by
    have := meet_len s t
    rw [str_size]
    unfold Ty.fits at hs ht
    omega
  generalize MeetRes s t = R at *
  generalize (meet s t).str = m at *
  clear hc
  have hbs := fun w => build_two w s.str t.str
  go_enter Tryz.func148, Tryz.ntmps148
  go_wp2_with fail
  have q0 : (w.alloc (.cells #[.string s.str, .string t.str] 9)).cell? ⟨w.heap.size, 0, none⟩ = some (.string s.str) := by rw [World.cell?_alloc_at _ _ _ _ rfl]; rfl
  have q1 : (w.alloc (.cells #[.string s.str, .string t.str] 9)).cell? ⟨w.heap.size, 1, none⟩ = some (.string t.str) := by rw [World.cell?_alloc_at _ _ _ _ rfl]; rfl
  refine (HL.out _ w.heap.size q0 q1).mono ?_
  rintro e w1 ⟨rfl, rfl⟩
  have HB : Hid (Below w.heap.size w (w.alloc (.cells #[.string s.str, .string t.str] 9))) := Lib.hid ((Below.refl _ _).alloc (Nat.le_refl _) _)
  clear q0 q1 hbs
  go_wp2_with fail
  refine (HC.out _).mono ?_
  rintro e w2 ⟨rfl, hb2⟩
  have HB2 := Lib.hid (below_later hb2 HB.out)
  clear hb2 HB
  go_wp2_with fail
  refine (HM.out _).mono ?_
  rintro e w3 ⟨rfl, hb3⟩
  have HB3 := Lib.hid (below_later hb3 HB2.out)
  clear hb3 HB2
  by_cases h64 : m.size ≤ 64
  · have h65 : ¬ (64 < m.size) := by omega
    have HR' : Hid (R = .tuple #[.string m, .int .i64 0]) := Lib.hid (by rw [HR.out, if_pos h64])
    clear HR
    go_wp2_with fail
    go_ret2
    exact Makes.mk HR'.out.symm HB3.out
  · have h65 : 64 < m.size := by omega
    have HR' : Hid (R = .tuple #[.string ByteArray.empty, .int .i64 21]) := Lib.hid (by rw [HR.out, if_neg h64])
    clear HR
    go_wp2_with fail
    go_ret2
    exact Makes.mk HR'.out.symm HB3.out
/-- The parts of a type of a head. -/
def MatchRes (o : Option (List Ty)) (w : World) (e : Ending) (w' : World) : Prop := match o with
  | none => e = .returned (.tuple #[.slice none 0 0, .bool false]) ∧ Below w.heap.size w w'
  | some l => ∃ v, e = .returned (.tuple #[v, .bool true]) ∧ w'.ownsRow w.heap.size 9 1 v l.length (strs l) ∧ Below w.heap.size w w'
theorem build_dd (w : World) : (Instr.buildSlice 24 2 #[(0, .string { data := #[63] }), (1, .string { data := #[63] })]).run Tryz.prog w = .ok (.slice (some ⟨w.heap.size, 0, none⟩) 2 2) (w.alloc (.cells #[.string { data := #[63] }, .string { data := #[63] }] 9)) := by
  simp [go_sem, Instr.buildSlice, run_underlying Tryz.underlying24]
theorem build_d (w : World) : (Instr.buildSlice 24 1 #[(0, .string { data := #[63] })]).run Tryz.prog w = .ok (.slice (some ⟨w.heap.size, 0, none⟩) 1 1) (w.alloc (.cells #[.string { data := #[63] }] 9)) := by
  simp [go_sem, Instr.buildSlice, run_underlying Tryz.underlying24]
set_option maxHeartbeats 1600000 in
theorem Match_any (t : Ty) (w : World) (ht : t.fits) (h : UInt8) (hh : h = 62 ∨ h = 44 ∨ h = 108 ∨ h = 120) :
    Calls Tryz.prog 147 #[.string t.str, .int .u8 h.toNat] w (MatchRes (Tr.matchT t h) w) := by
  have S1 : Hid (isTy t.str.data.toList = true) := by rw [Hid, str_list]; exact isTy_enc t ht
  have hp : 0 < t.str.size := by rw [str_size]; exact t.enc_pos
  have e1 := str_get t hp
  by_cases h1 : t.hd = h
  · have HP := Lib.hid (Parts_any t ht)
    have HM : Hid (Tr.matchT t h = some t.kids) := Lib.hid (by
      unfold Tr.matchT
      by_cases h2 : t = .dyn
      · subst h2
        rw [← h1] at hh
        simp [Ty.hd] at hh
      · rw [if_neg h2, if_pos h1])
    have eh : (((t.hd.toNat : Nat) : Int) == ((h.toNat : Nat) : Int)) = true := by rw [h1]; exact beq_self_eq_true _
    clear h1 hh
    go_enter Tryz.func147, Tryz.ntmps147
    go_wp2_with fail
    refine (ris_any _ _).mono ?_
    rw [S1.out]
    rintro e w' ⟨rfl, rfl⟩
    go_wp2_with fail
    refine (HP.out _).mono ?_
    rintro e w1 ⟨v1, rfl, ho1, hb1⟩
    obtain ⟨A1, c1, rfl⟩ := own_shape ho1
    have HO := Lib.hid ho1
    have HB := Lib.hid hb1
    clear ho1 hb1
    go_wp2_with fail
    go_ret2
    rw [HM.out]
    exact ⟨_, rfl, HO.out, HB.out⟩
  · have eh : (((t.hd.toNat : Nat) : Int) == ((h.toNat : Nat) : Int)) = false := beq_eq_false_iff_ne.2 fun e => h1 ((u8_eq_iff _ _).1 e)
    by_cases h2 : t = .dyn
    · subst h2
      have q := str_isdyn
      have hbd := build_dd
      have hb1 := build_d
      have HB : ∀ v : Array Value, Hid (Below w.heap.size w (w.alloc (.cells v 9))) := fun v => Lib.hid ((Below.refl _ _).alloc (Nat.le_refl _) _)
      have hO2 : Hid ((w.alloc (.cells #[.string { data := #[63] }, .string { data := #[63] }] 9)).ownsRow w.heap.size 9 1 (.slice (some ⟨w.heap.size, 0, none⟩) 2 2) 2 (strs [.dyn, .dyn])) := Lib.hid ⟨rfl, .inr ⟨w.heap.size, 2, _, rfl, Nat.le_refl _, (MapKept.heap_alloc w _).1, Nat.le_refl _, by unfold maxLen; omega, rfl, rfl⟩⟩
      have hO1 : Hid ((w.alloc (.cells #[.string { data := #[63] }] 9)).ownsRow w.heap.size 9 1 (.slice (some ⟨w.heap.size, 0, none⟩) 1 1) 1 (strs [.dyn])) := Lib.hid (own_lit w _ _)
      clear h1
      rcases hh with rfl | rfl | rfl | rfl
      all_goals
        go_enter Tryz.func147, Tryz.ntmps147
        go_wp2_with fail
        refine (ris_any _ _).mono ?_
        rw [S1.out]
        rintro e w' ⟨rfl, rfl⟩
        go_wp2_with fail
        go_ret2
        first
          | exact ⟨_, rfl, hO2.out, (HB _).out⟩
          | exact ⟨_, rfl, hO1.out, (HB _).out⟩
    · have q := str_dyn h2
      have HM : Hid (Tr.matchT t h = none) := Lib.hid (by
        unfold Tr.matchT
        rw [if_neg h2, if_neg h1])
      clear h1 h2 hh
      go_enter Tryz.func147, Tryz.ntmps147
      go_wp2_with fail
      refine (ris_any _ _).mono ?_
      rw [S1.out]
      rintro e w' ⟨rfl, rfl⟩
      go_wp2_with fail
      go_ret2
      rw [HM.out]
      exact ⟨rfl, Below.refl _ _⟩
end Go.Proofs.YtdfadmhomjcmeaaGreatDoor

/- Walks of the checker: its state; refusals; two types that must fit. -/
namespace Go.Proofs.YtdfadmhomjcmeaaGreatDoor
set_option linter.unusedSimpArgs false
set_option linter.unusedVariables false
open Go.RowKit Culp

/-- The checker in its block: the tree, the types so far, the first refusal. -/
structure CkAt (c B : Nat) (tv yv : Value) (ys : List ByteArray) (e : Int) (a : Nat) (w : World) : Prop where
  box : w.heap[c]? = some (.cells #[tv, yv, .int .i64 e, .int .i64 (a : Int)] 84 (0, 0))
  own : w.ownsRow B 9 1 yv ys.length (ys.map Value.string)
section
variable {c B a a' : Nat} {tv yv : Value} {ys : List ByteArray} {e e' : Int} {w w' : World}
theorem CkAt.lt (h : CkAt c B tv yv ys e a w) : c < w.heap.size := (Array.getElem?_eq_some_iff.1 h.box).1
theorem CkAt.c0 (h : CkAt c B tv yv ys e a w) : w.cell? ⟨c, 0, none⟩ = some tv := by simp [World.cell?, h.box]
theorem CkAt.c1 (h : CkAt c B tv yv ys e a w) : w.cell? ⟨c, 1, none⟩ = some yv := by simp [World.cell?, h.box]
theorem CkAt.c2 (h : CkAt c B tv yv ys e a w) : w.cell? ⟨c, 2, none⟩ = some (.int .i64 e) := by simp [World.cell?, h.box]
theorem CkAt.c3 (h : CkAt c B tv yv ys e a w) : w.cell? ⟨c, 3, none⟩ = some (.int .i64 (a : Int)) := by simp [World.cell?, h.box]
theorem CkAt.free (h : CkAt c B tv yv ys e a w) (i : Nat) (hi : i < 4) : w.frozen? ⟨c, i, none⟩ = false := by
  match i, hi with
  | 0, _ => simp [World.frozen?, h.box]
  | 1, _ => simp [World.frozen?, h.box]
  | 2, _ => simp [World.frozen?, h.box]
  | 3, _ => simp [World.frozen?, h.box]
theorem CkAt.later (h : CkAt c B tv yv ys e a w) (hb : Below w.heap.size w w') : CkAt c B tv yv ys e a w' := ⟨(hb.block c h.lt).trans h.box, own_later h.own hb⟩
theorem CkAt.ne (h : CkAt c B tv yv ys e a w) : yv.ownBlock ≠ some c := own_ne h.own fun cur hc => by
  have := h.box
  rw [hc] at this
  simp only [Option.some.injEq, Obj.cells.injEq] at this
  exact absurd this.2.1 (by decide)
theorem CkAt.put (h : CkAt c B tv yv ys e a w) : CkAt c B tv yv ys e' a' ((w.setCell ⟨c, 2, none⟩ (.int .i64 e')).setCell ⟨c, 3, none⟩ (.int .i64 (a' : Int))) := by
  have hb := h.box
  refine ⟨by simp [World.setCell, Array.getElem?_modify, hb], own_apart_keep h.own (((Keep.refl c w).setCell 2 _).setCell 3 _) h.ne⟩
end
/-- A call of the checker that writes no type. -/
def CkRes (v : Value) (c B : Nat) (tv yv : Value) (ys : List ByteArray) (e : Int) (a : Nat) (w : World) (E : Ending) (w' : World) : Prop := E = .returned v ∧ CkAt c B tv yv ys e a w' ∧ Keep c w w'
theorem refuses_any (c B : Nat) (tv yv : Value) (ys : List ByteArray) (a e : Nat) (p : Nat) (w : World) (h : CkAt c B tv yv ys 0 a w) :
    Calls Tryz.prog 64 #[.pointer (some ⟨c, 0, none⟩), .int .i64 (e : Int), .int .i64 (p : Int)] w (CkRes (.string ByteArray.empty) c B tv yv ys e p w) := by
  have c2 := h.c2
  have f2 := h.free 2 (by decide)
  have f3 := h.free 3 (by decide)
  have c3 := h.c3
  have HR := Lib.hid (h.put (e' := e) (a' := p))
  have HK : Hid (Keep c w ((w.setCell ⟨c, 2, none⟩ (.int .i64 e)).setCell ⟨c, 3, none⟩ (.int .i64 (p : Int)))) := Lib.hid (((Keep.refl c w).setCell 2 _).setCell 3 _)
  clear h
  go_enter Tryz.func64, Tryz.ntmps64
  go_wp2_with fail
  go_ret
  exact ⟨rfl, HR.out, HK.out⟩
section
variable (c B : Nat) (tv yv : Value) (ys : List ByteArray) (a : Nat) (w : World)
theorem CkAt.read {c B a : Nat} {tv yv : Value} {ys : List ByteArray} {e : Int} {w : World} (h : CkAt c B tv yv ys e a w) {k : Nat} {s : ByteArray} (hk : ys[k]? = some s) :
    ∃ g C, yv = .slice (some ⟨g, 0, none⟩) ys.length C ∧ w.cell? ⟨g, k, none⟩ = some (.string s) ∧ k < ys.length ∧ w.frozen? ⟨g, k, none⟩ = false := by
  have hlt : k < ys.length := (List.getElem?_eq_some_iff.1 hk).1
  obtain ⟨A, C, rfl⟩ := own_shape h.own
  obtain ⟨g, _, e1, _, _, _, _, _⟩ := own_read h.own (by omega)
  simp only [Value.slice.injEq] at e1
  obtain ⟨rfl, _, rfl⟩ := e1
  have h2 := own_get h.own (i := k) (v := .string s) (by rw [List.getElem?_map, hk]; rfl)
  exact ⟨g, _, rfl, h2.1, hlt, h2.2⟩
theorem fits_skip (k n p : Nat) (t : ByteArray) (e : Int) (he : e ≠ 0) (h : CkAt c B tv yv ys e a w) :
    Calls Tryz.prog 141 #[.pointer (some ⟨c, 0, none⟩), .int .i64 (k : Int), .string t, .int .i64 (n : Int), .int .i64 (p : Int)] w (CkRes (.bool false) c B tv yv ys e a w) := by
  have c2 := h.c2
  have q : (e == 0) = false := beq_eq_false_iff_ne.2 he
  have HR := Lib.hid h
  clear h he
  go_enter Tryz.func141, Tryz.ntmps141
  go_wp2_with fail
  go_ret
  exact ⟨rfl, HR.out, Keep.refl _ _⟩
set_option maxHeartbeats 800000 in
theorem fits_yes (k n p : Nat) (s t : Ty) (hs : s.fits) (ht : t.fits) (hc : cons s t = true) (hk : ys[k]? = some s.str) (h : CkAt c B tv yv ys 0 a w) :
    Calls Tryz.prog 141 #[.pointer (some ⟨c, 0, none⟩), .int .i64 (k : Int), .string t.str, .int .i64 (n : Int), .int .i64 (p : Int)] w (CkRes (.bool true) c B tv yv ys 0 a w) := by
  have c2 := h.c2
  have c1 := h.c1
  obtain ⟨g, C, rfl, r0, hlt, -⟩ := h.read hk
  have HC := Lib.hid (fun w => Consistent_any s t hs ht w)
  rw [hc] at HC
  have HR := Lib.hid h
  clear h hc
  go_enter Tryz.func141, Tryz.ntmps141
  go_wp2_with fail
  refine (HC.out _).mono ?_
  rintro E w1 ⟨rfl, hb1⟩
  have HR1 := Lib.hid (HR.out.later hb1)
  have HK := Lib.hid (Keep.of (g := c) hb1)
  have d2 := HR1.out.c2
  clear hb1 c1 c2 r0
  go_wp2_with fail
  go_ret
  exact ⟨rfl, HR1.out, HK.out⟩
set_option maxHeartbeats 800000 in
theorem fits_no (k n p : Nat) (s t : Ty) (hs : s.fits) (ht : t.fits) (hc : cons s t = false) (hn : n ≠ 0) (hk : ys[k]? = some s.str) (h : CkAt c B tv yv ys 0 a w) :
    Calls Tryz.prog 141 #[.pointer (some ⟨c, 0, none⟩), .int .i64 (k : Int), .string t.str, .int .i64 (n : Int), .int .i64 (p : Int)] w (CkRes (.bool false) c B tv yv ys n p w) := by
  have c2 := h.c2
  have c1 := h.c1
  obtain ⟨g, C, rfl, r0, hlt, -⟩ := h.read hk
  have HC := Lib.hid (fun w => Consistent_any s t hs ht w)
  rw [hc] at HC
  have q : ((n : Int) == 0) = false := ne_lit (by omega)
  have HR := Lib.hid h
  clear h hc
  go_enter Tryz.func141, Tryz.ntmps141
  go_wp2_with fail
  refine (HC.out _).mono ?_
  rintro E w1 ⟨rfl, hb1⟩
  have HR1 := Lib.hid (HR.out.later hb1)
  have HK := Lib.hid (Keep.of (g := c) hb1)
  clear hb1 c1 c2 r0
  go_wp2_with fail
  refine (refuses_any c B tv _ ys a n p _ HR1.out).mono ?_
  rintro E w2 ⟨rfl, h2, k2⟩
  have d2 := h2.c2
  have HR2 := Lib.hid h2
  have HK2 := Lib.hid (HK.out.trans k2)
  clear h2 k2
  go_wp2_with fail
  go_ret
  exact ⟨rfl, HR2.out, HK2.out⟩
theorem matched_skip (k p : Nat) (b : UInt8) (e : Int) (he : e ≠ 0) (h : CkAt c B tv yv ys e a w) :
    Calls Tryz.prog 142 #[.pointer (some ⟨c, 0, none⟩), .int .i64 (k : Int), .int .u8 b.toNat, .int .i64 (p : Int)] w (CkRes (.string ByteArray.empty) c B tv yv ys e a w) := by
  have c2 := h.c2
  have q : (e != 0) = true := by rw [bne, beq_eq_false_iff_ne.2 he]; rfl
  have HR := Lib.hid h
  clear h he
  go_enter Tryz.func142, Tryz.ntmps142
  go_wp2_with fail
  go_ret
  exact ⟨rfl, HR.out, Keep.refl _ _⟩
set_option maxHeartbeats 800000 in
theorem matched_no (k p : Nat) (t : Ty) (ht : t.fits) (b : UInt8) (hb : b = 62 ∨ b = 44 ∨ b = 108 ∨ b = 120) (hm : Tr.matchT t b = none) (hk : ys[k]? = some t.str) (h : CkAt c B tv yv ys 0 a w) :
    Calls Tryz.prog 142 #[.pointer (some ⟨c, 0, none⟩), .int .i64 (k : Int), .int .u8 b.toNat, .int .i64 (p : Int)] w (CkRes (.string ByteArray.empty) c B tv yv ys 24 k w) := by
  have c2 := h.c2
  have c1 := h.c1
  obtain ⟨g, C, rfl, r0, hlt, -⟩ := h.read hk
  have HC := Lib.hid (fun w => Match_any t w ht b hb)
  rw [hm] at HC
  have HR := Lib.hid h
  clear h hm hb
  go_enter Tryz.func142, Tryz.ntmps142
  go_wp2_with fail
  refine (HC.out _).mono ?_
  rintro E w1 ⟨rfl, hb1⟩
  have HR1 := Lib.hid (HR.out.later hb1)
  have HK := Lib.hid (Keep.of (g := c) hb1)
  clear hb1 c1 c2 r0
  go_wp2_with fail
  refine (refuses_any c B tv _ ys a 24 k _ HR1.out).mono ?_
  rintro E w2 ⟨rfl, h2, k2⟩
  have HR2 := Lib.hid h2
  have HK2 := Lib.hid (HK.out.trans k2)
  clear h2 k2
  go_wp2_with fail
  go_ret
  exact ⟨rfl, HR2.out, HK2.out⟩
set_option maxHeartbeats 800000 in
theorem matched_yes (k p : Nat) (t u : Ty) (ht : t.fits) (b : UInt8) (hb : b = 62 ∨ b = 44 ∨ b = 108 ∨ b = 120) (l : List Ty) (hm : Tr.matchT t b = some l) (hp : l[p]? = some u) (hk : ys[k]? = some t.str) (h : CkAt c B tv yv ys 0 a w) :
    Calls Tryz.prog 142 #[.pointer (some ⟨c, 0, none⟩), .int .i64 (k : Int), .int .u8 b.toNat, .int .i64 (p : Int)] w (CkRes (.string u.str) c B tv yv ys 0 a w) := by
  have c2 := h.c2
  have c1 := h.c1
  obtain ⟨g, C, rfl, r0, hlt, -⟩ := h.read hk
  have HC := Lib.hid (fun w => Match_any t w ht b hb)
  rw [hm] at HC
  have HR := Lib.hid h
  have hpl : p < l.length := (List.getElem?_eq_some_iff.1 hp).1
  clear h hm hb
  go_enter Tryz.func142, Tryz.ntmps142
  go_wp2_with fail
  refine (HC.out _).mono ?_
  rintro E w1 ⟨v1, rfl, ho1, hb1⟩
  have HR1 := Lib.hid (HR.out.later hb1)
  have HK := Lib.hid (Keep.of (g := c) hb1)
  obtain ⟨A1, c1', rfl⟩ := own_shape ho1
  obtain ⟨g1, _, e1, -⟩ := own_read ho1 (by omega)
  simp only [Value.slice.injEq] at e1
  obtain ⟨rfl, _, rfl⟩ := e1
  have r1 := (own_get ho1 (i := p) (v := .string u.str) (by unfold strs; rw [List.getElem?_map, hp]; rfl)).1
  clear hb1 c1 c2 r0 ho1
  go_wp2_with fail
  go_ret
  exact ⟨rfl, HR1.out, HK.out⟩
end
end Go.Proofs.YtdfadmhomjcmeaaGreatDoor

/- Walks of the checker: the meet of kids; a name's type. -/
namespace Go.Proofs.YtdfadmhomjcmeaaGreatDoor
set_option linter.unusedSimpArgs false
set_option linter.unusedVariables false
open Go.RowKit Culp

/-- A slice of places, anywhere in its row. -/
def KidsV (c : Nat) (w : World) (v : Value) (P : List Nat) : Prop := ∃ g o C n, v = .slice (some ⟨g, o, none⟩) n C ∧ P.length = n ∧ n ≤ C ∧ g ≠ c ∧ ∀ (j p : Nat), P[j]? = some p → w.cell? ⟨g, o + j, none⟩ = some (.int .i64 (p : Int))
theorem KidsV.keep {c : Nat} {w w' : World} {v : Value} {P : List Nat} (h : KidsV c w v P) (k : Keep c w w') : KidsV c w' v P := by
  obtain ⟨g, o, C, n, rfl, hn, hC, hg, hc⟩ := h
  exact ⟨g, o, C, n, rfl, hn, hC, hg, fun j p hj => k.cell (hc j p hj) hg⟩
/-- The kids' types, as the row tells them. -/
def Told (ys : List ByteArray) (K : List (Nat × Ty)) : Prop := ∀ a ∈ K, ys[a.1]? = some a.2.str ∧ a.2.fits
/-- What a rule answers. -/
def RuleRes (c B : Nat) (tv yv : Value) (ys : List ByteArray) (a : Nat) (r : Except Tr.Bad Ty) (w : World) (E : Ending) (w' : World) : Prop := match r with
  | .ok t => CkRes (.string t.str) c B tv yv ys 0 a w E w'
  | .error b => ∃ s : ByteArray, CkRes (.string s) c B tv yv ys b.1 b.2 w E w' ∧ b.1 ≠ 0
/-- What a part of a rule answers: nothing, if it refuses. -/
def RuleRes0 (c B : Nat) (tv yv : Value) (ys : List ByteArray) (a : Nat) (r : Except Tr.Bad Ty) (w : World) (E : Ending) (w' : World) : Prop := match r with
  | .ok t => CkRes (.string t.str) c B tv yv ys 0 a w E w'
  | .error b => CkRes (.string ByteArray.empty) c B tv yv ys b.1 b.2 w E w' ∧ b.1 ≠ 0
theorem RuleRes0.rule {c B a : Nat} {tv yv : Value} {ys : List ByteArray} {r : Except Tr.Bad Ty} {w w' : World} {E : Ending} (h : RuleRes0 c B tv yv ys a r w E w') : RuleRes c B tv yv ys a r w E w' := by
  cases r with
  | ok t => exact h
  | error b => exact ⟨_, h⟩
section
variable (c B : Nat) (tv yv : Value) (ys : List ByteArray) (a : Nat)
theorem meets_ok {p : Nat} {m s : Ty} {q : Nat} {K : List (Nat × Ty)} (hc : cons s m = true) (h : (meet m s).enc.length ≤ 64) : Tr.meetsT false p m ((q, s) :: K) = Tr.meetsT false p (meet m s) K := by
  rw [cons_comm] at hc
  simp [Tr.meetsT, Tr.fitT, hc, h]
theorem meets_large {p : Nat} {m s : Ty} {q : Nat} {K : List (Nat × Ty)} (hc : cons s m = true) (h : ¬ (meet m s).enc.length ≤ 64) : Tr.meetsT false p m ((q, s) :: K) = .error (21, p) := by
  rw [cons_comm] at hc
  simp [Tr.meetsT, Tr.fitT, hc, h]
theorem meets_no {p : Nat} {m s : Ty} {q : Nat} {K : List (Nat × Ty)} (hc : cons s m = false) : Tr.meetsT false p m ((q, s) :: K) = .error (25, q) := by
  rw [cons_comm] at hc
  simp [Tr.meetsT, Tr.fitT, hc]
set_option maxHeartbeats 1600000 in
theorem met_any (p : Nat) (p0 : Nat) (t0 : Ty) (K : List (Nat × Ty)) (kv : Value) (w : World) (hk : KidsV c w kv (p0 :: K.map Prod.fst)) (hT : Told ys ((p0, t0) :: K)) (hK : K.length ≤ 1000000) (h : CkAt c B tv yv ys 0 a w) :
    Calls Tryz.prog 143 #[.pointer (some ⟨c, 0, none⟩), kv, .int .i64 (p : Int)] w (RuleRes0 c B tv yv ys a (Tr.meetsT false p t0 K) w) := by
  have HH := Lib.hid h
  have HT := Lib.hid hT
  have HKV := Lib.hid hk
  have c1 := h.c1
  obtain ⟨gk, o, C, n, rfl, hn, hC, hg, hc⟩ := hk
  obtain ⟨g, C2, rfl, r0, hlt, -⟩ := h.read (hT _ List.mem_cons_self).1
  have k0 : w.cell? ⟨gk, o, none⟩ = some (.int .i64 (p0 : Int)) := hc 0 p0 rfl
  obtain rfl : n = K.length + 1 := by rw [← hn]; simp
  clear h hT hc hn
  go_enter Tryz.func143, Tryz.ntmps143
  rcases Nat.lt_or_ge 1 C with hC1 | hC1
  · have hne : ¬ (C = 1) := by omega
    go_wp2_with fail
    go_quiet (fail)
    go_wp2_with fail
    have HH0 : Hid (CkAt c B tv (.slice (some ⟨g, 0, none⟩) ys.length C2) ys 0 a (w.drewN nq)) := Lib.hid (HH.out.later (below_dn _ _))
    have HK0 : Hid (Keep c w (w.drewN nq)) := Lib.hid (Keep.of (below_dn _ _))
    have HT1 := Lib.hid (HT.out _ List.mem_cons_self).2
    have HT2 := Lib.hid (fun a ha => HT.out a (List.mem_cons_of_mem _ ha))
    have HKV2 : Hid (∀ (j q : Nat), (K.map Prod.fst)[j]? = some q → ∀ w', Keep c w w' → w'.cell? ⟨gk, o + 1 + j, none⟩ = some (.int .i64 (q : Int))) := Lib.hid (by
      obtain ⟨g', o', C', n', e1, _, _, hg', hc'⟩ := HKV.out
      simp only [Value.slice.injEq, Option.some.injEq, Addr.mk.injEq] at e1
      obtain ⟨⟨rfl, rfl, _⟩, _, _⟩ := e1
      exact fun j q hj w' k => by
        rw [Nat.add_assoc, Nat.add_comm 1 j]
        exact k.cell (hc' (j + 1) q hj) hg')
    clear HKV HT r0 k0 c1 HH
    go_loopw [7, 24] (fun m i wr => ∃ (k : Nat) (mt : Ty), i = .int .i64 k ∧ k ≤ K.length ∧ m = .string mt.str ∧ Hid mt.fits ∧ Hid (Tr.meetsT false p t0 K = Tr.meetsT false p mt (K.drop k)) ∧ Hid (CkAt c B tv (.slice (some ⟨g, 0, none⟩) ys.length C2) ys 0 a wr) ∧ Hid (Keep c w wr)) (fun _ i _ => K.length - (intOf i).toNat)
    case atStart => exact ⟨0, t0, rfl, Nat.zero_le _, rfl, HT1, Lib.hid rfl, HH0, HK0⟩
    case round =>
      obtain ⟨k, mt, rfl, hk, rfl, HF, HM, HC, HKW⟩ := hrel
      by_cases hlt : k < K.length
      · obtain ⟨⟨q, s⟩, hKk⟩ : ∃ x, K[k]? = some x := ⟨_, List.getElem?_eq_getElem hlt⟩
        have x0 := HKV2.out k q (by rw [List.getElem?_map, hKk]; rfl) _ HKW.out
        have hts := HT2.out (q, s) (List.mem_of_getElem? hKk)
        have HD : Hid (K.drop k = (q, s) :: K.drop (k + 1)) := Lib.hid (by
          rw [List.drop_eq_getElem_cons hlt]
          rw [List.getElem?_eq_getElem hlt] at hKk
          injection hKk with hKk
          rw [hKk])
        have HTS := Lib.hid hts
        clear hKk hts
        cases hcs : cons s mt with
        | false =>
          have HR : Hid (Tr.meetsT false p t0 K = .error (25, q)) := Lib.hid (by rw [HM.out, HD.out, meets_no hcs])
          have HFN := Lib.hid (fun w h => fits_no c B tv (.slice (some ⟨g, 0, none⟩) ys.length C2) ys a w q 25 q s mt HTS.out.2 HF.out hcs (by decide) HTS.out.1 h)
          generalize Tr.meetsT false p t0 K = R at *
          clear hcs HM HD
          go_wp2_with fail
          refine (HFN.out _ HC.out).mono ?_
          rintro E w2 ⟨rfl, h2, k2⟩
          have HR2 := Lib.hid h2
          have HK2 := Lib.hid (HKW.out.trans k2)
          clear h2 k2 HFN
          go_wp2_with fail
          go_ret
          rw [HR.out]
          exact ⟨⟨rfl, HR2.out, HK2.out⟩, (by decide : (25 : Int) ≠ 0)⟩
        | true =>
          have HFY := Lib.hid (fun w h => fits_yes c B tv (.slice (some ⟨g, 0, none⟩) ys.length C2) ys a w q 25 q s mt HTS.out.2 HF.out hcs HTS.out.1 h)
          have HMT := Lib.hid (fun w => Meet_any mt s w HF.out HTS.out.2 (by rw [cons_comm]; exact hcs))
          have HOK := Lib.hid (fun h64 => (HM.out.trans (congrArg _ HD.out)).trans (meets_ok (p := p) (q := q) (K := K.drop (k + 1)) hcs h64))
          have HLG := Lib.hid (fun h64 => (HM.out.trans (congrArg _ HD.out)).trans (meets_large (p := p) (q := q) (K := K.drop (k + 1)) hcs h64))
          have HRD := Lib.hid HTS.out.1
          clear hcs HM HD
          go_wp2_with fail
          refine (HFY.out _ HC.out).mono ?_
          rintro E w2 ⟨rfl, h2, k2⟩
          have HC2 := Lib.hid h2
          have HK2 := Lib.hid (HKW.out.trans k2)
          have c1 := h2.c1
          obtain ⟨g', C', e1, r0, hql, -⟩ := h2.read HRD.out
          simp only [Value.slice.injEq, Option.some.injEq, Addr.mk.injEq] at e1
          obtain ⟨⟨rfl, _, _⟩, _, rfl⟩ := e1
          clear h2 k2 HFY
          go_wp2_with fail
          refine (HMT.out _).mono ?_
          rintro E w3 ⟨rfl, hb3⟩
          have HC3 := Lib.hid (HC2.out.later hb3)
          have HK3 := Lib.hid (HK2.out.trans (Keep.of hb3))
          clear hb3 c1 r0 HMT
          by_cases h64 : (meet mt s).enc.length ≤ 64
          · have HE : Hid (MeetRes mt s = .tuple #[.string (meet mt s).str, .int .i64 0]) := Lib.hid (if_pos h64)
            have HO := Lib.hid (HOK.out h64)
            have HFM : Hid (meet mt s).fits := Lib.hid h64
            rw [HE.out]
            clear h64 HE HOK HLG
            go_wp2_with fail
            go_roundw
            case rel => exact ⟨k + 1, meet mt s, by go_num, by omega, rfl, HFM, HO, HC3, HK3⟩
            case measure => simp [intOf]; omega
          · have HE : Hid (MeetRes mt s = .tuple #[.string ByteArray.empty, .int .i64 21]) := Lib.hid (if_neg h64)
            have HL := Lib.hid (HLG.out h64)
            rw [HE.out]
            clear h64 HE HOK HLG
            go_wp2_with fail
            refine (refuses_any c B tv _ ys a 21 p _ HC3.out).mono ?_
            rintro E w4 ⟨rfl, h4, k4⟩
            have HC4 := Lib.hid h4
            have HK4 := Lib.hid (HK3.out.trans k4)
            clear h4 k4
            go_wp2_with fail
            go_ret
            rw [HL.out]
            exact ⟨⟨rfl, HC4.out, HK4.out⟩, (by decide : (21 : Int) ≠ 0)⟩
      · have HR : Hid (Tr.meetsT false p t0 K = .ok mt) := Lib.hid (by rw [HM.out, List.drop_eq_nil_of_le (by omega)]; rfl)
        obtain rfl : k = K.length := by omega
        clear HM
        go_wp2_with fail
        go_ret
        rw [HR.out]
        exact ⟨rfl, HC.out, HKW.out⟩
  · obtain rfl : C = 1 := by omega
    obtain rfl : K = [] := List.eq_nil_of_length_eq_zero (by omega)
    have HH0 : ∀ nq, Hid (CkAt c B tv (.slice (some ⟨g, 0, none⟩) ys.length C2) ys 0 a (w.drewN nq)) := fun nq => Lib.hid (HH.out.later (below_dn _ _))
    have HK0 : ∀ nq, Hid (Keep c w (w.drewN nq)) := fun nq => Lib.hid (Keep.of (below_dn _ _))
    go_wp2_with fail
    go_quiet (fail)
    go_wp2_with fail
    go_loopw [7, 24] (fun m i wr => i = .int .i64 0 ∧ m = .string t0.str ∧ Hid (CkAt c B tv (.slice (some ⟨g, 0, none⟩) ys.length C2) ys 0 a wr) ∧ Hid (Keep c w wr)) (fun _ i _ => 0)
    case atStart => exact ⟨rfl, rfl, HH0 _, HK0 _⟩
    case round =>
      obtain ⟨rfl, rfl, HC, HKW⟩ := hrel
      go_wp2_with fail
      go_ret
      exact ⟨rfl, HC.out, HKW.out⟩
end
end Go.Proofs.YtdfadmhomjcmeaaGreatDoor

/- Walks of the checker: annotations; names and their types. -/
namespace Go.Proofs.YtdfadmhomjcmeaaGreatDoor
set_option linter.unusedSimpArgs false
set_option linter.unusedVariables false
open Go.RowKit Culp

theorem empty_list {s : ByteArray} (h : s.size = 0) : (s.toList == []) = true := by
  have e : s.data.toList.length = s.size := by rw [Array.length_toList]; rfl
  rw [toL', show s.data.toList = [] from List.eq_nil_of_length_eq_zero (by omega)]
  rfl
theorem some_list {s : ByteArray} (h : s.size ≠ 0) : (s.toList == []) = false := by
  rw [toL', beq_eq_false_iff_ne]
  intro e
  have e2 : s.data.toList.length = s.size := by rw [Array.length_toList]; rfl
  rw [e] at e2
  exact h e2.symm
/-- An annotation, as it may stand. -/
def NoteOk (s : ByteArray) : Prop := s.size ≠ 0 → ∃ t : Ty, s = t.str ∧ t.fits ∧ Tr.noteT s = t
theorem unknown_any (s : ByteArray) (h : NoteOk s) (w : World) : Calls Tryz.prog 112 #[.string s] w (Gives (.string (Tr.noteT s).str) w) := by
  by_cases h0 : s.size = 0
  · have q := empty_list h0
    have HR : Hid (Tr.noteT s = .dyn) := Lib.hid (by unfold Tr.noteT; rw [if_pos h0])
    clear h0 h
    go_enter Tryz.func112, Tryz.ntmps112
    go_wp2_with fail
    go_ret
    rw [HR.out]
    exact Gives.mk rfl
  · have q := some_list h0
    obtain ⟨t, rfl, _, h2⟩ := h h0
    rw [h2]
    clear h0 h h2
    go_enter Tryz.func112, Tryz.ntmps112
    go_wp2_with fail
    go_ret
    exact Gives.mk rfl
/-- Where a link lies. -/
def ptrN : Value → Nat
  | .pointer (some a) => a.block + 1
  | _ => 0
/-- Names with their types, as a linked list: what is ahead is older. -/
def EnvIs (w : World) : Value → Tr.Env → Prop
  | v, [] => v = .pointer none
  | v, (n, t) :: l => ∃ g v', v = .pointer (some ⟨g, 0, none⟩) ∧ w.heap[g]? = some (.cells #[.string n, .string t.str, v'] 112 (0, 0)) ∧ EnvIs w v' l ∧ ptrN v' ≤ g
theorem EnvIs.keepN {a : Nat} {o : Option Nat} {w w1 : World} (k : KeepN a o w w1) : ∀ {l : Tr.Env} {v : Value}, (∀ g n t v', w.heap[g]? = some (.cells #[.string n, .string t, v'] 112 (0, 0)) → g ≠ a ∧ o ≠ some g) → EnvIs w v l → EnvIs w1 v l
  | [], _, _, h => h
  | (n, t) :: l, _, hn, ⟨g, v', h1, h2, h3, h4⟩ => ⟨g, v', h1, (k.block g (Array.getElem?_eq_some_iff.1 h2).1 (hn g n t.str v' h2).1 (hn g n t.str v' h2).2).trans h2, EnvIs.keepN k hn h3, h4⟩
theorem EnvIs.later {w w1 : World} (hb : Below w.heap.size w w1) : ∀ {l : Tr.Env} {v : Value}, EnvIs w v l → EnvIs w1 v l
  | [], _, h => h
  | (n, t) :: l, _, ⟨g, v', h1, h2, h3, h4⟩ => ⟨g, v', h1, (hb.block g (Array.getElem?_eq_some_iff.1 h2).1).trans h2, EnvIs.later hb h3, h4⟩
theorem EnvIs.shape {w : World} : ∀ {l : Tr.Env} {v : Value}, EnvIs w v l → ∃ p, v = .pointer p
  | [], _, h => ⟨_, h⟩
  | (_, _) :: _, _, ⟨_, _, h1, _⟩ => ⟨_, h1⟩
theorem EnvIs.old {w : World} : ∀ {l : Tr.Env} {v : Value}, EnvIs w v l → ptrN v ≤ w.heap.size
  | [], _, h => by rw [h]; exact Nat.zero_le _
  | (_, _) :: _, _, ⟨g, _, h1, h2, _⟩ => by rw [h1]; exact (Array.getElem?_eq_some_iff.1 h2).1
/-- A longer environment. -/
def WithRes (l : Tr.Env) (w : World) (E : Ending) (w' : World) : Prop := ∃ v, E = .returned v ∧ EnvIs w' v l ∧ Below w.heap.size w w'
theorem with_any (v : Value) (l : Tr.Env) (n : ByteArray) (t : Ty) (w : World) (h : EnvIs w v l) : Calls Tryz.prog 24 #[v, .string n, .string t.str] w (WithRes ((n, t) :: l) w) := by
  have hb : Below w.heap.size w (w.alloc (.cells #[.string n, .string t.str, v] 112)) := (Below.refl _ _).alloc (Nat.le_refl _) _
  have HR : Hid (WithRes ((n, t) :: l) w (.returned (.pointer (some ⟨w.heap.size, 0, none⟩))) (w.alloc (.cells #[.string n, .string t.str, v] 112))) := Lib.hid ⟨_, rfl, ⟨w.heap.size, v, rfl, (MapKept.heap_alloc w _).1, h.later hb, h.old⟩, hb⟩
  obtain ⟨p, rfl⟩ := h.shape
  clear h hb
  go_enter Tryz.func24, Tryz.ntmps24
  go_wp2_with fail
  go_ret
  exact HR.out
/-- What lookup finds. -/
def lookR (l : Tr.Env) (s : ByteArray) (p : Nat) : Except Tr.Bad Ty := match Tr.lookT l s with | some t => .ok t | none => .error (22, p)
theorem lookR_hit {n s : ByteArray} {t : Ty} {l : Tr.Env} {p : Nat} (h : n = s) : lookR ((n, t) :: l) s p = .ok t := by simp [lookR, Tr.lookT, h]
theorem lookR_miss {n s : ByteArray} {t : Ty} {l : Tr.Env} {p : Nat} (h : n ≠ s) : lookR ((n, t) :: l) s p = lookR l s p := by simp [lookR, Tr.lookT, h]
set_option maxHeartbeats 1600000 in
theorem lookup_any (c B : Nat) (tv yv : Value) (ys : List ByteArray) (a : Nat) (T : List Nd) (p : Nat) (x : Nd) (l : Tr.Env) (ev : Value) (w : World) (hN : Nodes w tv T) (hTl : T.length ≤ 1000000) (hx : T[p]? = some x) (hE : EnvIs w ev l) (h : CkAt c B tv yv ys 0 a w) :
    Calls Tryz.prog 109 #[.pointer (some ⟨c, 0, none⟩), .int .i64 (p : Int), ev] w (RuleRes c B tv yv ys a (lookR l x.s p) w) := by
  have HE := Lib.hid hE
  have HH := Lib.hid h
  have hpT : p < T.length := (List.getElem?_eq_some_iff.1 hx).1
  obtain ⟨A, C, rfl, hlc, hNN⟩ := hN
  obtain ⟨b, off, rfl, hM⟩ := hNN (by omega)
  have n3 := (hM.at_ hx).2.2.2.1
  have c0 := h.c0
  obtain ⟨ep, rfl⟩ := hE.shape
  generalize x.s = s at *
  clear hNN hM hx hE h
  go_enter Tryz.func109, Tryz.ntmps109
  go_wp2_with fail
  go_loopw [2] (fun v wr => ∃ l', Hid (EnvIs w v l') ∧ Hid (lookR l s p = lookR l' s p) ∧ Hid (Below w.heap.size w wr) ∧ l'.length ≤ l.length) (fun v _ => ptrN v)
  case atStart => exact ⟨l, HE, Lib.hid rfl, Lib.hid (Below.refl _ _), Nat.le_refl _⟩
  case round =>
    obtain ⟨l', HE', HL, HB, hl⟩ := hrel
    clear HE
    cases l' with
    | nil =>
      have e := HE'.out
      simp only [EnvIs] at e
      subst e
      have HR : Hid (lookR l s p = .error (22, p)) := Lib.hid (by rw [HL.out]; rfl)
      have HC := Lib.hid (HH.out.later HB.out)
      have HK := Lib.hid (Keep.of (g := c) HB.out)
      clear HL HB
      go_wp2_with fail
      refine (refuses_any c B _ yv ys a 22 p _ HC.out).mono ?_
      rintro E w2 ⟨rfl, h2, k2⟩
      have HC2 := Lib.hid h2
      have HK2 := Lib.hid (HK.out.trans k2)
      clear h2 k2
      go_wp2_with fail
      go_ret
      rw [HR.out]
      exact ⟨_, ⟨rfl, HC2.out, HK2.out⟩, (by decide : (22 : Int) ≠ 0)⟩
    | cons nt l1 =>
      obtain ⟨n, t⟩ := nt
      obtain ⟨g, v', rfl, hb0, hE1, h4⟩ := HE'.out
      obtain ⟨ep', rfl⟩ := hE1.shape
      have HE1 := Lib.hid hE1
      have e0 : wr.cell? ⟨g, 0, none⟩ = some (.string n) := cell_later HB.out (by simp [World.cell?, hb0])
      have e1 : wr.cell? ⟨g, 1, none⟩ = some (.string t.str) := cell_later HB.out (by simp [World.cell?, hb0])
      have e2 : wr.cell? ⟨g, 2, none⟩ = some (.pointer ep') := cell_later HB.out (by simp [World.cell?, hb0])
      have m3 := cell_later HB.out n3
      have d0 := cell_later HB.out c0
      clear HE' hb0 hE1
      by_cases he : n = s
      · have es : (n.toList == s.toList) = true := by rw [he]; exact beq_self_eq_true _
        have HR : Hid (lookR l s p = .ok t) := Lib.hid (by rw [HL.out, lookR_hit he])
        have HC : ∀ nq, Hid (CkAt c B _ yv ys 0 a (wr.drewN nq)) := fun nq => Lib.hid ((HH.out.later HB.out).later (below_dn _ _))
        have HK : ∀ nq, Hid (Keep c w (wr.drewN nq)) := fun nq => Lib.hid ((Keep.of (g := c) HB.out).trans (Keep.of (below_dn _ _)))
        clear he HL HB
        go_wp2_with fail
        go_quiet (fail)
        go_wp2_with fail
        go_ret
        rw [HR.out]
        exact ⟨rfl, (HC _).out, (HK _).out⟩
      · have es : (n.toList == s.toList) = false := beq_eq_false_iff_ne.2 (by rw [toL', toL']; exact fun h => he (str_inj' h))
        have HL' : Hid (lookR l s p = lookR l1 s p) := Lib.hid (by rw [HL.out, lookR_miss he])
        have HB' : ∀ nq, Hid (Below w.heap.size w (wr.drewN nq)) := fun nq => Lib.hid (below_later (below_dn _ _) HB.out)
        clear he HL HB
        go_wp2_with fail
        go_quiet (fail)
        go_wp2_with fail
        go_roundw
        case rel => exact ⟨l1, HE1, HL', HB' _, by simp only [List.length_cons] at hl; omega⟩
        case measure => exact Nat.lt_succ_of_le h4
end Go.Proofs.YtdfadmhomjcmeaaGreatDoor

/- Walks of the checker: rules of lists. -/
namespace Culp.Tr
set_option linter.unusedSimpArgs false
set_option linter.unusedVariables false
open Go
theorem matchT_two {t : Ty} {h : UInt8} {l : List Ty} (hh : h = 62 ∨ h = 44) (hm : matchT t h = some l) : ∃ u v, l = [u, v] := by
  unfold matchT at hm
  split at hm
  · first | rw [if_pos hh] at hm | skip
    injection hm with hm; exact ⟨_, _, hm.symm⟩
  · split at hm
    · rename_i h2
      injection hm with hm
      subst hm
      cases t <;> rcases hh with rfl | rfl <;> simp [Ty.hd] at h2 <;> exact ⟨_, _, rfl⟩
    · cases hm
theorem matchT_one {t : Ty} {h : UInt8} {l : List Ty} (hh : h = 108 ∨ h = 120) (hm : matchT t h = some l) : ∃ u, l = [u] := by
  unfold matchT at hm
  split at hm
  · rw [if_neg (by rcases hh with rfl | rfl <;> decide)] at hm; injection hm with hm; exact ⟨_, hm.symm⟩
  · split at hm
    · rename_i h2
      injection hm with hm
      subst hm
      cases t <;> rcases hh with rfl | rfl <;> simp [Ty.hd] at h2 <;> exact ⟨_, rfl⟩
    · cases hm
theorem matchT_fits {t : Ty} {h : UInt8} {l : List Ty} (ht : t.fits) (hm : matchT t h = some l) : ∀ u ∈ l, u.fits := by
  have hd : Ty.dyn.fits := by unfold Ty.fits; decide
  unfold matchT at hm
  split at hm
  · split at hm <;> (injection hm with hm; subst hm; intro u hu; simp at hu; subst hu; exact hd)
  · split at hm
    · injection hm with hm
      subst hm
      intro u hu
      exact Go.Proofs.YtdfadmhomjcmeaaGreatDoor.fits_sub ht hu
    · cases hm
/-- The state after so much: the first refusal, and where. -/
def stE {α : Type} : Except Bad α → Int | .ok _ => 0 | .error b => b.1
def stA {α : Type} (a : Nat) : Except Bad α → Nat | .ok _ => a | .error b => b.2
def strOf : Except Bad Ty → ByteArray | .ok t => t.str | .error _ => ByteArray.empty
def okB {α : Type} : Except Bad α → Bool | .ok _ => true | .error _ => false
def Good {α : Type} (R : Except Bad α) : Prop := ∀ b, R = .error b → b.1 ≠ 0
def FitsR (R : Except Bad Ty) : Prop := ∀ t, R = .ok t → t.fits
/-- What was found must fit a kid's type. -/
def thenFit (R : Except Bad Ty) (s : Ty) (n : Int) (p : Nat) : Except Bad Ty := match R with
  | .error b => .error b
  | .ok t => (fitT false s t n p).map fun _ => t
def thenPart {α : Type} (R : Except Bad α) (p : Nat) (t : Ty) (h : UInt8) (k : Nat) : Except Bad Ty := match R with
  | .error b => .error b
  | .ok _ => partT p t h k
theorem good_ok {α : Type} (x : α) : Good (.ok x : Except Bad α) := fun b h => by cases h
theorem fitsR_ok {t : Ty} (h : t.fits) : FitsR (.ok t) := fun u hu => by injection hu with hu; subst hu; exact h
theorem partT_good (p : Nat) (t : Ty) (h : UInt8) (k : Nat) : Good (partT p t h k) := fun b hb => by
  unfold partT at hb
  split at hb
  · injection hb with hb; subst hb; show (24 : Int) ≠ 0; decide
  · cases hb
theorem partT_fits {p : Nat} {t : Ty} {h : UInt8} {k : Nat} (ht : t.fits) : FitsR (partT p t h k) := fun u hu => by
  unfold partT at hu
  split at hu
  · cases hu
  · rename_i l hl
    injection hu with hu
    subst hu
    rw [List.getD_eq_getElem?_getD]
    cases hk : l[k]? with
    | none => show Ty.dyn.fits; unfold Ty.fits; decide
    | some v => exact matchT_fits ht hl v (List.mem_of_getElem? hk)
theorem fitT_good {same : Bool} {s t : Ty} {n : Int} {p : Nat} (hn : n ≠ 0) : Good (fitT same s t n p) := fun b hb => by
  unfold fitT at hb
  split at hb
  · cases hb
  · injection hb with hb; subst hb; exact hn
theorem map_good {α β : Type} {R : Except Bad α} (f : α → β) (h : Good R) : Good (R.map f) := fun b hb => by
  cases R with
  | ok x => cases hb
  | error c => injection hb with hb; subst hb; exact h _ rfl
theorem thenFit_good {R : Except Bad Ty} {s : Ty} {n : Int} {p : Nat} (h : Good R) (hn : n ≠ 0) : Good (thenFit R s n p) := by
  cases R with
  | ok t => exact map_good _ (fitT_good hn)
  | error b => exact h
theorem strOf_size {R : Except Bad Ty} (h : FitsR R) : (strOf R).size ≤ 64 := by
  cases R with
  | ok t => show t.str.size ≤ 64; rw [str_size]; exact h t rfl
  | error b => show ByteArray.empty.size ≤ 64; decide
theorem meetsT_fits {same : Bool} {p : Nat} : ∀ (K : List (Nat × Ty)) {m : Ty}, m.fits → FitsR (meetsT same p m K)
  | [], m, hm => fitsR_ok hm
  | (q, s) :: K, m, hm => fun t ht => by
    unfold meetsT at ht
    split at ht
    · cases ht
    · split at ht
      · rename_i h64
        exact meetsT_fits K (show Ty.fits _ from h64) t ht
      · cases ht
end Culp.Tr
namespace Go.Proofs.YtdfadmhomjcmeaaGreatDoor
set_option linter.unusedSimpArgs false
set_option linter.unusedVariables false
open Go.RowKit Culp
theorem list_str (a : Ty) : { data := #[108] } ++ a.str = (Ty.list a).str := by apply ByteArray.ext; apply Array.ext'; simp [Ty.str, Ty.enc]
theorem box_str (a : Ty) : { data := #[120] } ++ a.str = (Ty.box a).str := by apply ByteArray.ext; apply Array.ext'; simp [Ty.str, Ty.enc]
theorem pair_str (a b : Ty) : ({ data := #[44] } ++ a.str) ++ b.str = (Ty.pair a b).str := by apply ByteArray.ext; apply Array.ext'; simp [Ty.str, Ty.enc]
theorem fn_str (a b : Ty) : ({ data := #[62] } ++ a.str) ++ b.str = (Ty.fn a b).str := by apply ByteArray.ext; apply Array.ext'; simp [Ty.str, Ty.enc]

section
variable (c B : Nat) (tv yv : Value) (ys : List ByteArray) (a : Nat) (w : World)
theorem matched_any (k p : Nat) (t : Ty) (ht : t.fits) (b : UInt8) (hb : (b = 62 ∨ b = 44) ∧ p < 2 ∨ (b = 108 ∨ b = 120) ∧ p < 1) (hk : ys[k]? = some t.str) (h : CkAt c B tv yv ys 0 a w) :
    Calls Tryz.prog 142 #[.pointer (some ⟨c, 0, none⟩), .int .i64 (k : Int), .int .u8 b.toNat, .int .i64 (p : Int)] w (RuleRes0 c B tv yv ys a (Tr.partT k t b p) w) := by
  have hb' : b = 62 ∨ b = 44 ∨ b = 108 ∨ b = 120 := by rcases hb with ⟨h | h, _⟩ | ⟨h | h, _⟩ <;> simp [h]
  cases hm : Tr.matchT t b with
  | none =>
    refine (matched_no c B tv yv ys a w k p t ht b hb' hm hk h).mono fun E w' hr => ?_
    unfold Tr.partT
    rw [hm]
    exact ⟨hr, (by decide : (24 : Int) ≠ 0)⟩
  | some l =>
    have hl : ∃ u, l[p]? = some u := by
      rcases hb with ⟨hb, hp⟩ | ⟨hb, hp⟩
      · obtain ⟨u, v, rfl⟩ := Tr.matchT_two hb hm
        match p, hp with
        | 0, _ => exact ⟨_, rfl⟩
        | 1, _ => exact ⟨_, rfl⟩
      · obtain ⟨u, rfl⟩ := Tr.matchT_one hb hm
        match p, hp with
        | 0, _ => exact ⟨_, rfl⟩
    obtain ⟨u, hu⟩ := hl
    refine (matched_yes c B tv yv ys a w k p t u ht b hb' l hm hu hk h).mono fun E w' hr => ?_
    unfold Tr.partT
    rw [hm]
    show CkRes (.string (l.getD p .dyn).str) c B tv yv ys 0 a w E w'
    rw [List.getD_eq_getElem?_getD, hu]
    exact hr
/-- The checker after a node was laid in a block of its own. -/
theorem CkAt.node {c B a : Nat} {tv yv : Value} {ys : List ByteArray} {e : Int} {w : World} (h : CkAt c B tv yv ys e a w) (cs : Array Value) (t : TypeId) : CkAt c B tv yv ys e a (w.alloc (.cells cs t)) := h.later ((Below.refl _ _).alloc (Nat.le_refl _) _)
theorem alloc_cell {w : World} {b : Addr} {v : Value} (cs : Array Value) (t : TypeId) (h : w.cell? b = some v) : (w.alloc (.cells cs t)).cell? b = some v := cell_later ((Below.refl _ _).alloc (Nat.le_refl _) _) h
theorem keep_alloc (c : Nat) (w : World) (cs : Array Value) (t : TypeId) : Keep c w (w.alloc (.cells cs t)) := (Keep.refl c w).alloc _
/-- What is asked, whatever came before it. -/
theorem matchedR {α : Type} (R0 : Except Tr.Bad α) (hG : Tr.Good R0) (k p : Nat) (t : Ty) (ht : t.fits) (b : UInt8) (hb : (b = 62 ∨ b = 44) ∧ p < 2 ∨ (b = 108 ∨ b = 120) ∧ p < 1) (hk : ys[k]? = some t.str) (h : CkAt c B tv yv ys (Tr.stE R0) (Tr.stA a R0) w) :
    Calls Tryz.prog 142 #[.pointer (some ⟨c, 0, none⟩), .int .i64 (k : Int), .int .u8 b.toNat, .int .i64 (p : Int)] w (CkRes (.string (Tr.strOf (Tr.thenPart R0 k t b p))) c B tv yv ys (Tr.stE (Tr.thenPart R0 k t b p)) (Tr.stA a (Tr.thenPart R0 k t b p)) w) := by
  cases R0 with
  | error e => exact matched_skip c B tv yv ys e.2 w k p b e.1 (hG e rfl) h
  | ok x =>
    refine (matched_any c B tv yv ys a w k p t ht b hb hk h).mono fun E w' hr => ?_
    show CkRes (.string (Tr.strOf (Tr.partT k t b p))) c B tv yv ys (Tr.stE (Tr.partT k t b p)) (Tr.stA a (Tr.partT k t b p)) w E w'
    unfold RuleRes0 at hr
    split at hr
    · rename_i h2; rw [h2]; exact hr
    · rename_i h2; rw [h2]; exact hr.1
theorem fitsR (R : Except Tr.Bad Ty) (hG : Tr.Good R) (hF : Tr.FitsR R) (k n p : Nat) (tb : ByteArray) (htb : ∀ t, R = .ok t → tb = t.str) (s : Ty) (hs : s.fits) (hn : n ≠ 0) (hk : ys[k]? = some s.str) (h : CkAt c B tv yv ys (Tr.stE R) (Tr.stA a R) w) :
    Calls Tryz.prog 141 #[.pointer (some ⟨c, 0, none⟩), .int .i64 (k : Int), .string tb, .int .i64 (n : Int), .int .i64 (p : Int)] w (CkRes (.bool (Tr.okB (Tr.thenFit R s n p))) c B tv yv ys (Tr.stE (Tr.thenFit R s n p)) (Tr.stA a (Tr.thenFit R s n p)) w) := by
  cases R with
  | error e => exact fits_skip c B tv yv ys e.2 w k n p _ e.1 (hG e rfl) h
  | ok t =>
    rw [htb t rfl]
    cases hc : cons s t with
    | true =>
      have e : Tr.thenFit (.ok t) s n p = .ok t := by simp [Tr.thenFit, Tr.fitT, hc, Except.map]
      rw [e]
      exact fits_yes c B tv yv ys a w k n p s t hs (hF t rfl) hc hk h
    | false =>
      have e : Tr.thenFit (.ok t) s n p = .error ((n : Int), p) := by simp [Tr.thenFit, Tr.fitT, hc, Except.map]
      rw [e]
      exact fits_no c B tv yv ys a w k n p s t hs (hF t rfl) hc hn hk h
theorem CkRes.rule {R : Except Tr.Bad Ty} {s : ByteArray} {w w1 w2 : World} (hG : Tr.Good R) (hs : ∀ t, R = .ok t → s = t.str) (k : Keep c w w1) (h2 : CkAt c B tv yv ys (Tr.stE R) (Tr.stA a R) w2) (k2 : Keep c w1 w2) : RuleRes c B tv yv ys a R w (.returned (.string s)) w2 := by
  cases R with
  | ok t => rw [hs t rfl]; exact ⟨rfl, h2, k.trans k2⟩
  | error e => exact ⟨s, ⟨rfl, h2, k.trans k2⟩, hG e rfl⟩
/-- One of a kid's places. -/
theorem KidsV.read {c : Nat} {w : World} {v : Value} {P : List Nat} (h : KidsV c w v P) {j p : Nat} (hj : P[j]? = some p) : ∃ g o C, v = .slice (some ⟨g, o, none⟩) P.length C ∧ w.cell? ⟨g, o + j, none⟩ = some (.int .i64 (p : Int)) ∧ j < P.length := by
  obtain ⟨g, o, C, n, rfl, hn, hC, hg, hc⟩ := h
  subst hn
  exact ⟨g, o, C, rfl, hc j p hj, (List.getElem?_eq_some_iff.1 hj).1⟩
theorem KidsV.two {c : Nat} {w : World} {v : Value} {p0 p1 : Nat} {P : List Nat} (h : KidsV c w v (p0 :: p1 :: P)) : ∃ g o C, v = .slice (some ⟨g, o, none⟩) (P.length + 2) C ∧ g ≠ c ∧ P.length + 2 ≤ C ∧ w.cell? ⟨g, o, none⟩ = some (.int .i64 (p0 : Int)) ∧ w.cell? ⟨g, o + 1, none⟩ = some (.int .i64 (p1 : Int)) := by
  obtain ⟨g, o, C, n, rfl, hn, hC, hg, hc⟩ := h
  subst hn
  exact ⟨g, o, C, rfl, hg, hC, hc 0 p0 rfl, hc 1 p1 rfl⟩
variable (p : Nat) (x : Nd) (p0 : Nat) (t0 : Ty) (K : List (Nat × Ty)) (kv : Value)
set_option maxRecDepth 100000 in
set_option maxHeartbeats 1600000 in
theorem lists_head (hk : x.kind = 22) (hK : KidsV c w kv (p0 :: K.map Prod.fst)) (hT : Told ys ((p0, t0) :: K)) (h : CkAt c B tv yv ys 0 a w) :
    Calls Tryz.prog 144 #[.pointer (some ⟨c, 0, none⟩), .int .i64 (p : Int), x.val, kv] w (RuleRes c B tv yv ys a ((id) (Tr.partT p0 t0 108 0)) w) := by
  have HM := Lib.hid (fun w' h' => matchedR c B tv yv ys a w' (.ok ()) (Tr.good_ok _) p0 0 t0 (hT _ List.mem_cons_self).2 108 (.inr ⟨.inl rfl, by decide⟩) (hT _ List.mem_cons_self).1 h')
  have HC := Lib.hid h
  have hsz := Tr.strOf_size (Tr.partT_fits (p := p0) (h := 108) (k := 0) (hT _ List.mem_cons_self).2)
  have HG := Lib.hid (Tr.partT_good p0 t0 108 0)
  have HR : Hid (∀ w2, CkAt c B tv yv ys (Tr.stE (Tr.partT p0 t0 108 0)) (Tr.stA a (Tr.partT p0 t0 108 0)) w2 → Keep c w w2 → RuleRes c B tv yv ys a ((id) (Tr.partT p0 t0 108 0)) w (.returned (.string (let R := Tr.partT p0 t0 108 0; Tr.strOf R))) w2) := Lib.hid (fun w2 h2 k2 => by
    cases hp : Tr.partT p0 t0 108 0 with
    | ok v => rw [hp] at h2; refine CkRes.rule c B tv yv ys a (R := .ok _) (Tr.good_ok _) (fun t ht => ?_) k2 h2 (Keep.refl _ _); injection ht with ht; subst ht; exact rfl
    | error b => rw [hp] at h2; exact CkRes.rule c B tv yv ys a (R := .error b) (fun b' hb => by injection hb with hb; subst hb; exact HG.out b hp) (fun t ht => by cases ht) k2 h2 (Keep.refl _ _))
  rw [show Tr.thenPart (.ok () : Except Tr.Bad Unit) p0 t0 108 0 = Tr.partT p0 t0 108 0 from rfl] at HM
  dsimp only at HR
  generalize (id) (Tr.partT p0 t0 108 0) = RR at *
  generalize Tr.partT p0 t0 108 0 = R at *
  obtain ⟨k, kd, n, s, t, u, l, cl⟩ := x
  obtain rfl : k = 22 := hk
  obtain ⟨g, o, C, rfl, k0, hlt⟩ := hK.read (j := 0) rfl
  try rw [Nat.add_zero] at k0
  clear h hT hK
  show Calls Tryz.prog _ #[_, _, .agg #[.int .i8 22, .int .i64 kd, .int .i64 n, .string s, .string t, .string u, .int .i64 l, .int .i64 cl], _] w _
  have k1 := fun cs => alloc_cell cs 38 k0
  go_enter Tryz.func144, Tryz.ntmps144
  go_wp2_with fail
  refine (HM.out _ (HC.out.node _ _)).mono ?_
  rintro E w2 ⟨rfl, h2, k2⟩
  have HC2 := Lib.hid h2
  have HK2 := Lib.hid ((keep_alloc c w _ _).trans k2)
  clear h2 k2
  go_wp2_with fail
  go_ret
  exact HR.out _ HC2.out HK2.out
set_option maxRecDepth 100000 in
set_option maxHeartbeats 1600000 in
theorem lists_tail (hk : x.kind = 23) (hK : KidsV c w kv (p0 :: K.map Prod.fst)) (hT : Told ys ((p0, t0) :: K)) (h : CkAt c B tv yv ys 0 a w) :
    Calls Tryz.prog 144 #[.pointer (some ⟨c, 0, none⟩), .int .i64 (p : Int), x.val, kv] w (RuleRes c B tv yv ys a ((Except.map Ty.list) (Tr.partT p0 t0 108 0)) w) := by
  have HM := Lib.hid (fun w' h' => matchedR c B tv yv ys a w' (.ok ()) (Tr.good_ok _) p0 0 t0 (hT _ List.mem_cons_self).2 108 (.inr ⟨.inl rfl, by decide⟩) (hT _ List.mem_cons_self).1 h')
  have HC := Lib.hid h
  have hsz := Tr.strOf_size (Tr.partT_fits (p := p0) (h := 108) (k := 0) (hT _ List.mem_cons_self).2)
  have HG := Lib.hid (Tr.partT_good p0 t0 108 0)
  have HR : Hid (∀ w2, CkAt c B tv yv ys (Tr.stE (Tr.partT p0 t0 108 0)) (Tr.stA a (Tr.partT p0 t0 108 0)) w2 → Keep c w w2 → RuleRes c B tv yv ys a ((Except.map Ty.list) (Tr.partT p0 t0 108 0)) w (.returned (.string (let R := Tr.partT p0 t0 108 0; { data := #[108] } ++ Tr.strOf R))) w2) := Lib.hid (fun w2 h2 k2 => by
    cases hp : Tr.partT p0 t0 108 0 with
    | ok v => rw [hp] at h2; refine CkRes.rule c B tv yv ys a (R := .ok _) (Tr.good_ok _) (fun t ht => ?_) k2 h2 (Keep.refl _ _); injection ht with ht; subst ht; exact list_str _
    | error b => rw [hp] at h2; exact CkRes.rule c B tv yv ys a (R := .error b) (fun b' hb => by injection hb with hb; subst hb; exact HG.out b hp) (fun t ht => by cases ht) k2 h2 (Keep.refl _ _))
  rw [show Tr.thenPart (.ok () : Except Tr.Bad Unit) p0 t0 108 0 = Tr.partT p0 t0 108 0 from rfl] at HM
  dsimp only at HR
  generalize (Except.map Ty.list) (Tr.partT p0 t0 108 0) = RR at *
  generalize Tr.partT p0 t0 108 0 = R at *
  obtain ⟨k, kd, n, s, t, u, l, cl⟩ := x
  obtain rfl : k = 23 := hk
  obtain ⟨g, o, C, rfl, k0, hlt⟩ := hK.read (j := 0) rfl
  try rw [Nat.add_zero] at k0
  clear h hT hK
  show Calls Tryz.prog _ #[_, _, .agg #[.int .i8 23, .int .i64 kd, .int .i64 n, .string s, .string t, .string u, .int .i64 l, .int .i64 cl], _] w _
  have k1 := fun cs => alloc_cell cs 38 k0
  go_enter Tryz.func144, Tryz.ntmps144
  go_wp2_with fail
  refine (HM.out _ (HC.out.node _ _)).mono ?_
  rintro E w2 ⟨rfl, h2, k2⟩
  have HC2 := Lib.hid h2
  have HK2 := Lib.hid ((keep_alloc c w _ _).trans k2)
  clear h2 k2
  go_wp2_with fail
  go_ret
  exact HR.out _ HC2.out HK2.out
set_option maxRecDepth 100000 in
set_option maxHeartbeats 1600000 in
theorem lists_empty (hk : x.kind = 24) (hK : KidsV c w kv (p0 :: K.map Prod.fst)) (hT : Told ys ((p0, t0) :: K)) (h : CkAt c B tv yv ys 0 a w) :
    Calls Tryz.prog 144 #[.pointer (some ⟨c, 0, none⟩), .int .i64 (p : Int), x.val, kv] w (RuleRes c B tv yv ys a ((Except.map fun _ => Ty.bool) (Tr.partT p0 t0 108 0)) w) := by
  have HM := Lib.hid (fun w' h' => matchedR c B tv yv ys a w' (.ok ()) (Tr.good_ok _) p0 0 t0 (hT _ List.mem_cons_self).2 108 (.inr ⟨.inl rfl, by decide⟩) (hT _ List.mem_cons_self).1 h')
  have HC := Lib.hid h
  have hsz := Tr.strOf_size (Tr.partT_fits (p := p0) (h := 108) (k := 0) (hT _ List.mem_cons_self).2)
  have HG := Lib.hid (Tr.partT_good p0 t0 108 0)
  have HR : Hid (∀ w2, CkAt c B tv yv ys (Tr.stE (Tr.partT p0 t0 108 0)) (Tr.stA a (Tr.partT p0 t0 108 0)) w2 → Keep c w w2 → RuleRes c B tv yv ys a ((Except.map fun _ => Ty.bool) (Tr.partT p0 t0 108 0)) w (.returned (.string (let R := Tr.partT p0 t0 108 0; { data := #[98] }))) w2) := Lib.hid (fun w2 h2 k2 => by
    cases hp : Tr.partT p0 t0 108 0 with
    | ok v => rw [hp] at h2; refine CkRes.rule c B tv yv ys a (R := .ok _) (Tr.good_ok _) (fun t ht => ?_) k2 h2 (Keep.refl _ _); injection ht with ht; subst ht; exact rfl
    | error b => rw [hp] at h2; exact CkRes.rule c B tv yv ys a (R := .error b) (fun b' hb => by injection hb with hb; subst hb; exact HG.out b hp) (fun t ht => by cases ht) k2 h2 (Keep.refl _ _))
  rw [show Tr.thenPart (.ok () : Except Tr.Bad Unit) p0 t0 108 0 = Tr.partT p0 t0 108 0 from rfl] at HM
  dsimp only at HR
  generalize (Except.map fun _ => Ty.bool) (Tr.partT p0 t0 108 0) = RR at *
  generalize Tr.partT p0 t0 108 0 = R at *
  obtain ⟨k, kd, n, s, t, u, l, cl⟩ := x
  obtain rfl : k = 24 := hk
  obtain ⟨g, o, C, rfl, k0, hlt⟩ := hK.read (j := 0) rfl
  try rw [Nat.add_zero] at k0
  clear h hT hK
  show Calls Tryz.prog _ #[_, _, .agg #[.int .i8 24, .int .i64 kd, .int .i64 n, .string s, .string t, .string u, .int .i64 l, .int .i64 cl], _] w _
  have k1 := fun cs => alloc_cell cs 38 k0
  go_enter Tryz.func144, Tryz.ntmps144
  go_wp2_with fail
  refine (HM.out _ (HC.out.node _ _)).mono ?_
  rintro E w2 ⟨rfl, h2, k2⟩
  have HC2 := Lib.hid h2
  have HK2 := Lib.hid ((keep_alloc c w _ _).trans k2)
  clear h2 k2
  go_wp2_with fail
  go_ret
  exact HR.out _ HC2.out HK2.out
set_option maxRecDepth 100000 in
set_option maxHeartbeats 1600000 in
theorem lists_cons (p1 : Nat) (t1 : Ty) (hk : x.kind = 25) (hK : KidsV c w kv [p0, p1]) (hT : Told ys [(p0, t0), (p1, t1)]) (h : CkAt c B tv yv ys 0 a w) :
    Calls Tryz.prog 144 #[.pointer (some ⟨c, 0, none⟩), .int .i64 (p : Int), x.val, kv] w (RuleRes c B tv yv ys a ((Tr.thenFit (Tr.partT p1 t1 108 0) t0 23 p0).map .list) w) := by
  have h0 := hT (p0, t0) (by simp)
  have h1 := hT (p1, t1) (by simp)
  have HM := Lib.hid (fun w' h' => matchedR c B tv yv ys a w' (.ok ()) (Tr.good_ok _) p1 0 t1 h1.2 108 (.inr ⟨.inl rfl, by decide⟩) h1.1 h')
  have HC := Lib.hid h
  have hF := Tr.partT_fits (p := p1) (h := 108) (k := 0) h1.2
  have hsz := Tr.strOf_size hF
  have hG := Tr.partT_good p1 t1 108 0
  rw [show Tr.thenPart (.ok () : Except Tr.Bad Unit) p1 t1 108 0 = Tr.partT p1 t1 108 0 from rfl] at HM
  generalize Tr.partT p1 t1 108 0 = R at *
  have HFT := Lib.hid (fun w' h' => fitsR c B tv yv ys a w' R hG hF p0 23 p0 (Tr.strOf R) (fun t ht => by rw [ht]; rfl) t0 h0.2 (by decide) h0.1 h')
  have hG2 := Tr.thenFit_good (s := t0) (n := ((23 : Nat) : Int)) (p := p0) hG (by decide)
  have HR : Hid (∀ w2, CkAt c B tv yv ys (Tr.stE (Tr.thenFit R t0 ((23 : Nat) : Int) p0)) (Tr.stA a (Tr.thenFit R t0 ((23 : Nat) : Int) p0)) w2 → Keep c w w2 → RuleRes c B tv yv ys a ((Tr.thenFit R t0 23 p0).map .list) w (.returned (.string ({ data := #[108] } ++ Tr.strOf R))) w2) := Lib.hid (fun w2 h2 k2 => by
    refine CkRes.rule c B tv yv ys a (R := (Tr.thenFit R t0 ((23 : Nat) : Int) p0).map .list) (Tr.map_good _ hG2) (fun t ht => ?_) k2 ?_ (Keep.refl _ _)
    · cases R with
      | error b => cases ht
      | ok v =>
        simp only [Tr.thenFit] at ht
        cases hf : Tr.fitT false t0 v ((23 : Nat) : Int) p0 with
        | error b => rw [hf] at ht; cases ht
        | ok u => rw [hf] at ht; injection ht with ht; subst ht; exact list_str v
    · revert h2
      cases Tr.thenFit R t0 ((23 : Nat) : Int) p0 <;> exact id)
  obtain ⟨k, kd, n, s, t, u, l, cl⟩ := x
  obtain rfl : k = 25 := hk
  obtain ⟨g, o, C, rfl, hg, -, k0, k1⟩ := hK.two
  have HK0 := Lib.hid k0
  clear h hT hK h0 h1 hF hG hG2 k0
  show Calls Tryz.prog _ #[_, _, .agg #[.int .i8 25, .int .i64 kd, .int .i64 n, .string s, .string t, .string u, .int .i64 l, .int .i64 cl], _] w _
  have k2 := fun cs => alloc_cell cs 38 k1
  go_enter Tryz.func144, Tryz.ntmps144
  go_wp2_with fail
  refine (HM.out _ (HC.out.node _ _)).mono ?_
  rintro E w2 ⟨rfl, h2, kp2⟩
  have HC2 := Lib.hid h2
  have HK2 := Lib.hid ((keep_alloc c w _ _).trans kp2)
  have q0 := HK2.out.cell HK0.out hg
  clear h2 kp2 k1 k2
  go_wp2_with fail
  refine wp_region_plan (S := fun w' => w'.cell? ⟨g, o, none⟩ = some (.int .i64 (p0 : Int)))
    [(0, true), (1, true), (2, true), (3, true), (4, true), (5, true), (6, true), (7, true), (8, false)] (by kernel_rfl) (by kernel_rfl) (by kernel_rfl) (fun _ _ _ _ _ h => h) q0 ?_
  intro HS
  repeat (first | (apply wpPlan_look; rfl; rfl; (intro wq hq; (try dsimp only at hq); go_split_ands; go_simp; (try rw [if_neg (by omega)]); (try rw [if_pos (by omega)]); try with_reducible rfl); simp only [Act.put, List.setIfInBounds_toArray, List.set_cons_zero, List.set_cons_succ]) | (apply wpPlan_skip; rfl; rfl; simp only [Act.put, List.setIfInBounds_toArray, List.set_cons_zero, List.set_cons_succ]) | (apply wpPlan_pass; rfl; rfl; assumption; simp only [Act.put, List.setIfInBounds_toArray, List.set_cons_zero, List.set_cons_succ]))
  apply wpPlan_call; rfl; rfl; rfl; rfl; kernel_rfl; exact HFT.out _ (HC2.out.later (below_dn _ _)); rfl; rintro E w3 ⟨rfl, h3, k3⟩
  refine ⟨_, rfl, as_S (k3.cell HS hg) ?_⟩
  intro _
  have HC3 := Lib.hid h3
  have HK3 := Lib.hid (HK2.out.trans ((Keep.of (below_dn _ _)).trans k3))
  clear h3 k3
  simp only [Act.put, List.setIfInBounds_toArray, List.set_cons_zero, List.set_cons_succ]
  apply wpPlan_done
  go_wp2_with fail
  go_ret
  exact HR.out _ HC3.out HK3.out
set_option maxRecDepth 100000 in
set_option maxHeartbeats 1600000 in
theorem lists_none (A0 : Option Addr) (C0 : Nat) (hk : x.kind = 21) (hK : kv = .slice A0 0 C0) (h : CkAt c B tv yv ys 0 a w) :
    Calls Tryz.prog 144 #[.pointer (some ⟨c, 0, none⟩), .int .i64 (p : Int), x.val, kv] w (RuleRes c B tv yv ys a (.ok (.list .dyn)) w) := by
  have HC := Lib.hid h
  obtain ⟨k, kd, n, s, t, u, l, cl⟩ := x
  obtain rfl : k = 21 := hk
  subst hK
  clear h
  show Calls Tryz.prog _ #[_, _, .agg #[.int .i8 21, .int .i64 kd, .int .i64 n, .string s, .string t, .string u, .int .i64 l, .int .i64 cl], _] w _
  go_enter Tryz.func144, Tryz.ntmps144
  go_wp2_with fail
  go_ret
  exact ⟨rfl, HC.out.node _ _, keep_alloc c w _ _⟩
set_option maxRecDepth 100000 in
set_option maxHeartbeats 1600000 in
theorem lists_list (hk : x.kind = 21) (hK : KidsV c w kv (p0 :: K.map Prod.fst)) (hT : Told ys ((p0, t0) :: K)) (hKl : K.length ≤ 1000000) (h : CkAt c B tv yv ys 0 a w) :
    Calls Tryz.prog 144 #[.pointer (some ⟨c, 0, none⟩), .int .i64 (p : Int), x.val, kv] w (RuleRes c B tv yv ys a ((Tr.meetsT false p t0 K).map .list) w) := by
  have HC := Lib.hid h
  have HM := Lib.hid (fun w' h' hk' => met_any c B tv yv ys a p p0 t0 K kv w' hk' hT hKl h')
  have hKV := Lib.hid (fun cs => hK.keep (keep_alloc c w cs 38))
  have hsz : ∀ t, Tr.meetsT false p t0 K = .ok t → t.fits := Tr.meetsT_fits K (hT (p0, t0) List.mem_cons_self).2
  generalize Tr.meetsT false p t0 K = R at *
  obtain ⟨k, kd, n, s, t, u, l, cl⟩ := x
  obtain rfl : k = 21 := hk
  obtain ⟨g, o, C, rfl, -, -⟩ := hK.read (j := 0) rfl
  have hl : (K.map Prod.fst).length = K.length := List.length_map _
  rw [List.length_cons, hl] at HM hKV ⊢
  clear h hT hK hl
  show Calls Tryz.prog _ #[_, _, .agg #[.int .i8 21, .int .i64 kd, .int .i64 n, .string s, .string t, .string u, .int .i64 l, .int .i64 cl], _] w _
  go_enter Tryz.func144, Tryz.ntmps144
  go_wp2_with fail
  refine (HM.out _ (HC.out.node _ _) (hKV.out _)).mono ?_
  rintro E w2 hr
  have HR : Hid (∃ s' : ByteArray, E = .returned (.string s') ∧ s'.size ≤ 64 ∧ RuleRes c B tv yv ys a (R.map .list) w (.returned (.string ({ data := #[108] } ++ s'))) w2) := Lib.hid (by
    unfold RuleRes0 at hr
    cases R with
    | ok v => exact ⟨v.str, hr.1, by rw [str_size]; exact hsz v rfl, CkRes.rule c B tv yv ys a (R := .ok _) (Tr.good_ok _) (fun t ht => by injection ht with ht; subst ht; exact list_str v) (keep_alloc c w _ _) hr.2.1 hr.2.2⟩
    | error b => exact ⟨ByteArray.empty, hr.1.1, by decide, CkRes.rule c B tv yv ys a (R := .error b) (fun b' hb => by injection hb with hb; subst hb; exact hr.2) (fun t ht => by cases ht) (keep_alloc c w _ _) hr.1.2.1 hr.1.2.2⟩)
  obtain ⟨s', rfl, hs', HR⟩ := HR.out
  have HR := Lib.hid HR
  clear hr hsz
  go_wp2_with fail
  go_ret
  exact HR.out
end
end Go.Proofs.YtdfadmhomjcmeaaGreatDoor
