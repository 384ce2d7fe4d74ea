
/- Walks of types.Words and print.note. -/
import Derived.Test.YtacihffkjadbbaaGreatDoorUd
namespace Go.Proofs.YtacihffkjadbbaaGreatDoor
set_option linter.unusedSimpArgs false
set_option linter.unusedVariables false
open Go.RowKit Culp
theorem wr_pos (t : Ty) : Pt.wr t ≠ [] := by
  cases t <;> simp [Pt.wr]
theorem wr_len (t : Ty) : (Pt.wr t).length ≤ 6 * t.enc.length := by
  induction t with
  | int | bool | text | dyn => decide
  | fn a b iha ihb => simp only [Pt.wr, Ty.enc]; split <;> simp <;> omega
  | pair a b iha ihb => simp only [Pt.wr, Ty.enc]; simp; omega
  | list a iha => simp only [Pt.wr, Ty.enc]; simp; omega
  | box a iha => simp only [Pt.wr, Ty.enc]; split <;> simp <;> omega
set_option maxRecDepth 100000 in
set_option maxHeartbeats 1600000 in
theorem Words_any (t : Ty) (ht : t.fits) (w : World) : Calls Tryz.prog 82 #[.string t.str] w (Makes (.tuple #[.string ⟨(Pt.wr t).toArray⟩, .int .i64 0]) w) := by
  have hl := wr_len t
  have hf : t.enc.length ≤ 64 := ht
  have HC := Lib.hid (Check_yes t ht)
  have HW := Lib.hid (write_any t ht)
  go_enter Tryz.func82, Tryz.ntmps82
  have HP0 : Hid (PenV 128 [] w.heap.size w.heap.size (.pointer none) (.slice none 0 0) [] (w.alloc (.cells #[.pointer none, .slice none 0 0] 128))) := Lib.hid ⟨Nat.le_refl _, heap_alloc_new w _, World.ownsRow_nil _ _ _ _, by simp [Value.ownBlock]⟩
  have hb0 : Below w.heap.size w (w.alloc (.cells #[.pointer none, .slice none 0 0] 128)) := (Below.refl _ _).alloc (Nat.le_refl _) _
  go_wp2_with fail
  refine (HC.out _).mono ?_
  rintro e w1 ⟨rfl, rfl⟩
  go_wp2_with fail
  refine (HW.out _ _ _ _ _ _ HP0.out (.inl rfl) hb0.size (by simp; omega)).mono ?_
  rintro e w2 ⟨rfl, v2, h2, k2, -⟩
  have hb2 : Below w.heap.size w w2 := k2.below hb0 hb0.size (Nat.le_refl _) (fun k e => by simp [Value.ownBlock] at e)
  clear k2
  go_wp2_with fail
  refine (String_pen (l := Pt.wr t) (by simpa using h2.pen (.inr rfl)) (wr_pos t)).mono ?_
  rintro e w3 ⟨rfl, hb3⟩
  have hb4 := hb2.trans hb3
  clear h2 hb2 hb3
  go_wp2_with fail
  go_ret2
  exact Makes.mk rfl hb4
theorem str_ne0 (t : Ty) : t.str.size ≠ 0 := by
  have := t.enc_pos
  rw [str_size]
  omega
theorem note_str (t : Ty) (ht : t.fits) : Pt.note t.str = [32, 58, 32] ++ Pt.wr t := by
  unfold Pt.note Tr.noteT
  rw [if_neg (str_ne0 t), if_neg (str_ne0 t), tyOf_str t ht]
  rfl
set_option maxRecDepth 100000 in
set_option maxHeartbeats 1600000 in
theorem note_any (s : ByteArray) (hs : s.size = 0 ∨ isTy s.data.toList = true) (w : World) : Calls Tryz.prog 45 #[.string s] w (Makes (.string ⟨(Pt.note s).toArray⟩) w) := by
  by_cases h0 : s.size = 0
  · have he : s = { data := #[] } := by
      apply ByteArray.ext
      apply Array.ext'
      exact List.eq_nil_of_length_eq_zero (by simpa using h0)
    subst he
    go_enter Tryz.func45, Tryz.ntmps45
    go_wp2_with fail
    go_ret
    exact Makes.mk rfl (Below.refl _ _)
  · obtain ⟨t, rfl, ht⟩ := ty_of s (by simpa [h0] using hs)
    have HW := Lib.hid (Words_any t ht)
    rw [note_str t ht]
    have hwl : (Pt.wr t).length ≤ 400 := by
      have := wr_len t
      have : t.enc.length ≤ 64 := ht
      omega
    have hne : t.str.toList.isEmpty = false := by
      have := t.enc_pos
      rw [toL, str_list]
      cases h : t.enc with
      | nil => rw [h] at this; simp at this
      | cons _ _ => rfl
    generalize t.str = st at *
    go_enter Tryz.func45, Tryz.ntmps45
    go_wp2_with fail
    refine (HW.out _).mono ?_
    rintro e w1 ⟨rfl, hb1⟩
    go_wp2_with fail
    go_ret
    refine Makes.mk ?_ hb1
    exact str_congr (bs_app [32, 58, 32] (Pt.wr t))
end Go.Proofs.YtacihffkjadbbaaGreatDoor
