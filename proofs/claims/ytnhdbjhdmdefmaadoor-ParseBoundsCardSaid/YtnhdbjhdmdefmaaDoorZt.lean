
/- Walks of parse: a branch is laid behind a list, each node ahead of its kids. -/
import Derived.Test.YtnhdbjhdmdefmaaDoorZs
namespace Culp.Gr
set_option linter.unusedSimpArgs false
set_option linter.unusedVariables false
open Go Go.RowKit Culp Culp.Tr Go.Proofs.YtnhdbjhdmdefmaaDoor
/-- Nodes, as their cells lie. -/
def nfla (T : List Nd) : List Value := T.flatMap Nd.cells
theorem nfla_len (T : List Nd) : (nfla T).length = T.length * 8 := by
  induction T with
  | nil => rfl
  | cons x T ih => simp only [nfla, List.flatMap_cons, List.length_append, List.length_cons] at *; rw [ih]; show 8 + _ = _; omega
theorem nfla_app (A C : List Nd) : nfla (A ++ C) = nfla A ++ nfla C := by simp [nfla]
theorem nfla_one (x : Nd) : nfla [x] = x.cells := by simp [nfla]
def LaidRes (base : Nat) (v : Value) (n : Nat) (xs : List Value) (T : List Nd) (w : World) (E : Ending) (w' : World) : Prop := ∃ v', E = .returned v' ∧ w'.ownsRow base 42 8 v' (n + T.length) (xs ++ nfla T) ∧ w.grownBy w' v.ownBlock ∧ (v'.ownBlock = v.ownBlock ∨ ∃ g, v'.ownBlock = some g ∧ w.heap.size ≤ g)
section
variable {base n : Nat} {w w1 w2 : World} {v v1 v2 : Value} {xs : List Value}
theorem grown_next {o1 o : Option Nat} (h : w.grownBy w1 o) (ho : o1 = o ∨ ∃ g, o1 = some g ∧ w.heap.size ≤ g) (k : w1.grownBy w2 o1) : w.grownBy w2 o :=
  ⟨k.os.trans h.os, k.tape.trans h.tape, k.output.trans h.output, Nat.le_trans h.size k.size, fun b hb hne => by
    rw [k.block b (Nat.lt_of_lt_of_le hb h.size) ?_, h.block b hb hne]
    rcases ho with rfl | ⟨g, rfl, hg⟩
    · exact hne
    · intro e
      injection e with e
      omega⟩
theorem kb_grown (h : w.ownsRow base 42 8 v n xs) (hg : w.grownBy w1 v.ownBlock) : KB w w1 := fun b cs t fr hb ht => by
  have hl := (Array.getElem?_eq_some_iff.1 hb).1
  refine (hg.block b hl (fun e => ?_)).trans hb
  rcases h.2 with ⟨h1, _⟩ | ⟨g', cap, cur, h1, _, hh, _⟩
  · rw [h1] at e; cases e
  · rw [h1] at e
    have e2 : b = g' := Option.some.inj e
    rw [e2, hh] at hb
    simp only [Option.some.injEq, Obj.cells.injEq] at hb
    rcases ht with rfl | rfl
    · exact absurd hb.2.1 (by decide)
    · exact absurd hb.2.1 (by decide)
end
end Culp.Gr
namespace Go.Proofs.YtnhdbjhdmdefmaaDoor
set_option linter.unusedSimpArgs false
set_option linter.unusedVariables false
open Go.RowKit Culp Culp.Tr Culp.Gr
theorem lnode_info : (Tryd.prog.info? 42).map (fun i => (i.zero, i.size, i.bytes)) = some (some (.agg #[.int .i8 0, .int .i64 0, .int .i64 0, .string ByteArray.empty, .string ByteArray.empty, .string ByteArray.empty, .int .i64 0, .int .i64 0]), 8, 88) := by kernel_rfl
set_option maxRecDepth 100000 in
set_option maxHeartbeats 6400000 in
theorem laid_all : ∀ (N : Nat) (x : Nd) (ks : F), ks.flat.length < N → ∀ {w : World} {b base n : Nat} {v : Value} {xs : List Value}, BrL w [.pointer (some ⟨b, 0, none⟩)] (.cons x ks .nil) → w.ownsRow base 42 8 v n xs → base ≤ w.heap.size → n + 1 + ks.flat.length ≤ 10000000 →
    Calls Tryd.prog 17 #[.pointer (some ⟨b, 0, none⟩), v] w (LaidRes base v n xs (x :: ks.flat) w) := by
  intro N
  induction N with
  | zero => intro x ks h; exact absurd h (Nat.not_lt_zero _)
  | succ N ih =>
    intro x ks hN w b base n v xs hb hown hbase hlen
    obtain ⟨b', kv, kps, rest, hbe, hblk, hkv, hks, hrest⟩ := hb
    injection hbe with hbe hbe2
    injection hbe with hbe
    injection hbe with hbe
    injection hbe with hbe
    subst hbe
    clear hbe2 hrest
    have hblk0 : Blk b #[.int .i8 x.kind, .int .i64 x.kids, .int .i64 x.n, .string x.s, .string x.t, .string x.u, .int .i64 x.line, .int .i64 x.col, kv] 88 w := hblk
    have c0 := hblk0.cell (i := 0) rfl
    have c1 := hblk0.cell (i := 1) rfl
    have c2 := hblk0.cell (i := 2) rfl
    have c3 := hblk0.cell (i := 3) rfl
    have c4 := hblk0.cell (i := 4) rfl
    have c5 := hblk0.cell (i := 5) rfl
    have c6 := hblk0.cell (i := 6) rfl
    have c7 := hblk0.cell (i := 7) rfl
    obtain ⟨A, c, rfl⟩ := own_shape hown
    have hba : Below w.heap.size w (w.alloc (.cells #[.int .i8 x.kind, .int .i64 x.kids, .int .i64 x.n, .string x.s, .string x.t, .string x.u, .int .i64 x.line, .int .i64 x.col] 42)) := (Below.refl _ _).alloc (Nat.le_refl _) _
    obtain ⟨i, hi, hz0, hz1, hz2⟩ := info_parts lnode_info
    obtain ⟨v2, w2, hrun, hown2, hg2, _, hat2⟩ := run_append_own_at (P := Tryd.prog) _ base 28 28 42 i _ 8 88 Tryd.underlying28 hi hz0 hz1 hz2 rfl (by decide) _ n _ (own_later hown hba) ⟨w.heap.size, 0, none⟩ 1 1 x.cells rfl (by
      intro j u hj
      rw [Addr.add_lit, Nat.zero_add]
      rw [World.cell?_alloc_at _ _ _ _ rfl]
      simpa [Nd.cells] using hj) (by intro u hu; simp [Nd.cells] at hu; rcases hu with rfl | rfl | rfl | rfl | rfl | rfl | rfl | rfl <;> rfl) (by unfold maxLen; omega) (by omega) (Nat.le_trans hbase hba.size)
    obtain ⟨A2, C2, rfl⟩ := own_shape hown2
    have hga : w.grownBy (w.alloc (.cells #[.int .i8 x.kind, .int .i64 x.kids, .int .i64 x.n, .string x.s, .string x.t, .string x.u, .int .i64 x.line, .int .i64 x.col] 42)) (Value.slice A n c).ownBlock := ⟨hba.os, hba.tape, hba.output, hba.size, fun k hk _ => hba.block k hk⟩
    have hgw := grown_next hga (.inl rfl) hg2
    have HAT : Hid ((Value.slice A2 (n + 1) C2).ownBlock = (Value.slice A n c).ownBlock ∨ ∃ g, (Value.slice A2 (n + 1) C2).ownBlock = some g ∧ w.heap.size ≤ g) := Lib.hid (by
      rcases hat2 with a | a
      · exact .inl a
      · exact .inr ⟨_, a, hba.size⟩)
    have hkb2 := kb_grown hown hgw
    have HKV := Lib.hid (hkv.kb hkb2)
    have HKS := Lib.hid (BrL.kb ks hks hkb2)
    have hblk2 : Blk b #[.int .i8 x.kind, .int .i64 x.kids, .int .i64 x.n, .string x.s, .string x.t, .string x.u, .int .i64 x.line, .int .i64 x.col, kv] 88 w2 := hkb2 _ _ _ _ hblk0 (.inl rfl)
    have HOWN : Hid (w2.ownsRow base 42 8 (.slice A2 (n + 1) C2) (n + 1 + 0) (xs ++ nfla (x :: []))) := Lib.hid (by rw [nfla_one]; exact hown2)
    have HGW := Lib.hid hgw
    have hsz2 : w.heap.size ≤ w2.heap.size := hgw.size
    obtain ⟨Ak, ck, rfl, hkc, hkg⟩ := hkv
    have d8 := hblk2.cell (i := 8) rfl
    have hcnt := BrL.cnt ks hks
    clear hblk hblk0 hblk2 hown2 hg2 hat2 hga hgw hkb2 hks hi hz0 hz1 hz2 i hown hba hkg
    go_enter Tryd.func17, Tryd.ntmps17
    go_wp2_with (at_builtin; refine wpList_exec rfl (exec_append rfl rfl rfl rfl hrun) ?_)
    clear hrun c0 c1 c2 c3 c4 c5 c6 c7
    go_wp2_with fail
    clear d8
    have HIH := Lib.hid ih
    have hcl := Tr.F.cnt_le ks
    clear ih
    go_loopg [1, 19] (kps.length) (fun g lv iv wx => ∃ (k : Nat) (rest : F) (l2 : List Nd) (u : Value), g = kps.length - k ∧ lv = u ∧ iv = .int .i64 k ∧ k ≤ kps.length ∧ l2.length + rest.flat.length = ks.flat.length ∧ Hid (l2 ++ rest.flat = ks.flat) ∧ Hid (wx.ownsRow base 42 8 u (n + 1 + l2.length) (xs ++ nfla (x :: l2))) ∧ Hid (w.grownBy wx (Value.slice A n c).ownBlock) ∧ Hid (u.ownBlock = (Value.slice A n c).ownBlock ∨ ∃ g, u.ownBlock = some g ∧ w.heap.size ≤ g) ∧ Hid (BrL wx (kps.drop k) rest) ∧ Hid (KidsV wx (.slice Ak kps.length ck) kps))
    case atStart => exact ⟨0, ks, [], _, rfl, rfl, rfl, Nat.zero_le _, by simp, Lib.hid rfl, HOWN, HGW, HAT, HKS, HKV⟩
    case round =>
      clear HOWN HGW HAT HKS HKV
      obtain ⟨k, rest, l2, u, rfl, rfl, rfl, hk, hsum, HL, HO, HG, HA, HR, HV⟩ := hrel
      obtain ⟨A3, c3, rfl⟩ := own_shape HO.out
      by_cases hlt : k < kps.length
      · cases rest with
        | nil =>
          have h0 : kps.drop k = [] := HR.out
          have := congrArg List.length h0
          rw [List.length_drop, List.length_nil] at this
          omega
        | cons y ky r =>
          obtain ⟨b2, kv2, kps2, rest2, e1, h2, h3, h4, h5⟩ := HR.out
          have hge : kps[k]? = some (.pointer (some ⟨b2, 0, none⟩)) := by
            have := congrArg (fun l => l[0]?) e1
            simpa using this
          have hr2 : rest2 = kps.drop (k + 1) := by
            have := congrArg List.tail e1
            simpa [List.tail_drop] using this.symm
          subst hr2
          obtain ⟨A4, c4, e4, _, hg4⟩ := HV.out
          simp only [Value.slice.injEq] at e4
          obtain ⟨rfl, -, rfl⟩ := e4
          obtain ⟨g4, cur4, fr4, rfl, hh4, hc4⟩ := hg4 (by omega)
          have hcell : wr.cell? ⟨g4, k, none⟩ = some (.pointer (some ⟨b2, 0, none⟩)) := by
            simp only [World.cell?, hh4]
            exact hc4 k _ hge
          simp only [Tr.F.flat, List.length_cons, List.length_append] at hsum
          have HC := Lib.hid (HIH.out y ky (by omega) (b := b2) ⟨b2, kv2, kps2, [], rfl, h2, h3, h4, rfl⟩ HO.out (Nat.le_trans hbase HG.out.size) (by omega))
          have HR5 := Lib.hid h5
          clear e1 h2 h3 h4 h5 hge hh4 hc4 hg4 HR
          go_wp2_with fail
          refine HC.out.mono ?_
          clear HC hcell
          rintro E w5 ⟨v5, rfl, hown5, hg5, hat5⟩
          obtain ⟨A5, c5, rfl⟩ := own_shape hown5
          have hkb := kb_grown HO.out hg5
          have HG5 := Lib.hid (grown_next HG.out HA.out hg5)
          have HA5 : Hid ((Value.slice A5 (n + 1 + l2.length + (y :: ky.flat).length) c5).ownBlock = (Value.slice A n c).ownBlock ∨ ∃ g, (Value.slice A5 (n + 1 + l2.length + (y :: ky.flat).length) c5).ownBlock = some g ∧ w.heap.size ≤ g) := Lib.hid (by
            rcases hat5 with a | ⟨g, a, hg⟩
            · rw [a]; exact HA.out
            · exact .inr ⟨g, a, Nat.le_trans HG.out.size hg⟩)
          have HR6 := Lib.hid (BrL.kb _ HR5.out hkb)
          have HV6 := Lib.hid (HV.out.kb hkb)
          have HO6 := Lib.hid hown5
          clear HR5 HV hown5 hg5 hat5 hkb HO HG HA
          go_wp2_with fail
          go_roundg (kps.length - (k + 1))
          case rel =>
            refine ⟨k + 1, r, l2 ++ (y :: ky.flat), _, rfl, rfl, rfl, by omega, by simp; omega, Lib.hid ?_, Lib.hid ?_, HG5, HA5, HR6, HV6⟩
            · have := HL.out
              simp only [Tr.F.flat] at this
              rw [← this]
              simp
            · have := HO6.out
              rw [List.length_append, ← List.cons_append, nfla_app, ← List.append_assoc]
              rw [Nat.add_assoc] at this ⊢
              exact this
          case measure => omega
      · have hr0 : rest = .nil := by
          cases rest with
          | nil => rfl
          | cons y ky r =>
            obtain ⟨b2, kv2, kps2, rest2, e1, _⟩ := HR.out
            rw [List.drop_of_length_le (by omega)] at e1
            cases e1
        subst hr0
        have hl2 : l2 = ks.flat := by have := HL.out; simpa [Tr.F.flat] using this
        have hRR : LaidRes base (.slice A n c) n xs (x :: ks.flat) w (.returned (.slice A3 (n + 1 + l2.length) c3)) wr := by
          refine ⟨_, rfl, ?_, HG.out, HA.out⟩
          have := HO.out
          rw [hl2] at this ⊢
          rw [List.length_cons, show n + (ks.flat.length + 1) = n + 1 + ks.flat.length by omega]
          exact this
        have HRR := Lib.hid hRR
        clear hRR hl2 HR HV HO HG HA HL hsum
        go_wp2_with fail
        go_ret
        exact HRR.out
end Go.Proofs.YtnhdbjhdmdefmaaDoor
