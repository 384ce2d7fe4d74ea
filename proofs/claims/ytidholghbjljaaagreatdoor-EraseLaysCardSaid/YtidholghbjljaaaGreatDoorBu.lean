/- Walks of bags: lists of structs with texts for marks lie apart. Printed by wip/tools/bag_texts.py. -/
import Derived.Test.YtidholghbjljaaaGreatDoorBo
import Derived.Test.YtidholghbjljaaaGreatDoorHd
set_option linter.unusedSimpArgs false
set_option linter.unusedVariables false
set_option maxHeartbeats 6400000
set_option maxRecDepth 100000
namespace Go.Proofs.YtidholghbjljaaaGreatDoor
open Go.RowKit Go.Maps Culp
theorem set_self {w:World} {g i:Nat} {t:TypeId} {v:Value} {cs:Array Value} {fr:Nat × Nat} (h:w.heap[g]? = some (.cells cs t fr)) (hv:cs[i]? = some v):w.setCell ⟨g,i,none⟩ v=w:=by
 have e:cs.setIfInBounds i v=cs:=by
  apply Array.ext_getElem?
  intro j
  rw [Array.getElem?_setIfInBounds]
  split
  · rename_i hj
    subst hj
    have:=(Array.getElem?_eq_some_iff.1 hv).1
    rw [if_pos this,hv]
  · rfl
 have hh:(w.setCell ⟨g,i,none⟩ v).heap=w.heap:=by
  apply Array.ext_getElem?
  intro b
  simp only [World.setCell,Array.getElem?_modify]
  by_cases hb:g=b
  · subst hb
    simp [h,e]
  · simp [hb]
 show (⟨(w.setCell ⟨g,i,none⟩ v).heap,w.tape,w.drawn,w.os,w.output⟩:World)=w
 rw [hh]
theorem btext_any (n i:Nat) (hn:n≤1000) (hi:i≤1000000000000) (w:World) (hP:Pw w):Calls Tryz.prog 36 #[.int .i64 n,.int .i64 i] w (fun e w'=>e=.returned (.string (txt n i))∧Below w.heap.size w w') :=
 (text_any n i hn hi w hP).mono fun _ _ h=>h
def mkM (n k:Nat):List Value:=[.string (txt n k),.string { data:=#[] },.string { data:=#[] },.int .i64 0,.int .i64 0]
theorem mkM_len (n k:Nat):(mkM n k).length=5:=rfl
theorem bimp_info:(Tryz.prog.info? 90).map (fun i=>(i.zero,i.size,i.bytes))=some (some (.agg #[.string { data:=#[] },.string { data:=#[] },.string { data:=#[] },.int .i64 0,.int .i64 0]),5,64):=by kernel_rfl
theorem bimps_info:(Tryz.prog.info? 85).map (fun i=>(i.zero,i.size,i.bytes))=some (some (.slice none 0 0),1,24):=by kernel_rfl
theorem mkM_build (w:World) (x:Value) (hx:x.oneCell'=true):(Instr.buildSlice 85 1 #[(0,.agg #[x,.string { data:=#[] },.string { data:=#[] },.int .i64 0,.int .i64 0])]).run Tryz.prog w=.ok (.slice (some ⟨w.heap.size,0,none⟩) 1 1) (w.alloc (.cells #[x,.string { data:=#[] },.string { data:=#[] },.int .i64 0,.int .i64 0] 90)):=by
 simp [go_sem,Instr.buildSlice,run_underlying Tryz.underlying85]
theorem mkM_store (w:World) (g o:Nat) (n k:Nat) (h:w.there g o 5):(Instr.storeAt 90 (.pointer (some ⟨g,o,none⟩)) (.agg #[.string (txt n k),.string { data:=#[] },.string { data:=#[] },.int .i64 0,.int .i64 0])).run Tryz.prog w=.ok () (w.setCells g o (mkM n k)):=by
 have:=run_storeAt_mid (P:=Tryz.prog) w g o 90 #[.string (txt n k),.string { data:=#[] },.string { data:=#[] },.int .i64 0,.int .i64 0] h (by kernel_rfl) (by simp [Value.oneCell'])
 exact this
theorem apartImports_any (gb B:Nat) (R:List Value) (L:Nat→Nat) (bv:Value) (w:World) (cs:Array Value) (hBI:BagOf gb cs w) (hc4:cs[10]? = some bv) (hBw:B≤w.heap.size) (hbv:w.ownsRow B 85 1 bv R.length R)
 (hG:∀ n v,R[n]? = some v→∃ xs,w.ownsRow B 90 5 v (L n) xs) (hA:∀ (i j:Nat) (u v:Value),i ≠ j→R[i]? = some u→R[j]? = some v→Culp.Apart u v) (hM:R.length≤300) (hL:∀ n,L n≤1000000) (hP:Pw w) (hpB:1 < B) :
 Calls Tryz.prog 54 #[.pointer (some ⟨gb,0,none⟩)] w (fun e w'=>e=.returned (.bool true)∧Below B w w'∧BagS.Stays 90 w w'):=by
 have HL:=Lib.hid hL
 have HPW:=Lib.hid (fun wx (hb:Below B w wx)=>hP.later hb hpB)
 have HA:=Lib.hid hA
 have HC:=Lib.hid hc4
 have HBG:=Lib.hid hBI
 have HP0:=Lib.hid (BagS.Ph1.start (mk:=mkM) (sz:=5) hG)
 have HV0:=Lib.hid hbv
 have HS0:=Lib.hid (BagS.Stays.refl 90 w)
 obtain ⟨A0,cb,rfl,_,hA0⟩:=own_form hbv
 have HA0:=Lib.hid hA0
 clear hG hA hL hbv hA0 hBI hc4 hP hpB
 go_enter Tryz.func54,Tryz.ntmps54
 go_wp2_with fail
 go_loopw [3] (fun i wr=>∃ n:Nat,n≤R.length∧i=.int .i64 n∧Hid (BagS.Ph1 90 5 B R L mkM n 0 wr)∧Hid (Below B w wr)∧Hid (BagS.Stays 90 w wr)) (fun i _=>R.length - (intOf i).toNat)
 case atStart=>exact ⟨0,Nat.zero_le _,rfl,HP0,Lib.hid (Below.refl _ _),HS0⟩
 case round =>
  clear HP0
  obtain ⟨n,hn,rfl,HP,HB,HST⟩:=hrel
  have c1:=(HBG.out.stays HST.out (by decide)).cell HC.out
  by_cases hlt:n < R.length
  · obtain ⟨v,hv⟩:∃ v,R[n]? = some v:=⟨_,List.getElem?_eq_getElem hlt⟩
    have HVN:=Lib.hid hv
    obtain ⟨rb,rfl,hrb,_⟩:=HA0.out (by omega)
    obtain ⟨Av,cv,rfl⟩:=HP.out.form hv
    have r0:=(own_get (HST.out.own HV0.out (by decide)) hv).1
    clear hv
    go_wp2_with fail
    go_loopw [4] (fun i wr=>∃ k:Nat,k≤L n∧i=.int .i64 k∧Hid (BagS.Ph1 90 5 B R L mkM n k wr)∧Hid (Below B w wr)∧Hid (BagS.Stays 90 w wr)) (fun i _=>L n - (intOf i).toNat)
    case atStart=>exact ⟨0,Nat.zero_le _,rfl,HP,HB,HST⟩
    case round =>
     clear HP HB HST c1 r0
     obtain ⟨k,hk,rfl,HP,HB,HST⟩:=hrel
     have c1:=(HBG.out.stays HST.out (by decide)).cell HC.out
     have r0:=(own_get (HST.out.own HV0.out (by decide)) HVN.out).1
     have hLn:=HL.out n
     by_cases hkl:k < L n
     · obtain ⟨xs1,hx1,_⟩:=HP.out n _ HVN.out
       obtain ⟨g,_,_,e0,_⟩:=BagS.own_block hx1 (by omega)
       simp only [Value.slice.injEq] at e0
       obtain ⟨rfl,_,rfl⟩:=e0
       have HPd:Hid (BagS.Ph1 90 5 B R L mkM n k wr.drew):=Lib.hid HP.out
       have HBd:=Lib.hid HB.out.drew
       have HSd:Hid (BagS.Stays 90 w wr.drew):=Lib.hid HST.out
       clear hx1 HP HB HST
       go_wp2_with fail
       refine wp_region_plan (S:=fun w'=>w'.cell? ⟨gb,10,none⟩=some (.slice (some ⟨rb,0,none⟩) R.length cb)∧w'.cell? ⟨rb,n,none⟩=some (.slice (some ⟨g,0,none⟩) (L n) cv))
        [(0,true),(1,true),(2,true),(3,true),(4,true),(5,true),(6,true),(7,true),(8,true),(9,true),(10,false),(11,true),(12,true),(13,false)] (by kernel_rfl) (by kernel_rfl) (by kernel_rfl) (fun _ _ _ _ _ h=>h) ⟨c1,r0⟩ ?_
       intro HS
       repeat ((first | (apply wpPlan_look;rfl;rfl;(intro wq hq;(try dsimp only at hq);go_split_ands;go_simp;(try rw [if_neg (by omega)]);(try rw [if_pos (by omega)]);try with_reducible rfl)) | (apply wpPlan_skip;rfl;rfl) | (apply wpPlan_pass;rfl;rfl;assumption));simp only [Act.put,List.setIfInBounds_toArray,List.set_cons_zero,List.set_cons_succ])
       apply wpPlan_call;rfl;rfl;rfl;rfl;kernel_rfl;exact btext_any n k (by omega) (by omega) _ (HPW.out _ HBd.out);rfl;rintro e w1 ⟨rfl,hb1⟩
       refine ⟨_,rfl,as_S ⟨cell_later hb1 c1,cell_later hb1 r0⟩ ?_⟩
       intro _
       simp only [Act.put,List.setIfInBounds_toArray,List.set_cons_zero,List.set_cons_succ]
       repeat ((first | (apply wpPlan_look;rfl;rfl;(intro wq hq;(try dsimp only at hq);go_split_ands;go_simp;(try rw [if_neg (by omega)]);(try rw [if_pos (by omega)]);try with_reducible rfl)) | (apply wpPlan_skip;rfl;rfl) | (apply wpPlan_pass;rfl;rfl;assumption));simp only [Act.put,List.setIfInBounds_toArray,List.set_cons_zero,List.set_cons_succ])
       replace HPd:=Lib.hid (HPd.out.later hb1)
       replace HBd:Hid (Below B w w1):=Lib.hid (HBd.out.trans (hb1.mono (Nat.le_trans hBw HBd.out.size)))
       replace HSd:=Lib.hid (HSd.out.below hb1)
       clear c1 r0 HS hb1
       obtain ⟨hP2,hth,hBg,⟨cur,hcur⟩,_⟩:=HPd.out.store mkM_len HA.out HVN.out hkl
       have HP2:=Lib.hid hP2
       have hst:BagS.Stays 90 w (w1.setCells g (k*5) (mkM n k)):=HSd.out.keep hcur (BagS.setCells_keep g _ _ _)
       have HST2:=Lib.hid hst
       have HB2:Hid (Below B w (w1.setCells g (k*5) (mkM n k))):=Lib.hid (BagS.below_cells hBg (mkM n k) (k*5) w1 HBd.out)
       have c2:=(HBG.out.stays hst (by decide)).cell HC.out
       have r2:=(own_get (hst.own HV0.out (by decide)) HVN.out).1
       refine wpPlan_run0 (w':=w1.setCells g (k*5) (mkM n k)) rfl rfl (exec_store_at rfl rfl rfl (mkM_store w1 g (k*5) n k hth)) _ (fun _ h=>h) ⟨c2,r2⟩ ?_
       simp only [Act.put,List.setIfInBounds_toArray,List.set_cons_zero,List.set_cons_succ]
       apply wpPlan_done
       clear HPd HBd HSd hP2 hth hcur hst c2 r2
       generalize w1.setCells g (k*5) (mkM n k)=w2 at *
       go_wp2_with fail
       go_roundw
       case rel=>exact ⟨k+1,by omega,by go_num,HP2,HB2,HST2⟩
       case measure=>simp [intOf];omega
     · have hkl2:k=L n:=by omega
       have HP2:=Lib.hid (BagS.Ph1.next (by have:=HP.out;rw [hkl2] at this;exact this))
       clear HP hkl2
       go_wp2_with fail
       go_roundw
       case rel=>exact ⟨n+1,by omega,by go_num,HP2,HB,HST⟩
       case measure=>simp [intOf];omega
  · obtain rfl:n=R.length:=by omega
    have HQ:=Lib.hid (BagS.Ph2.start (W:=w.heap.size) (se:=85) HP.out (HST.out.own HV0.out (by decide)))
    clear HP
    go_wp2_with fail
    clear c1
    go_loopw [5,6,7] (fun ov mv i wr=>∃ (n:Nat) (o m:Value) (Us Vs:List Value),o=ov∧m=mv∧n≤R.length∧i=.int .i64 n∧Hid (BagS.Ph2 90 85 5 B w.heap.size R L mkM (.slice A0 R.length cb) n o m Us Vs wr)∧Hid (Below B w wr)∧Hid (BagS.Stays 90 w wr)) (fun _ _ i _=>R.length - (intOf i).toNat)
    case atStart=>exact ⟨0,_,_,[],[],rfl,rfl,Nat.zero_le _,rfl,HQ,HB,HST⟩
    case round =>
     clear HQ HB HST
     obtain ⟨n,o,m,Us,Vs,rfl,rfl,hn,rfl,HQ,HB,HST⟩:=hrel
     have c1:=(HBG.out.stays HST.out (by decide)).cell HC.out
     by_cases hlt:n < R.length
     · obtain ⟨v,hv⟩:∃ v,R[n]? = some v:=⟨_,List.getElem?_eq_getElem hlt⟩
       have HVN:=Lib.hid hv
       obtain ⟨rb,rfl,hrb,_⟩:=HA0.out (by omega)
       obtain ⟨Av,cv,rfl⟩:=own_shape (HQ.out.row n v hv)
       have r0:=(own_get HQ.out.hbag hv).1
       have HI0:=Lib.hid (BagS.In.start HQ.out HA.out hv)
       have hLn:=HL.out n
       clear hv HQ
       go_wp2_with fail
       go_loopw [5,8,9] (fun ov lv i wr=>∃ (t p:Nat) (o l:Value) (Us:List Value),o=ov∧l=lv∧t≤70∧L n≤p∧p≤L n+70∧i=.int .i64 p∧Hid (p=L n+t)∧Hid (BagS.In 90 85 5 B w.heap.size R L mkM (.slice (some ⟨rb,0,none⟩) R.length cb) n t l o m Us Vs wr)∧Hid (Below B w wr)∧Hid (BagS.Stays 90 w wr)) (fun _ _ i _=>L n+70 - (intOf i).toNat)
       case atStart=>exact ⟨0,L n,_,_,Us,rfl,rfl,by omega,Nat.le_refl _,by omega,rfl,Lib.hid rfl,HI0,HB,HST⟩
       case round =>
        clear HI0 HB HST c1 r0
        obtain ⟨t,p,o,l,Us,rfl,rfl,ht,hp0,hp1,rfl,HPT,HI,HB,HST⟩:=hrel
        have c1:=(HBG.out.stays HST.out (by decide)).cell HC.out
        have r0:=(own_get HI.out.hbag HVN.out).1
        have hpt:=HPT.out
        by_cases hkl:t < 70
        · have hpl:p < L n+70:=by omega
          have own4:wr.ownsRow B 90 5 l p (BagS.marks mkM n p):=by rw [HPT.out];exact HI.out.own
          have hbb:=fun w=>mkM_build w (.string (txt n p)) rfl
          clear hpt
          go_wp2_with fail
          refine (btext_any n p (by omega) (by omega) _ (HPW.out _ HB.out)).mono ?_
          rintro e w1 ⟨rfl,hb1⟩
          replace HI:=Lib.hid (HI.out.later hb1)
          replace HB:Hid (Below B w w1):=Lib.hid (HB.out.trans (hb1.mono (Nat.le_trans hBw HB.out.size)))
          replace HST:=Lib.hid (HST.out.below hb1)
          replace own4:=own_later own4 hb1
          clear hb1
          clear c1 r0
          go_wp2_with (at_builtin;refine append_held rfl (.tmp 79) (.tmp 84) 85 90 rfl B _ 5 64 Tryz.underlying85 bimp_info rfl (by decide) _ _ _ rfl own4 [.string (txt n p),.string { data:=#[] },.string { data:=#[] },.int .i64 0,.int .i64 0] rfl w1.heap.size rfl rfl ?_ ?_ ?_ ?_ ?_)
          · intro y hy;simp only [List.mem_cons,List.not_mem_nil,or_false] at hy;rcases hy with rfl | rfl | rfl | rfl | rfl<;>rfl
          · omega
          · omega
          · have:=HB.out.size;omega
          intro v' w5 a1 a2 a3 a4 a5
          have HG:Hid (BagS.Grew B 90 5 w1 w5 l v' (L n+t) (BagS.marks mkM n (L n+t)) (mkM n (L n+t))):=Lib.hid (by rw [←HPT.out];exact ⟨a1,a2,a3,a4,a5⟩)
          have HB5:=Lib.hid (HB.out.trans a3)
          have HST5:=Lib.hid (HST.out.grown own4 a2)
          obtain ⟨A5,c5,rfl⟩:=own_shape a1
          have c1:=(HBG.out.stays HST5.out (by decide)).cell HC.out
          have r0:=(own_get (own_other HI.out.hbag a2 (own_apart_type own4 HI.out.hbag (by decide))) HVN.out).1
          have ownO:=own_other HI.out.hone a2 (own_apart_type own4 HI.out.hone (by decide))
          clear a1 a2 a3 a4 a5 own4 hbb
          by_cases ht0:t=0
          · have hpe:p=L n:=by have:=HPT.out;omega
            have e1:(((p:Nat):Int)==((L n:Nat):Int))=true:=int_eq' hpe
            have HUn:Hid (Us.length=n):=Lib.hid (by have:=HI.out.lu;rw [ht0] at this;exact this)
            have hUn:=HUn.out
            clear hpe
            go_wp2_with (at_builtin;refine append_held rfl (.tmp 96) (.tmp 98) 54 85 rfl w.heap.size _ 1 24 Tryz.underlying54 bimps_info rfl (by decide) _ _ _ rfl ownO [.slice A5 (p+1) c5] rfl w5.heap.size rfl rfl ?_ ?_ ?_ ?_ ?_)
            · intro y hy;simp only [List.mem_cons,List.not_mem_nil,or_false] at hy;subst hy;rfl
            · omega
            · omega
            · exact HB5.out.size
            intro o' w6 a1 a2 a3 a4 a5
            have HI6:Hid (BagS.In 90 85 5 B w.heap.size R L mkM (.slice (some ⟨rb,0,none⟩) R.length cb) n (t+1) (.slice A5 (p+1) c5) o' m (Us++[.slice A5 (p+1) c5]) Vs w6):=Lib.hid (by
             have hI:=HI.out
             have hG:=HG.out
             subst ht0
             exact BagS.In.first (by decide) mkM_len hI hG (one':=o') ⟨a1,a2,a3,a4,by simpa only [Nat.mul_one] using a5⟩ hBw)
            have HB6:=Lib.hid (HB5.out.trans (Below.mono a3 hBw))
            have HST6:=Lib.hid (HST5.out.grown_new ownO a2)
            clear a1 a2 a3 a4 a5 HI HG HB5 HB HST5 HST c1 r0 ownO
            go_wp2_with fail
            go_roundw
            case rel=>exact ⟨t+1,p+1,o',_,_,rfl,rfl,by omega,by omega,by omega,by go_num,Lib.hid (by rw [HPT.out];omega),HI6,HB6,HST6⟩
            case measure=>simp [intOf];omega
          · have e1:(((p:Nat):Int)==((L n:Nat):Int))=false:=beq_no (by have:=HPT.out;omega)
            have HI6:=Lib.hid (BagS.In.push (by decide) mkM_len HI.out (fun h=>absurd h ht0) HA.out HG.out (by omega))
            clear HI HG HB HST ownO
            go_wp2_with fail
            go_roundw
            case rel=>exact ⟨t+1,p+1,o,_,Us,rfl,rfl,by omega,by omega,by omega,by go_num,Lib.hid (by rw [HPT.out];omega),HI6,HB5,HST5⟩
            case measure=>simp [intOf];omega
        · have ht70:t=70:=by omega
          have hpe:p=L n+70:=by omega
          have HI70:Hid (BagS.In 90 85 5 B w.heap.size R L mkM (.slice (some ⟨rb,0,none⟩) R.length cb) n 70 l o m Us Vs wr):=Lib.hid (by have:=HI.out;rw [ht70] at this;exact this)
          have ownM:=HI.out.hmore
          have own7:=HI70.out.own
          rw [←hpe] at own7
          obtain ⟨A5,c5,rfl⟩:=own_shape own7
          have hnp:¬ p < L n+70:=by omega
          clear hpt hpe HI ht70 HPT own7
          go_wp2_with (at_builtin;refine append_held rfl (.tmp 100) (.tmp 102) 54 85 rfl w.heap.size _ 1 24 Tryz.underlying54 bimps_info rfl (by decide) _ _ _ rfl ownM [.slice A5 p c5] rfl wr.heap.size rfl rfl ?_ ?_ ?_ ?_ ?_)
          · intro y hy;simp only [List.mem_cons,List.not_mem_nil,or_false] at hy;subst hy;rfl
          · omega
          · omega
          · exact HB.out.size
          intro m' w6 a1 a2 a3 a4 a5
          have HQ6:=Lib.hid (BagS.In.done (by decide) HI70.out ⟨a1,a2,a3,a4,by simpa only [Nat.mul_one] using a5⟩)
          have HB6:=Lib.hid (HB.out.trans (Below.mono a3 hBw))
          have HST6:=Lib.hid (HST.out.grown_new ownM a2)
          clear a1 a2 a3 a4 a5 HI70 HB HST c1 r0 ownM
          go_wp2_with fail
          go_roundw
          case rel=>exact ⟨n+1,_,m',Us,_,rfl,rfl,by omega,by go_num,HQ6,HB6,HST6⟩
          case measure=>simp [intOf];omega
     · obtain rfl:n=R.length:=by omega
       obtain ⟨Am,cm,rfl⟩:=own_shape HQ.out.hmore
       obtain ⟨Ao,co,rfl⟩:=own_shape HQ.out.hone
       go_wp2_with fail
       clear c1
       go_loopw [10] (fun i wr=>∃ n:Nat,n≤R.length∧i=.int .i64 n∧Hid (BagS.Ph2 90 85 5 B w.heap.size R L mkM (.slice A0 R.length cb) R.length (.slice Ao R.length co) (.slice Am R.length cm) Us Vs wr)∧Hid (Below B w wr)∧Hid (BagS.Stays 90 w wr)) (fun i _=>R.length - (intOf i).toNat)
       case atStart=>exact ⟨0,Nat.zero_le _,rfl,HQ,HB,HST⟩
       case round =>
        clear HQ HB HST
        obtain ⟨n,hn,rfl,HQ,HB,HST⟩:=hrel
        by_cases hlt:n < R.length
        · have hv0:∃ v,R[n]? = some v:=⟨_,List.getElem?_eq_getElem hlt⟩
          obtain ⟨v,hv⟩:=hv0
          have hu0:∃ u,Us[n]? = some u:=⟨_,List.getElem?_eq_getElem (by rw [HQ.out.lu];exact hlt)⟩
          have hx0:∃ u,Vs[n]? = some u:=⟨_,List.getElem?_eq_getElem (by rw [HQ.out.lv];exact hlt)⟩
          obtain ⟨u,hu⟩:=hu0
          obtain ⟨x,hx⟩:=hx0
          have hLn:=HL.out n
          obtain ⟨rb,rfl,hrb,-⟩:=HA0.out (by omega)
          obtain ⟨_,_,e1,-⟩:=own_read HQ.out.hmore (by omega)
          obtain ⟨_,_,e2,-⟩:=own_read HQ.out.hone (by omega)
          simp only [Value.slice.injEq] at e1 e2
          obtain ⟨rfl,_,rfl⟩:=e1
          obtain ⟨rfl,_,rfl⟩:=e2
          obtain ⟨Av,cv,rfl⟩:=own_shape (HQ.out.row n v hv)
          obtain ⟨gu,cu,_,rfl,-⟩:=BagS.own_block (HQ.out.us n u hu).1 (by omega)
          obtain ⟨gx,cx,_,rfl,-⟩:=BagS.own_block (HQ.out.vs n x hx).1 (by omega)
          have HV:=Lib.hid hv
          have HU:=Lib.hid hu
          have HX:=Lib.hid hx
          have m0:=(own_get HQ.out.hmore hx).1
          clear hv hu hx
          go_wp2_with fail
          clear m0
          go_loopw [11] (fun i wr=>∃ k:Nat,k≤L n+70∧i=.int .i64 k∧Hid (BagS.Ph2 90 85 5 B w.heap.size R L mkM (.slice (some ⟨rb,0,none⟩) R.length cb) R.length (.slice _ R.length co) (.slice _ R.length cm) Us Vs wr)∧Hid (Below B w wr)∧Hid (BagS.Stays 90 w wr)) (fun i _=>L n+70 - (intOf i).toNat)
          case atStart=>exact ⟨0,Nat.zero_le _,rfl,HQ,HB,HST⟩
          case round =>
           clear HQ HB HST
           obtain ⟨k,hk,rfl,HQ,HB,HST⟩:=hrel
           have m0:=(own_get HQ.out.hmore HX.out).1
           by_cases hkl:k < L n+70
           · have hb0:Below wr.heap.size wr (wr.alloc (.cells #[.string (txt n k),.string { data:=#[] },.string { data:=#[] },.int .i64 0,.int .i64 0] 90)):=(Below.refl _ _).alloc (Nat.le_refl _) _
             have HBX:Hid ((wr.alloc (.cells #[.string (txt n k),.string { data:=#[] },.string { data:=#[] },.int .i64 0,.int .i64 0] 90)).heap[wr.heap.size]? = some (.cells #[.string (txt n k),.string { data:=#[] },.string { data:=#[] },.int .i64 0,.int .i64 0] 90 (0,0))):=Lib.hid (MapKept.heap_alloc wr _).1
             have HQ1:=Lib.hid (HQ.out.later hb0)
             have HB1:Hid (Below B w (wr.alloc (.cells #[.string (txt n k),.string { data:=#[] },.string { data:=#[] },.int .i64 0,.int .i64 0] 90))):=Lib.hid (HB.out.trans (hb0.mono (Nat.le_trans hBw HB.out.size)))
             have HST1:=Lib.hid (HST.out.below hb0)
             have y0:wr.cell? ⟨gx,k*5,none⟩=some (.string (txt n k)):=BagS.own_mark (mk:=mkM) mkM_len (HQ.out.vs n _ HX.out).1 hkl (i:=0) rfl
             have y1:wr.cell? ⟨gx,k*5+1,none⟩=some (.string { data:=#[] }):=BagS.own_mark (mk:=mkM) mkM_len (HQ.out.vs n _ HX.out).1 hkl (i:=1) rfl
             have y2:wr.cell? ⟨gx,k*5+2,none⟩=some (.string { data:=#[] }):=BagS.own_mark (mk:=mkM) mkM_len (HQ.out.vs n _ HX.out).1 hkl (i:=2) rfl
             have y3:wr.cell? ⟨gx,k*5+3,none⟩=some (.int .i64 0):=BagS.own_mark (mk:=mkM) mkM_len (HQ.out.vs n _ HX.out).1 hkl (i:=3) rfl
             have y4:wr.cell? ⟨gx,k*5+4,none⟩=some (.int .i64 0):=BagS.own_mark (mk:=mkM) mkM_len (HQ.out.vs n _ HX.out).1 hkl (i:=4) rfl
             have d1:=(HBG.out.stays HST1.out (by decide)).cell HC.out
             have q0:=(own_get HQ1.out.hbag HV.out).1
             have q1:=(own_get HQ1.out.hmore HX.out).1
             have q2:=(own_get HQ1.out.hone HU.out).1
             have e5:((k:Nat):Int) < ((L n:Nat):Int)+70:=by omega
             clear hb0
             by_cases hk1:k < L n
             · obtain ⟨gv,_,_,e3,-⟩:=BagS.own_block (HQ.out.row n _ HV.out) (by omega)
               simp only [Value.slice.injEq] at e3
               obtain ⟨rfl,_,rfl⟩:=e3
               have v0:(wr.alloc (.cells #[.string (txt n k),.string { data:=#[] },.string { data:=#[] },.int .i64 0,.int .i64 0] 90)).cell? ⟨gv,k*5,none⟩=some (.string (txt n k)):=BagS.own_mark (mk:=mkM) mkM_len (HQ1.out.row n _ HV.out) hk1 (i:=0) rfl
               have v1:(wr.alloc (.cells #[.string (txt n k),.string { data:=#[] },.string { data:=#[] },.int .i64 0,.int .i64 0] 90)).cell? ⟨gv,k*5+1,none⟩=some (.string { data:=#[] }):=BagS.own_mark (mk:=mkM) mkM_len (HQ1.out.row n _ HV.out) hk1 (i:=1) rfl
               have v2:(wr.alloc (.cells #[.string (txt n k),.string { data:=#[] },.string { data:=#[] },.int .i64 0,.int .i64 0] 90)).cell? ⟨gv,k*5+2,none⟩=some (.string { data:=#[] }):=BagS.own_mark (mk:=mkM) mkM_len (HQ1.out.row n _ HV.out) hk1 (i:=2) rfl
               have v3:(wr.alloc (.cells #[.string (txt n k),.string { data:=#[] },.string { data:=#[] },.int .i64 0,.int .i64 0] 90)).cell? ⟨gv,k*5+3,none⟩=some (.int .i64 0):=BagS.own_mark (mk:=mkM) mkM_len (HQ1.out.row n _ HV.out) hk1 (i:=3) rfl
               have v4:(wr.alloc (.cells #[.string (txt n k),.string { data:=#[] },.string { data:=#[] },.int .i64 0,.int .i64 0] 90)).cell? ⟨gv,k*5+4,none⟩=some (.int .i64 0):=BagS.own_mark (mk:=mkM) mkM_len (HQ1.out.row n _ HV.out) hk1 (i:=4) rfl
               have e6:((k:Nat):Int) < ((L n:Nat):Int):=by omega
               have e4:(((k:Nat):Int)==((L n:Nat):Int))=false:=beq_no (by omega)
               go_wp2_with fail
               have z0:(wr.alloc (.cells #[.string (txt n k),.string { data:=#[] },.string { data:=#[] },.int .i64 0,.int .i64 0] 90)).cell? ⟨wr.heap.size,0,none⟩=some (.string (txt n k)):=cell_in HBX.out (i:=0) rfl
               have z1:(wr.alloc (.cells #[.string (txt n k),.string { data:=#[] },.string { data:=#[] },.int .i64 0,.int .i64 0] 90)).cell? ⟨wr.heap.size,1,none⟩=some (.string { data:=#[] }):=cell_in HBX.out (i:=1) rfl
               have z2:(wr.alloc (.cells #[.string (txt n k),.string { data:=#[] },.string { data:=#[] },.int .i64 0,.int .i64 0] 90)).cell? ⟨wr.heap.size,2,none⟩=some (.string { data:=#[] }):=cell_in HBX.out (i:=2) rfl
               have z3:(wr.alloc (.cells #[.string (txt n k),.string { data:=#[] },.string { data:=#[] },.int .i64 0,.int .i64 0] 90)).cell? ⟨wr.heap.size,3,none⟩=some (.int .i64 0):=cell_in HBX.out (i:=3) rfl
               have z4:(wr.alloc (.cells #[.string (txt n k),.string { data:=#[] },.string { data:=#[] },.int .i64 0,.int .i64 0] 90)).cell? ⟨wr.heap.size,4,none⟩=some (.int .i64 0):=cell_in HBX.out (i:=4) rfl
               have HB1d:Hid (Below B w (wr.alloc (.cells #[.string (txt n k),.string { data:=#[] },.string { data:=#[] },.int .i64 0,.int .i64 0] 90)).drew):=Lib.hid HB1.out.drew
               refine wp_region_plan (S:=fun w'=>w'.cell? ⟨wr.heap.size,0,none⟩=some (.string (txt n k))∧w'.cell? ⟨wr.heap.size,1,none⟩=some (.string { data:=#[] })∧w'.cell? ⟨wr.heap.size,2,none⟩=some (.string { data:=#[] })∧w'.cell? ⟨wr.heap.size,3,none⟩=some (.int .i64 0)∧w'.cell? ⟨wr.heap.size,4,none⟩=some (.int .i64 0)) [(0,true),(1,true),(2,true),(3,false),(4,true),(5,true),(6,true)] (by kernel_rfl) (by kernel_rfl) (by kernel_rfl) (fun _ _ _ _ _ h=>h) ⟨z0,z1,z2,z3,z4⟩ ?_
               intro HS
               repeat ((first | (apply wpPlan_look;rfl;rfl;(intro wq hq;(try dsimp only at hq);go_split_ands;go_simp;(try rw [if_neg (by omega)]);(try rw [if_pos (by omega)]);try with_reducible rfl)) | (apply wpPlan_skip;rfl;rfl) | (apply wpPlan_pass;rfl;rfl;assumption));simp only [Act.put,List.setIfInBounds_toArray,List.set_cons_zero,List.set_cons_succ])
               apply wpPlan_call;rfl;rfl;rfl;rfl;kernel_rfl;exact btext_any n k (by omega) (by omega) _ (HPW.out _ HB1d.out);rfl;rintro e wa ⟨rfl,hba⟩
               refine ⟨_,rfl,as_S ⟨cell_later hba HS.1,cell_later hba HS.2.1,cell_later hba HS.2.2.1,cell_later hba HS.2.2.2.1,cell_later hba HS.2.2.2.2⟩ ?_⟩
               intro HS2
               simp only [Act.put,List.setIfInBounds_toArray,List.set_cons_zero,List.set_cons_succ]
               repeat ((first | (apply wpPlan_look;rfl;rfl;(intro wq hq;(try dsimp only at hq);go_split_ands;go_simp;(try rw [if_neg (by omega)]);(try rw [if_pos (by omega)]);try with_reducible rfl)) | (apply wpPlan_skip;rfl;rfl) | (apply wpPlan_pass;rfl;rfl;assumption));simp only [Act.put,List.setIfInBounds_toArray,List.set_cons_zero,List.set_cons_succ])
               apply wpPlan_done
               have hb2:Below wr.heap.size wr wa:=below_later hba (((Below.refl _ _).alloc (Nat.le_refl _) _).drew)
               have HBY:Hid (wa.heap[wr.heap.size]? = some (.cells #[.string (txt n k),.string { data:=#[] },.string { data:=#[] },.int .i64 0,.int .i64 0] 90 (0,0))):=Lib.hid ((hba.block _ (by show wr.heap.size < (wr.alloc _).heap.size;rw [World.size_alloc];omega)).trans (MapKept.heap_alloc wr _).1)
               have HB2d:Hid (Below B w wa.drew):=Lib.hid ((HB.out.trans (hb2.mono (Nat.le_trans hBw HB.out.size))).drew)
               have HB2L:=Lib.hid hb2
               have m1:=cell_later hb2 m0
               have s0:=cell_later hb2 y0
               have s1:=cell_later hb2 y1
               have s2:=cell_later hb2 y2
               have s3:=cell_later hb2 y3
               have s4:=cell_later hb2 y4
               clear HS HS2 hb2 hba m0 d1 q0 q1 q2 y0 z0 y1 z1 y2 z2 y3 z3 y4 z4 v0 v1 v2 v3 v4 e4 e6
               have z0:wa.cell? ⟨wr.heap.size,0,none⟩=some (.string (txt n k)):=cell_in HBY.out (i:=0) rfl
               have z1:wa.cell? ⟨wr.heap.size,1,none⟩=some (.string { data:=#[] }):=cell_in HBY.out (i:=1) rfl
               have z2:wa.cell? ⟨wr.heap.size,2,none⟩=some (.string { data:=#[] }):=cell_in HBY.out (i:=2) rfl
               have z3:wa.cell? ⟨wr.heap.size,3,none⟩=some (.int .i64 0):=cell_in HBY.out (i:=3) rfl
               have z4:wa.cell? ⟨wr.heap.size,4,none⟩=some (.int .i64 0):=cell_in HBY.out (i:=4) rfl
               have f0:wa.frozen? ⟨wr.heap.size,0,none⟩=false:=by simp [World.frozen?,HBY.out]
               have f1:wa.frozen? ⟨wr.heap.size,1,none⟩=false:=by simp [World.frozen?,HBY.out]
               have f2:wa.frozen? ⟨wr.heap.size,2,none⟩=false:=by simp [World.frozen?,HBY.out]
               have f3:wa.frozen? ⟨wr.heap.size,3,none⟩=false:=by simp [World.frozen?,HBY.out]
               have f4:wa.frozen? ⟨wr.heap.size,4,none⟩=false:=by simp [World.frozen?,HBY.out]
               have w0:wa.setCell ⟨wr.heap.size,0,none⟩ (.string (txt n k))=wa:=set_self HBY.out (i:=0) rfl
               have w1:wa.setCell ⟨wr.heap.size,1,none⟩ (.string { data:=#[] })=wa:=set_self HBY.out (i:=1) rfl
               have w2:wa.setCell ⟨wr.heap.size,2,none⟩ (.string { data:=#[] })=wa:=set_self HBY.out (i:=2) rfl
               have w3:wa.setCell ⟨wr.heap.size,3,none⟩ (.int .i64 0)=wa:=set_self HBY.out (i:=3) rfl
               have w4:wa.setCell ⟨wr.heap.size,4,none⟩ (.int .i64 0)=wa:=set_self HBY.out (i:=4) rfl
               go_wp2_with fail
               clear f0 w0 f1 w1 f2 w2 f3 w3 f4 w4
               refine wp_region_plan (S:=fun w'=>w'.cell? ⟨wr.heap.size,0,none⟩=some (.string (txt n k))∧w'.cell? ⟨wr.heap.size,1,none⟩=some (.string { data:=#[] })∧w'.cell? ⟨wr.heap.size,2,none⟩=some (.string { data:=#[] })∧w'.cell? ⟨wr.heap.size,3,none⟩=some (.int .i64 0)∧w'.cell? ⟨wr.heap.size,4,none⟩=some (.int .i64 0)) [(0,true),(1,true),(2,true),(3,true),(4,true),(5,true),(6,false),(7,true),(8,true),(9,true),(10,true)] (by kernel_rfl) (by kernel_rfl) (by kernel_rfl) (fun _ _ _ _ _ h=>h) ⟨z0,z1,z2,z3,z4⟩ ?_
               intro HS
               repeat ((first | (apply wpPlan_look;rfl;rfl;(intro wq hq;(try dsimp only at hq);go_split_ands;go_simp;(try rw [if_neg (by omega)]);(try rw [if_pos (by omega)]);try with_reducible rfl)) | (apply wpPlan_skip;rfl;rfl) | (apply wpPlan_pass;rfl;rfl;assumption));simp only [Act.put,List.setIfInBounds_toArray,List.set_cons_zero,List.set_cons_succ])
               apply wpPlan_call;rfl;rfl;rfl;rfl;kernel_rfl;exact btext_any n k (by omega) (by omega) _ (HPW.out _ HB2d.out);rfl;rintro e wb ⟨rfl,hbb⟩
               refine ⟨_,rfl,as_S ⟨cell_later hbb HS.1,cell_later hbb HS.2.1,cell_later hbb HS.2.2.1,cell_later hbb HS.2.2.2.1,cell_later hbb HS.2.2.2.2⟩ ?_⟩
               intro HS2
               simp only [Act.put,List.setIfInBounds_toArray,List.set_cons_zero,List.set_cons_succ]
               repeat ((first | (apply wpPlan_look;rfl;rfl;(intro wq hq;(try dsimp only at hq);go_split_ands;go_simp;(try rw [if_neg (by omega)]);(try rw [if_pos (by omega)]);try with_reducible rfl)) | (apply wpPlan_skip;rfl;rfl) | (apply wpPlan_pass;rfl;rfl;assumption));simp only [Act.put,List.setIfInBounds_toArray,List.set_cons_zero,List.set_cons_succ])
               apply wpPlan_done
               have hb3:Below wr.heap.size wr wb:=below_later hbb HB2L.out.drew
               have HQ2:=Lib.hid (HQ.out.later hb3)
               have HB2:Hid (Below B w wb):=Lib.hid (HB.out.trans (hb3.mono (Nat.le_trans hBw HB.out.size)))
               have HST2:=Lib.hid (HST.out.below hb3)
               clear HS HS2 hb3 hbb m1 HQ HB HST HQ1 HB1 HST1 HBX HBY HB1d HB2d HB2L s0 z0 s1 z1 s2 z2 s3 z3 s4 z4
               go_wp2_with fail
               go_roundw
               case rel=>exact ⟨k+1,by omega,by go_num,HQ2,HB2,HST2⟩
               case measure=>simp [intOf];omega
             · by_cases hk2:k=L n
               · have e4:(((k:Nat):Int)==((L n:Nat):Int))=true:=int_eq' hk2
                 have u0:(wr.alloc (.cells #[.string (txt n k),.string { data:=#[] },.string { data:=#[] },.int .i64 0,.int .i64 0] 90)).cell? ⟨gu,k*5,none⟩=some (.string (txt n k)):=BagS.own_mark (mk:=mkM) mkM_len (HQ1.out.us n _ HU.out).1 (by omega) (i:=0) rfl
                 have u1:(wr.alloc (.cells #[.string (txt n k),.string { data:=#[] },.string { data:=#[] },.int .i64 0,.int .i64 0] 90)).cell? ⟨gu,k*5+1,none⟩=some (.string { data:=#[] }):=BagS.own_mark (mk:=mkM) mkM_len (HQ1.out.us n _ HU.out).1 (by omega) (i:=1) rfl
                 have u2:(wr.alloc (.cells #[.string (txt n k),.string { data:=#[] },.string { data:=#[] },.int .i64 0,.int .i64 0] 90)).cell? ⟨gu,k*5+2,none⟩=some (.string { data:=#[] }):=BagS.own_mark (mk:=mkM) mkM_len (HQ1.out.us n _ HU.out).1 (by omega) (i:=2) rfl
                 have u3:(wr.alloc (.cells #[.string (txt n k),.string { data:=#[] },.string { data:=#[] },.int .i64 0,.int .i64 0] 90)).cell? ⟨gu,k*5+3,none⟩=some (.int .i64 0):=BagS.own_mark (mk:=mkM) mkM_len (HQ1.out.us n _ HU.out).1 (by omega) (i:=3) rfl
                 have u4:(wr.alloc (.cells #[.string (txt n k),.string { data:=#[] },.string { data:=#[] },.int .i64 0,.int .i64 0] 90)).cell? ⟨gu,k*5+4,none⟩=some (.int .i64 0):=BagS.own_mark (mk:=mkM) mkM_len (HQ1.out.us n _ HU.out).1 (by omega) (i:=4) rfl
                 have hk3:k < L n+1:=by omega
                 have e6:¬ ((k:Nat):Int) < ((L n:Nat):Int):=by omega
                 clear hk2
                 go_wp2_with fail
                 have z0:(wr.alloc (.cells #[.string (txt n k),.string { data:=#[] },.string { data:=#[] },.int .i64 0,.int .i64 0] 90)).cell? ⟨wr.heap.size,0,none⟩=some (.string (txt n k)):=cell_in HBX.out (i:=0) rfl
                 have z1:(wr.alloc (.cells #[.string (txt n k),.string { data:=#[] },.string { data:=#[] },.int .i64 0,.int .i64 0] 90)).cell? ⟨wr.heap.size,1,none⟩=some (.string { data:=#[] }):=cell_in HBX.out (i:=1) rfl
                 have z2:(wr.alloc (.cells #[.string (txt n k),.string { data:=#[] },.string { data:=#[] },.int .i64 0,.int .i64 0] 90)).cell? ⟨wr.heap.size,2,none⟩=some (.string { data:=#[] }):=cell_in HBX.out (i:=2) rfl
                 have z3:(wr.alloc (.cells #[.string (txt n k),.string { data:=#[] },.string { data:=#[] },.int .i64 0,.int .i64 0] 90)).cell? ⟨wr.heap.size,3,none⟩=some (.int .i64 0):=cell_in HBX.out (i:=3) rfl
                 have z4:(wr.alloc (.cells #[.string (txt n k),.string { data:=#[] },.string { data:=#[] },.int .i64 0,.int .i64 0] 90)).cell? ⟨wr.heap.size,4,none⟩=some (.int .i64 0):=cell_in HBX.out (i:=4) rfl
                 have HB1d:Hid (Below B w (wr.alloc (.cells #[.string (txt n k),.string { data:=#[] },.string { data:=#[] },.int .i64 0,.int .i64 0] 90)).drew):=Lib.hid HB1.out.drew
                 refine wp_region_plan (S:=fun w'=>w'.cell? ⟨wr.heap.size,0,none⟩=some (.string (txt n k))∧w'.cell? ⟨wr.heap.size,1,none⟩=some (.string { data:=#[] })∧w'.cell? ⟨wr.heap.size,2,none⟩=some (.string { data:=#[] })∧w'.cell? ⟨wr.heap.size,3,none⟩=some (.int .i64 0)∧w'.cell? ⟨wr.heap.size,4,none⟩=some (.int .i64 0)) [(0,true),(1,true),(2,true),(3,false),(4,true),(5,true),(6,true)] (by kernel_rfl) (by kernel_rfl) (by kernel_rfl) (fun _ _ _ _ _ h=>h) ⟨z0,z1,z2,z3,z4⟩ ?_
                 intro HS
                 repeat ((first | (apply wpPlan_look;rfl;rfl;(intro wq hq;(try dsimp only at hq);go_split_ands;go_simp;(try rw [if_neg (by omega)]);(try rw [if_pos (by omega)]);try with_reducible rfl)) | (apply wpPlan_skip;rfl;rfl) | (apply wpPlan_pass;rfl;rfl;assumption));simp only [Act.put,List.setIfInBounds_toArray,List.set_cons_zero,List.set_cons_succ])
                 apply wpPlan_call;rfl;rfl;rfl;rfl;kernel_rfl;exact btext_any n k (by omega) (by omega) _ (HPW.out _ HB1d.out);rfl;rintro e wa ⟨rfl,hba⟩
                 refine ⟨_,rfl,as_S ⟨cell_later hba HS.1,cell_later hba HS.2.1,cell_later hba HS.2.2.1,cell_later hba HS.2.2.2.1,cell_later hba HS.2.2.2.2⟩ ?_⟩
                 intro HS2
                 simp only [Act.put,List.setIfInBounds_toArray,List.set_cons_zero,List.set_cons_succ]
                 repeat ((first | (apply wpPlan_look;rfl;rfl;(intro wq hq;(try dsimp only at hq);go_split_ands;go_simp;(try rw [if_neg (by omega)]);(try rw [if_pos (by omega)]);try with_reducible rfl)) | (apply wpPlan_skip;rfl;rfl) | (apply wpPlan_pass;rfl;rfl;assumption));simp only [Act.put,List.setIfInBounds_toArray,List.set_cons_zero,List.set_cons_succ])
                 apply wpPlan_done
                 have hb2:Below wr.heap.size wr wa:=below_later hba (((Below.refl _ _).alloc (Nat.le_refl _) _).drew)
                 have HBY:Hid (wa.heap[wr.heap.size]? = some (.cells #[.string (txt n k),.string { data:=#[] },.string { data:=#[] },.int .i64 0,.int .i64 0] 90 (0,0))):=Lib.hid ((hba.block _ (by show wr.heap.size < (wr.alloc _).heap.size;rw [World.size_alloc];omega)).trans (MapKept.heap_alloc wr _).1)
                 have HB2d:Hid (Below B w wa.drew):=Lib.hid ((HB.out.trans (hb2.mono (Nat.le_trans hBw HB.out.size))).drew)
                 have HB2L:=Lib.hid hb2
                 have m1:=cell_later hb2 m0
                 have s0:=cell_later hb2 y0
                 have s1:=cell_later hb2 y1
                 have s2:=cell_later hb2 y2
                 have s3:=cell_later hb2 y3
                 have s4:=cell_later hb2 y4
                 clear HS HS2 hb2 hba m0 d1 q0 q1 q2 y0 z0 y1 z1 y2 z2 y3 z3 y4 z4 u0 u1 u2 u3 u4 e4 e6 hk3
                 have z0:wa.cell? ⟨wr.heap.size,0,none⟩=some (.string (txt n k)):=cell_in HBY.out (i:=0) rfl
                 have z1:wa.cell? ⟨wr.heap.size,1,none⟩=some (.string { data:=#[] }):=cell_in HBY.out (i:=1) rfl
                 have z2:wa.cell? ⟨wr.heap.size,2,none⟩=some (.string { data:=#[] }):=cell_in HBY.out (i:=2) rfl
                 have z3:wa.cell? ⟨wr.heap.size,3,none⟩=some (.int .i64 0):=cell_in HBY.out (i:=3) rfl
                 have z4:wa.cell? ⟨wr.heap.size,4,none⟩=some (.int .i64 0):=cell_in HBY.out (i:=4) rfl
                 have f0:wa.frozen? ⟨wr.heap.size,0,none⟩=false:=by simp [World.frozen?,HBY.out]
                 have f1:wa.frozen? ⟨wr.heap.size,1,none⟩=false:=by simp [World.frozen?,HBY.out]
                 have f2:wa.frozen? ⟨wr.heap.size,2,none⟩=false:=by simp [World.frozen?,HBY.out]
                 have f3:wa.frozen? ⟨wr.heap.size,3,none⟩=false:=by simp [World.frozen?,HBY.out]
                 have f4:wa.frozen? ⟨wr.heap.size,4,none⟩=false:=by simp [World.frozen?,HBY.out]
                 have w0:wa.setCell ⟨wr.heap.size,0,none⟩ (.string (txt n k))=wa:=set_self HBY.out (i:=0) rfl
                 have w1:wa.setCell ⟨wr.heap.size,1,none⟩ (.string { data:=#[] })=wa:=set_self HBY.out (i:=1) rfl
                 have w2:wa.setCell ⟨wr.heap.size,2,none⟩ (.string { data:=#[] })=wa:=set_self HBY.out (i:=2) rfl
                 have w3:wa.setCell ⟨wr.heap.size,3,none⟩ (.int .i64 0)=wa:=set_self HBY.out (i:=3) rfl
                 have w4:wa.setCell ⟨wr.heap.size,4,none⟩ (.int .i64 0)=wa:=set_self HBY.out (i:=4) rfl
                 go_wp2_with fail
                 clear f0 w0 f1 w1 f2 w2 f3 w3 f4 w4
                 refine wp_region_plan (S:=fun w'=>w'.cell? ⟨wr.heap.size,0,none⟩=some (.string (txt n k))∧w'.cell? ⟨wr.heap.size,1,none⟩=some (.string { data:=#[] })∧w'.cell? ⟨wr.heap.size,2,none⟩=some (.string { data:=#[] })∧w'.cell? ⟨wr.heap.size,3,none⟩=some (.int .i64 0)∧w'.cell? ⟨wr.heap.size,4,none⟩=some (.int .i64 0)) [(0,true),(1,true),(2,true),(3,true),(4,true),(5,true),(6,false),(7,true),(8,true),(9,true),(10,true)] (by kernel_rfl) (by kernel_rfl) (by kernel_rfl) (fun _ _ _ _ _ h=>h) ⟨z0,z1,z2,z3,z4⟩ ?_
                 intro HS
                 repeat ((first | (apply wpPlan_look;rfl;rfl;(intro wq hq;(try dsimp only at hq);go_split_ands;go_simp;(try rw [if_neg (by omega)]);(try rw [if_pos (by omega)]);try with_reducible rfl)) | (apply wpPlan_skip;rfl;rfl) | (apply wpPlan_pass;rfl;rfl;assumption));simp only [Act.put,List.setIfInBounds_toArray,List.set_cons_zero,List.set_cons_succ])
                 apply wpPlan_call;rfl;rfl;rfl;rfl;kernel_rfl;exact btext_any n k (by omega) (by omega) _ (HPW.out _ HB2d.out);rfl;rintro e wb ⟨rfl,hbb⟩
                 refine ⟨_,rfl,as_S ⟨cell_later hbb HS.1,cell_later hbb HS.2.1,cell_later hbb HS.2.2.1,cell_later hbb HS.2.2.2.1,cell_later hbb HS.2.2.2.2⟩ ?_⟩
                 intro HS2
                 simp only [Act.put,List.setIfInBounds_toArray,List.set_cons_zero,List.set_cons_succ]
                 repeat ((first | (apply wpPlan_look;rfl;rfl;(intro wq hq;(try dsimp only at hq);go_split_ands;go_simp;(try rw [if_neg (by omega)]);(try rw [if_pos (by omega)]);try with_reducible rfl)) | (apply wpPlan_skip;rfl;rfl) | (apply wpPlan_pass;rfl;rfl;assumption));simp only [Act.put,List.setIfInBounds_toArray,List.set_cons_zero,List.set_cons_succ])
                 apply wpPlan_done
                 have hb3:Below wr.heap.size wr wb:=below_later hbb HB2L.out.drew
                 have HQ2:=Lib.hid (HQ.out.later hb3)
                 have HB2:Hid (Below B w wb):=Lib.hid (HB.out.trans (hb3.mono (Nat.le_trans hBw HB.out.size)))
                 have HST2:=Lib.hid (HST.out.below hb3)
                 clear HS HS2 hb3 hbb m1 HQ HB HST HQ1 HB1 HST1 HBX HBY HB1d HB2d HB2L s0 z0 s1 z1 s2 z2 s3 z3 s4 z4
                 go_wp2_with fail
                 go_roundw
                 case rel=>exact ⟨k+1,by omega,by go_num,HQ2,HB2,HST2⟩
                 case measure=>simp [intOf];omega
               · have e4:(((k:Nat):Int)==((L n:Nat):Int))=false:=beq_no (by omega)
                 have e6:¬ ((k:Nat):Int) < ((L n:Nat):Int):=by omega
                 clear hk2
                 go_wp2_with fail
                 have z0:(wr.alloc (.cells #[.string (txt n k),.string { data:=#[] },.string { data:=#[] },.int .i64 0,.int .i64 0] 90)).cell? ⟨wr.heap.size,0,none⟩=some (.string (txt n k)):=cell_in HBX.out (i:=0) rfl
                 have z1:(wr.alloc (.cells #[.string (txt n k),.string { data:=#[] },.string { data:=#[] },.int .i64 0,.int .i64 0] 90)).cell? ⟨wr.heap.size,1,none⟩=some (.string { data:=#[] }):=cell_in HBX.out (i:=1) rfl
                 have z2:(wr.alloc (.cells #[.string (txt n k),.string { data:=#[] },.string { data:=#[] },.int .i64 0,.int .i64 0] 90)).cell? ⟨wr.heap.size,2,none⟩=some (.string { data:=#[] }):=cell_in HBX.out (i:=2) rfl
                 have z3:(wr.alloc (.cells #[.string (txt n k),.string { data:=#[] },.string { data:=#[] },.int .i64 0,.int .i64 0] 90)).cell? ⟨wr.heap.size,3,none⟩=some (.int .i64 0):=cell_in HBX.out (i:=3) rfl
                 have z4:(wr.alloc (.cells #[.string (txt n k),.string { data:=#[] },.string { data:=#[] },.int .i64 0,.int .i64 0] 90)).cell? ⟨wr.heap.size,4,none⟩=some (.int .i64 0):=cell_in HBX.out (i:=4) rfl
                 have HB1d:Hid (Below B w (wr.alloc (.cells #[.string (txt n k),.string { data:=#[] },.string { data:=#[] },.int .i64 0,.int .i64 0] 90)).drew):=Lib.hid HB1.out.drew
                 refine wp_region_plan (S:=fun w'=>w'.cell? ⟨wr.heap.size,0,none⟩=some (.string (txt n k))∧w'.cell? ⟨wr.heap.size,1,none⟩=some (.string { data:=#[] })∧w'.cell? ⟨wr.heap.size,2,none⟩=some (.string { data:=#[] })∧w'.cell? ⟨wr.heap.size,3,none⟩=some (.int .i64 0)∧w'.cell? ⟨wr.heap.size,4,none⟩=some (.int .i64 0)) [(0,true),(1,true),(2,true),(3,false),(4,true),(5,true),(6,true)] (by kernel_rfl) (by kernel_rfl) (by kernel_rfl) (fun _ _ _ _ _ h=>h) ⟨z0,z1,z2,z3,z4⟩ ?_
                 intro HS
                 repeat ((first | (apply wpPlan_look;rfl;rfl;(intro wq hq;(try dsimp only at hq);go_split_ands;go_simp;(try rw [if_neg (by omega)]);(try rw [if_pos (by omega)]);try with_reducible rfl)) | (apply wpPlan_skip;rfl;rfl) | (apply wpPlan_pass;rfl;rfl;assumption));simp only [Act.put,List.setIfInBounds_toArray,List.set_cons_zero,List.set_cons_succ])
                 apply wpPlan_call;rfl;rfl;rfl;rfl;kernel_rfl;exact btext_any n k (by omega) (by omega) _ (HPW.out _ HB1d.out);rfl;rintro e wa ⟨rfl,hba⟩
                 refine ⟨_,rfl,as_S ⟨cell_later hba HS.1,cell_later hba HS.2.1,cell_later hba HS.2.2.1,cell_later hba HS.2.2.2.1,cell_later hba HS.2.2.2.2⟩ ?_⟩
                 intro HS2
                 simp only [Act.put,List.setIfInBounds_toArray,List.set_cons_zero,List.set_cons_succ]
                 repeat ((first | (apply wpPlan_look;rfl;rfl;(intro wq hq;(try dsimp only at hq);go_split_ands;go_simp;(try rw [if_neg (by omega)]);(try rw [if_pos (by omega)]);try with_reducible rfl)) | (apply wpPlan_skip;rfl;rfl) | (apply wpPlan_pass;rfl;rfl;assumption));simp only [Act.put,List.setIfInBounds_toArray,List.set_cons_zero,List.set_cons_succ])
                 apply wpPlan_done
                 have hb2:Below wr.heap.size wr wa:=below_later hba (((Below.refl _ _).alloc (Nat.le_refl _) _).drew)
                 have HBY:Hid (wa.heap[wr.heap.size]? = some (.cells #[.string (txt n k),.string { data:=#[] },.string { data:=#[] },.int .i64 0,.int .i64 0] 90 (0,0))):=Lib.hid ((hba.block _ (by show wr.heap.size < (wr.alloc _).heap.size;rw [World.size_alloc];omega)).trans (MapKept.heap_alloc wr _).1)
                 have HB2d:Hid (Below B w wa.drew):=Lib.hid ((HB.out.trans (hb2.mono (Nat.le_trans hBw HB.out.size))).drew)
                 have HB2L:=Lib.hid hb2
                 have m1:=cell_later hb2 m0
                 have s0:=cell_later hb2 y0
                 have s1:=cell_later hb2 y1
                 have s2:=cell_later hb2 y2
                 have s3:=cell_later hb2 y3
                 have s4:=cell_later hb2 y4
                 clear HS HS2 hb2 hba m0 d1 q0 q1 q2 y0 z0 y1 z1 y2 z2 y3 z3 y4 z4 e4 e6
                 have z0:wa.cell? ⟨wr.heap.size,0,none⟩=some (.string (txt n k)):=cell_in HBY.out (i:=0) rfl
                 have z1:wa.cell? ⟨wr.heap.size,1,none⟩=some (.string { data:=#[] }):=cell_in HBY.out (i:=1) rfl
                 have z2:wa.cell? ⟨wr.heap.size,2,none⟩=some (.string { data:=#[] }):=cell_in HBY.out (i:=2) rfl
                 have z3:wa.cell? ⟨wr.heap.size,3,none⟩=some (.int .i64 0):=cell_in HBY.out (i:=3) rfl
                 have z4:wa.cell? ⟨wr.heap.size,4,none⟩=some (.int .i64 0):=cell_in HBY.out (i:=4) rfl
                 have f0:wa.frozen? ⟨wr.heap.size,0,none⟩=false:=by simp [World.frozen?,HBY.out]
                 have f1:wa.frozen? ⟨wr.heap.size,1,none⟩=false:=by simp [World.frozen?,HBY.out]
                 have f2:wa.frozen? ⟨wr.heap.size,2,none⟩=false:=by simp [World.frozen?,HBY.out]
                 have f3:wa.frozen? ⟨wr.heap.size,3,none⟩=false:=by simp [World.frozen?,HBY.out]
                 have f4:wa.frozen? ⟨wr.heap.size,4,none⟩=false:=by simp [World.frozen?,HBY.out]
                 have w0:wa.setCell ⟨wr.heap.size,0,none⟩ (.string (txt n k))=wa:=set_self HBY.out (i:=0) rfl
                 have w1:wa.setCell ⟨wr.heap.size,1,none⟩ (.string { data:=#[] })=wa:=set_self HBY.out (i:=1) rfl
                 have w2:wa.setCell ⟨wr.heap.size,2,none⟩ (.string { data:=#[] })=wa:=set_self HBY.out (i:=2) rfl
                 have w3:wa.setCell ⟨wr.heap.size,3,none⟩ (.int .i64 0)=wa:=set_self HBY.out (i:=3) rfl
                 have w4:wa.setCell ⟨wr.heap.size,4,none⟩ (.int .i64 0)=wa:=set_self HBY.out (i:=4) rfl
                 go_wp2_with fail
                 clear f0 w0 f1 w1 f2 w2 f3 w3 f4 w4
                 refine wp_region_plan (S:=fun w'=>w'.cell? ⟨wr.heap.size,0,none⟩=some (.string (txt n k))∧w'.cell? ⟨wr.heap.size,1,none⟩=some (.string { data:=#[] })∧w'.cell? ⟨wr.heap.size,2,none⟩=some (.string { data:=#[] })∧w'.cell? ⟨wr.heap.size,3,none⟩=some (.int .i64 0)∧w'.cell? ⟨wr.heap.size,4,none⟩=some (.int .i64 0)) [(0,true),(1,true),(2,true),(3,true),(4,true),(5,true),(6,false),(7,true),(8,true),(9,true),(10,true)] (by kernel_rfl) (by kernel_rfl) (by kernel_rfl) (fun _ _ _ _ _ h=>h) ⟨z0,z1,z2,z3,z4⟩ ?_
                 intro HS
                 repeat ((first | (apply wpPlan_look;rfl;rfl;(intro wq hq;(try dsimp only at hq);go_split_ands;go_simp;(try rw [if_neg (by omega)]);(try rw [if_pos (by omega)]);try with_reducible rfl)) | (apply wpPlan_skip;rfl;rfl) | (apply wpPlan_pass;rfl;rfl;assumption));simp only [Act.put,List.setIfInBounds_toArray,List.set_cons_zero,List.set_cons_succ])
                 apply wpPlan_call;rfl;rfl;rfl;rfl;kernel_rfl;exact btext_any n k (by omega) (by omega) _ (HPW.out _ HB2d.out);rfl;rintro e wb ⟨rfl,hbb⟩
                 refine ⟨_,rfl,as_S ⟨cell_later hbb HS.1,cell_later hbb HS.2.1,cell_later hbb HS.2.2.1,cell_later hbb HS.2.2.2.1,cell_later hbb HS.2.2.2.2⟩ ?_⟩
                 intro HS2
                 simp only [Act.put,List.setIfInBounds_toArray,List.set_cons_zero,List.set_cons_succ]
                 repeat ((first | (apply wpPlan_look;rfl;rfl;(intro wq hq;(try dsimp only at hq);go_split_ands;go_simp;(try rw [if_neg (by omega)]);(try rw [if_pos (by omega)]);try with_reducible rfl)) | (apply wpPlan_skip;rfl;rfl) | (apply wpPlan_pass;rfl;rfl;assumption));simp only [Act.put,List.setIfInBounds_toArray,List.set_cons_zero,List.set_cons_succ])
                 apply wpPlan_done
                 have hb3:Below wr.heap.size wr wb:=below_later hbb HB2L.out.drew
                 have HQ2:=Lib.hid (HQ.out.later hb3)
                 have HB2:Hid (Below B w wb):=Lib.hid (HB.out.trans (hb3.mono (Nat.le_trans hBw HB.out.size)))
                 have HST2:=Lib.hid (HST.out.below hb3)
                 clear HS HS2 hb3 hbb m1 HQ HB HST HQ1 HB1 HST1 HBX HBY HB1d HB2d HB2L s0 z0 s1 z1 s2 z2 s3 z3 s4 z4
                 go_wp2_with fail
                 go_roundw
                 case rel=>exact ⟨k+1,by omega,by go_num,HQ2,HB2,HST2⟩
                 case measure=>simp [intOf];omega
           · go_wp2_with fail
             go_roundw
             case rel=>exact ⟨n+1,by omega,by go_num,HQ,HB,HST⟩
             case measure=>simp [intOf];omega
        · go_wp2_with fail
          go_ret
          exact ⟨rfl,HB.out,HST.out⟩
end Go.Proofs.YtidholghbjljaaaGreatDoor
namespace Go.Proofs.YtidholghbjljaaaGreatDoor
open Go.RowKit Go.Maps Culp
def mkD (n k:Nat):List Value:=[.string (txt n k),.bool false,.string { data:=#[] },.slice none 0 0,.int .i64 0,.int .i64 0]
theorem mkD_len (n k:Nat):(mkD n k).length=6:=rfl
theorem bdef_info:(Tryz.prog.info? 84).map (fun i=>(i.zero,i.size,i.bytes))=some (some (.agg #[.string { data:=#[] },.bool false,.string { data:=#[] },.slice none 0 0,.int .i64 0,.int .i64 0]),6,80):=by kernel_rfl
theorem bdefs_info:(Tryz.prog.info? 86).map (fun i=>(i.zero,i.size,i.bytes))=some (some (.slice none 0 0),1,24):=by kernel_rfl
theorem mkD_build (w:World) (x:Value) (hx:x.oneCell'=true):(Instr.buildSlice 86 1 #[(0,.agg #[x,.bool false,.string { data:=#[] },.slice none 0 0,.int .i64 0,.int .i64 0])]).run Tryz.prog w=.ok (.slice (some ⟨w.heap.size,0,none⟩) 1 1) (w.alloc (.cells #[x,.bool false,.string { data:=#[] },.slice none 0 0,.int .i64 0,.int .i64 0] 84)):=by
 simp [go_sem,Instr.buildSlice,run_underlying Tryz.underlying86]
theorem mkD_store (w:World) (g o:Nat) (n k:Nat) (h:w.there g o 6):(Instr.storeAt 84 (.pointer (some ⟨g,o,none⟩)) (.agg #[.string (txt n k),.bool false,.string { data:=#[] },.slice none 0 0,.int .i64 0,.int .i64 0])).run Tryz.prog w=.ok () (w.setCells g o (mkD n k)):=by
 have:=run_storeAt_mid (P:=Tryz.prog) w g o 84 #[.string (txt n k),.bool false,.string { data:=#[] },.slice none 0 0,.int .i64 0,.int .i64 0] h (by kernel_rfl) (by simp [Value.oneCell'])
 exact this
theorem apartDefs_any (gb B:Nat) (R:List Value) (L:Nat→Nat) (bv:Value) (w:World) (cs:Array Value) (hBI:BagOf gb cs w) (hc4:cs[13]? = some bv) (hBw:B≤w.heap.size) (hbv:w.ownsRow B 86 1 bv R.length R)
 (hG:∀ n v,R[n]? = some v→∃ xs,w.ownsRow B 84 6 v (L n) xs) (hA:∀ (i j:Nat) (u v:Value),i ≠ j→R[i]? = some u→R[j]? = some v→Culp.Apart u v) (hM:R.length≤300) (hL:∀ n,L n≤1000000) (hP:Pw w) (hpB:1 < B) :
 Calls Tryz.prog 57 #[.pointer (some ⟨gb,0,none⟩)] w (fun e w'=>e=.returned (.bool true)∧Below B w w'∧BagS.Stays 84 w w'):=by
 have HL:=Lib.hid hL
 have HPW:=Lib.hid (fun wx (hb:Below B w wx)=>hP.later hb hpB)
 have HA:=Lib.hid hA
 have HC:=Lib.hid hc4
 have HBG:=Lib.hid hBI
 have HP0:=Lib.hid (BagS.Ph1.start (mk:=mkD) (sz:=6) hG)
 have HV0:=Lib.hid hbv
 have HS0:=Lib.hid (BagS.Stays.refl 84 w)
 obtain ⟨A0,cb,rfl,_,hA0⟩:=own_form hbv
 have HA0:=Lib.hid hA0
 clear hG hA hL hbv hA0 hBI hc4 hP hpB
 go_enter Tryz.func57,Tryz.ntmps57
 go_wp2_with fail
 go_loopw [3] (fun i wr=>∃ n:Nat,n≤R.length∧i=.int .i64 n∧Hid (BagS.Ph1 84 6 B R L mkD n 0 wr)∧Hid (Below B w wr)∧Hid (BagS.Stays 84 w wr)) (fun i _=>R.length - (intOf i).toNat)
 case atStart=>exact ⟨0,Nat.zero_le _,rfl,HP0,Lib.hid (Below.refl _ _),HS0⟩
 case round =>
  clear HP0
  obtain ⟨n,hn,rfl,HP,HB,HST⟩:=hrel
  have c1:=(HBG.out.stays HST.out (by decide)).cell HC.out
  by_cases hlt:n < R.length
  · obtain ⟨v,hv⟩:∃ v,R[n]? = some v:=⟨_,List.getElem?_eq_getElem hlt⟩
    have HVN:=Lib.hid hv
    obtain ⟨rb,rfl,hrb,_⟩:=HA0.out (by omega)
    obtain ⟨Av,cv,rfl⟩:=HP.out.form hv
    have r0:=(own_get (HST.out.own HV0.out (by decide)) hv).1
    clear hv
    go_wp2_with fail
    go_loopw [4] (fun i wr=>∃ k:Nat,k≤L n∧i=.int .i64 k∧Hid (BagS.Ph1 84 6 B R L mkD n k wr)∧Hid (Below B w wr)∧Hid (BagS.Stays 84 w wr)) (fun i _=>L n - (intOf i).toNat)
    case atStart=>exact ⟨0,Nat.zero_le _,rfl,HP,HB,HST⟩
    case round =>
     clear HP HB HST c1 r0
     obtain ⟨k,hk,rfl,HP,HB,HST⟩:=hrel
     have c1:=(HBG.out.stays HST.out (by decide)).cell HC.out
     have r0:=(own_get (HST.out.own HV0.out (by decide)) HVN.out).1
     have hLn:=HL.out n
     by_cases hkl:k < L n
     · obtain ⟨xs1,hx1,_⟩:=HP.out n _ HVN.out
       obtain ⟨g,_,_,e0,_⟩:=BagS.own_block hx1 (by omega)
       simp only [Value.slice.injEq] at e0
       obtain ⟨rfl,_,rfl⟩:=e0
       have HPd:Hid (BagS.Ph1 84 6 B R L mkD n k wr.drew):=Lib.hid HP.out
       have HBd:=Lib.hid HB.out.drew
       have HSd:Hid (BagS.Stays 84 w wr.drew):=Lib.hid HST.out
       clear hx1 HP HB HST
       go_wp2_with fail
       refine wp_region_plan (S:=fun w'=>w'.cell? ⟨gb,13,none⟩=some (.slice (some ⟨rb,0,none⟩) R.length cb)∧w'.cell? ⟨rb,n,none⟩=some (.slice (some ⟨g,0,none⟩) (L n) cv))
        [(0,true),(1,true),(2,true),(3,true),(4,true),(5,true),(6,true),(7,true),(8,true),(9,true),(10,false),(11,true),(12,true),(13,false)] (by kernel_rfl) (by kernel_rfl) (by kernel_rfl) (fun _ _ _ _ _ h=>h) ⟨c1,r0⟩ ?_
       intro HS
       repeat ((first | (apply wpPlan_look;rfl;rfl;(intro wq hq;(try dsimp only at hq);go_split_ands;go_simp;(try rw [if_neg (by omega)]);(try rw [if_pos (by omega)]);try with_reducible rfl)) | (apply wpPlan_skip;rfl;rfl) | (apply wpPlan_pass;rfl;rfl;assumption));simp only [Act.put,List.setIfInBounds_toArray,List.set_cons_zero,List.set_cons_succ])
       apply wpPlan_call;rfl;rfl;rfl;rfl;kernel_rfl;exact btext_any n k (by omega) (by omega) _ (HPW.out _ HBd.out);rfl;rintro e w1 ⟨rfl,hb1⟩
       refine ⟨_,rfl,as_S ⟨cell_later hb1 c1,cell_later hb1 r0⟩ ?_⟩
       intro _
       simp only [Act.put,List.setIfInBounds_toArray,List.set_cons_zero,List.set_cons_succ]
       repeat ((first | (apply wpPlan_look;rfl;rfl;(intro wq hq;(try dsimp only at hq);go_split_ands;go_simp;(try rw [if_neg (by omega)]);(try rw [if_pos (by omega)]);try with_reducible rfl)) | (apply wpPlan_skip;rfl;rfl) | (apply wpPlan_pass;rfl;rfl;assumption));simp only [Act.put,List.setIfInBounds_toArray,List.set_cons_zero,List.set_cons_succ])
       replace HPd:=Lib.hid (HPd.out.later hb1)
       replace HBd:Hid (Below B w w1):=Lib.hid (HBd.out.trans (hb1.mono (Nat.le_trans hBw HBd.out.size)))
       replace HSd:=Lib.hid (HSd.out.below hb1)
       clear c1 r0 HS hb1
       obtain ⟨hP2,hth,hBg,⟨cur,hcur⟩,_⟩:=HPd.out.store mkD_len HA.out HVN.out hkl
       have HP2:=Lib.hid hP2
       have hst:BagS.Stays 84 w (w1.setCells g (k*6) (mkD n k)):=HSd.out.keep hcur (BagS.setCells_keep g _ _ _)
       have HST2:=Lib.hid hst
       have HB2:Hid (Below B w (w1.setCells g (k*6) (mkD n k))):=Lib.hid (BagS.below_cells hBg (mkD n k) (k*6) w1 HBd.out)
       have c2:=(HBG.out.stays hst (by decide)).cell HC.out
       have r2:=(own_get (hst.own HV0.out (by decide)) HVN.out).1
       refine wpPlan_run0 (w':=w1.setCells g (k*6) (mkD n k)) rfl rfl (exec_store_at rfl rfl rfl (mkD_store w1 g (k*6) n k hth)) _ (fun _ h=>h) ⟨c2,r2⟩ ?_
       simp only [Act.put,List.setIfInBounds_toArray,List.set_cons_zero,List.set_cons_succ]
       apply wpPlan_done
       clear HPd HBd HSd hP2 hth hcur hst c2 r2
       generalize w1.setCells g (k*6) (mkD n k)=w2 at *
       go_wp2_with fail
       go_roundw
       case rel=>exact ⟨k+1,by omega,by go_num,HP2,HB2,HST2⟩
       case measure=>simp [intOf];omega
     · have hkl2:k=L n:=by omega
       have HP2:=Lib.hid (BagS.Ph1.next (by have:=HP.out;rw [hkl2] at this;exact this))
       clear HP hkl2
       go_wp2_with fail
       go_roundw
       case rel=>exact ⟨n+1,by omega,by go_num,HP2,HB,HST⟩
       case measure=>simp [intOf];omega
  · obtain rfl:n=R.length:=by omega
    have HQ:=Lib.hid (BagS.Ph2.start (W:=w.heap.size) (se:=86) HP.out (HST.out.own HV0.out (by decide)))
    clear HP
    go_wp2_with fail
    clear c1
    go_loopw [5,6,7] (fun ov mv i wr=>∃ (n:Nat) (o m:Value) (Us Vs:List Value),o=ov∧m=mv∧n≤R.length∧i=.int .i64 n∧Hid (BagS.Ph2 84 86 6 B w.heap.size R L mkD (.slice A0 R.length cb) n o m Us Vs wr)∧Hid (Below B w wr)∧Hid (BagS.Stays 84 w wr)) (fun _ _ i _=>R.length - (intOf i).toNat)
    case atStart=>exact ⟨0,_,_,[],[],rfl,rfl,Nat.zero_le _,rfl,HQ,HB,HST⟩
    case round =>
     clear HQ HB HST
     obtain ⟨n,o,m,Us,Vs,rfl,rfl,hn,rfl,HQ,HB,HST⟩:=hrel
     have c1:=(HBG.out.stays HST.out (by decide)).cell HC.out
     by_cases hlt:n < R.length
     · obtain ⟨v,hv⟩:∃ v,R[n]? = some v:=⟨_,List.getElem?_eq_getElem hlt⟩
       have HVN:=Lib.hid hv
       obtain ⟨rb,rfl,hrb,_⟩:=HA0.out (by omega)
       obtain ⟨Av,cv,rfl⟩:=own_shape (HQ.out.row n v hv)
       have r0:=(own_get HQ.out.hbag hv).1
       have HI0:=Lib.hid (BagS.In.start HQ.out HA.out hv)
       have hLn:=HL.out n
       clear hv HQ
       go_wp2_with fail
       go_loopw [5,8,9] (fun ov lv i wr=>∃ (t p:Nat) (o l:Value) (Us:List Value),o=ov∧l=lv∧t≤70∧L n≤p∧p≤L n+70∧i=.int .i64 p∧Hid (p=L n+t)∧Hid (BagS.In 84 86 6 B w.heap.size R L mkD (.slice (some ⟨rb,0,none⟩) R.length cb) n t l o m Us Vs wr)∧Hid (Below B w wr)∧Hid (BagS.Stays 84 w wr)) (fun _ _ i _=>L n+70 - (intOf i).toNat)
       case atStart=>exact ⟨0,L n,_,_,Us,rfl,rfl,by omega,Nat.le_refl _,by omega,rfl,Lib.hid rfl,HI0,HB,HST⟩
       case round =>
        clear HI0 HB HST c1 r0
        obtain ⟨t,p,o,l,Us,rfl,rfl,ht,hp0,hp1,rfl,HPT,HI,HB,HST⟩:=hrel
        have c1:=(HBG.out.stays HST.out (by decide)).cell HC.out
        have r0:=(own_get HI.out.hbag HVN.out).1
        have hpt:=HPT.out
        by_cases hkl:t < 70
        · have hpl:p < L n+70:=by omega
          have own4:wr.ownsRow B 84 6 l p (BagS.marks mkD n p):=by rw [HPT.out];exact HI.out.own
          have hbb:=fun w=>mkD_build w (.string (txt n p)) rfl
          clear hpt
          go_wp2_with fail
          refine (btext_any n p (by omega) (by omega) _ (HPW.out _ HB.out)).mono ?_
          rintro e w1 ⟨rfl,hb1⟩
          replace HI:=Lib.hid (HI.out.later hb1)
          replace HB:Hid (Below B w w1):=Lib.hid (HB.out.trans (hb1.mono (Nat.le_trans hBw HB.out.size)))
          replace HST:=Lib.hid (HST.out.below hb1)
          replace own4:=own_later own4 hb1
          clear hb1
          clear c1 r0
          go_wp2_with (at_builtin;refine append_held rfl (.tmp 79) (.tmp 84) 86 84 rfl B _ 6 80 Tryz.underlying86 bdef_info rfl (by decide) _ _ _ rfl own4 [.string (txt n p),.bool false,.string { data:=#[] },.slice none 0 0,.int .i64 0,.int .i64 0] rfl w1.heap.size rfl rfl ?_ ?_ ?_ ?_ ?_)
          · intro y hy;simp only [List.mem_cons,List.not_mem_nil,or_false] at hy;rcases hy with rfl | rfl | rfl | rfl | rfl | rfl<;>rfl
          · omega
          · omega
          · have:=HB.out.size;omega
          intro v' w5 a1 a2 a3 a4 a5
          have HG:Hid (BagS.Grew B 84 6 w1 w5 l v' (L n+t) (BagS.marks mkD n (L n+t)) (mkD n (L n+t))):=Lib.hid (by rw [←HPT.out];exact ⟨a1,a2,a3,a4,a5⟩)
          have HB5:=Lib.hid (HB.out.trans a3)
          have HST5:=Lib.hid (HST.out.grown own4 a2)
          obtain ⟨A5,c5,rfl⟩:=own_shape a1
          have c1:=(HBG.out.stays HST5.out (by decide)).cell HC.out
          have r0:=(own_get (own_other HI.out.hbag a2 (own_apart_type own4 HI.out.hbag (by decide))) HVN.out).1
          have ownO:=own_other HI.out.hone a2 (own_apart_type own4 HI.out.hone (by decide))
          clear a1 a2 a3 a4 a5 own4 hbb
          by_cases ht0:t=0
          · have hpe:p=L n:=by have:=HPT.out;omega
            have e1:(((p:Nat):Int)==((L n:Nat):Int))=true:=int_eq' hpe
            have HUn:Hid (Us.length=n):=Lib.hid (by have:=HI.out.lu;rw [ht0] at this;exact this)
            have hUn:=HUn.out
            clear hpe
            go_wp2_with (at_builtin;refine append_held rfl (.tmp 96) (.tmp 98) 57 86 rfl w.heap.size _ 1 24 Tryz.underlying57 bdefs_info rfl (by decide) _ _ _ rfl ownO [.slice A5 (p+1) c5] rfl w5.heap.size rfl rfl ?_ ?_ ?_ ?_ ?_)
            · intro y hy;simp only [List.mem_cons,List.not_mem_nil,or_false] at hy;subst hy;rfl
            · omega
            · omega
            · exact HB5.out.size
            intro o' w6 a1 a2 a3 a4 a5
            have HI6:Hid (BagS.In 84 86 6 B w.heap.size R L mkD (.slice (some ⟨rb,0,none⟩) R.length cb) n (t+1) (.slice A5 (p+1) c5) o' m (Us++[.slice A5 (p+1) c5]) Vs w6):=Lib.hid (by
             have hI:=HI.out
             have hG:=HG.out
             subst ht0
             exact BagS.In.first (by decide) mkD_len hI hG (one':=o') ⟨a1,a2,a3,a4,by simpa only [Nat.mul_one] using a5⟩ hBw)
            have HB6:=Lib.hid (HB5.out.trans (Below.mono a3 hBw))
            have HST6:=Lib.hid (HST5.out.grown_new ownO a2)
            clear a1 a2 a3 a4 a5 HI HG HB5 HB HST5 HST c1 r0 ownO
            go_wp2_with fail
            go_roundw
            case rel=>exact ⟨t+1,p+1,o',_,_,rfl,rfl,by omega,by omega,by omega,by go_num,Lib.hid (by rw [HPT.out];omega),HI6,HB6,HST6⟩
            case measure=>simp [intOf];omega
          · have e1:(((p:Nat):Int)==((L n:Nat):Int))=false:=beq_no (by have:=HPT.out;omega)
            have HI6:=Lib.hid (BagS.In.push (by decide) mkD_len HI.out (fun h=>absurd h ht0) HA.out HG.out (by omega))
            clear HI HG HB HST ownO
            go_wp2_with fail
            go_roundw
            case rel=>exact ⟨t+1,p+1,o,_,Us,rfl,rfl,by omega,by omega,by omega,by go_num,Lib.hid (by rw [HPT.out];omega),HI6,HB5,HST5⟩
            case measure=>simp [intOf];omega
        · have ht70:t=70:=by omega
          have hpe:p=L n+70:=by omega
          have HI70:Hid (BagS.In 84 86 6 B w.heap.size R L mkD (.slice (some ⟨rb,0,none⟩) R.length cb) n 70 l o m Us Vs wr):=Lib.hid (by have:=HI.out;rw [ht70] at this;exact this)
          have ownM:=HI.out.hmore
          have own7:=HI70.out.own
          rw [←hpe] at own7
          obtain ⟨A5,c5,rfl⟩:=own_shape own7
          have hnp:¬ p < L n+70:=by omega
          clear hpt hpe HI ht70 HPT own7
          go_wp2_with (at_builtin;refine append_held rfl (.tmp 100) (.tmp 102) 57 86 rfl w.heap.size _ 1 24 Tryz.underlying57 bdefs_info rfl (by decide) _ _ _ rfl ownM [.slice A5 p c5] rfl wr.heap.size rfl rfl ?_ ?_ ?_ ?_ ?_)
          · intro y hy;simp only [List.mem_cons,List.not_mem_nil,or_false] at hy;subst hy;rfl
          · omega
          · omega
          · exact HB.out.size
          intro m' w6 a1 a2 a3 a4 a5
          have HQ6:=Lib.hid (BagS.In.done (by decide) HI70.out ⟨a1,a2,a3,a4,by simpa only [Nat.mul_one] using a5⟩)
          have HB6:=Lib.hid (HB.out.trans (Below.mono a3 hBw))
          have HST6:=Lib.hid (HST.out.grown_new ownM a2)
          clear a1 a2 a3 a4 a5 HI70 HB HST c1 r0 ownM
          go_wp2_with fail
          go_roundw
          case rel=>exact ⟨n+1,_,m',Us,_,rfl,rfl,by omega,by go_num,HQ6,HB6,HST6⟩
          case measure=>simp [intOf];omega
     · obtain rfl:n=R.length:=by omega
       obtain ⟨Am,cm,rfl⟩:=own_shape HQ.out.hmore
       obtain ⟨Ao,co,rfl⟩:=own_shape HQ.out.hone
       go_wp2_with fail
       clear c1
       go_loopw [10] (fun i wr=>∃ n:Nat,n≤R.length∧i=.int .i64 n∧Hid (BagS.Ph2 84 86 6 B w.heap.size R L mkD (.slice A0 R.length cb) R.length (.slice Ao R.length co) (.slice Am R.length cm) Us Vs wr)∧Hid (Below B w wr)∧Hid (BagS.Stays 84 w wr)) (fun i _=>R.length - (intOf i).toNat)
       case atStart=>exact ⟨0,Nat.zero_le _,rfl,HQ,HB,HST⟩
       case round =>
        clear HQ HB HST
        obtain ⟨n,hn,rfl,HQ,HB,HST⟩:=hrel
        by_cases hlt:n < R.length
        · have hv0:∃ v,R[n]? = some v:=⟨_,List.getElem?_eq_getElem hlt⟩
          obtain ⟨v,hv⟩:=hv0
          have hu0:∃ u,Us[n]? = some u:=⟨_,List.getElem?_eq_getElem (by rw [HQ.out.lu];exact hlt)⟩
          have hx0:∃ u,Vs[n]? = some u:=⟨_,List.getElem?_eq_getElem (by rw [HQ.out.lv];exact hlt)⟩
          obtain ⟨u,hu⟩:=hu0
          obtain ⟨x,hx⟩:=hx0
          have hLn:=HL.out n
          obtain ⟨rb,rfl,hrb,-⟩:=HA0.out (by omega)
          obtain ⟨_,_,e1,-⟩:=own_read HQ.out.hmore (by omega)
          obtain ⟨_,_,e2,-⟩:=own_read HQ.out.hone (by omega)
          simp only [Value.slice.injEq] at e1 e2
          obtain ⟨rfl,_,rfl⟩:=e1
          obtain ⟨rfl,_,rfl⟩:=e2
          obtain ⟨Av,cv,rfl⟩:=own_shape (HQ.out.row n v hv)
          obtain ⟨gu,cu,_,rfl,-⟩:=BagS.own_block (HQ.out.us n u hu).1 (by omega)
          obtain ⟨gx,cx,_,rfl,-⟩:=BagS.own_block (HQ.out.vs n x hx).1 (by omega)
          have HV:=Lib.hid hv
          have HU:=Lib.hid hu
          have HX:=Lib.hid hx
          have m0:=(own_get HQ.out.hmore hx).1
          clear hv hu hx
          go_wp2_with fail
          clear m0
          go_loopw [11] (fun i wr=>∃ k:Nat,k≤L n+70∧i=.int .i64 k∧Hid (BagS.Ph2 84 86 6 B w.heap.size R L mkD (.slice (some ⟨rb,0,none⟩) R.length cb) R.length (.slice _ R.length co) (.slice _ R.length cm) Us Vs wr)∧Hid (Below B w wr)∧Hid (BagS.Stays 84 w wr)) (fun i _=>L n+70 - (intOf i).toNat)
          case atStart=>exact ⟨0,Nat.zero_le _,rfl,HQ,HB,HST⟩
          case round =>
           clear HQ HB HST
           obtain ⟨k,hk,rfl,HQ,HB,HST⟩:=hrel
           have m0:=(own_get HQ.out.hmore HX.out).1
           by_cases hkl:k < L n+70
           · have hb0:Below wr.heap.size wr (wr.alloc (.cells #[.string (txt n k),.bool false,.string { data:=#[] },.slice none 0 0,.int .i64 0,.int .i64 0] 84)):=(Below.refl _ _).alloc (Nat.le_refl _) _
             have HBX:Hid ((wr.alloc (.cells #[.string (txt n k),.bool false,.string { data:=#[] },.slice none 0 0,.int .i64 0,.int .i64 0] 84)).heap[wr.heap.size]? = some (.cells #[.string (txt n k),.bool false,.string { data:=#[] },.slice none 0 0,.int .i64 0,.int .i64 0] 84 (0,0))):=Lib.hid (MapKept.heap_alloc wr _).1
             have HQ1:=Lib.hid (HQ.out.later hb0)
             have HB1:Hid (Below B w (wr.alloc (.cells #[.string (txt n k),.bool false,.string { data:=#[] },.slice none 0 0,.int .i64 0,.int .i64 0] 84))):=Lib.hid (HB.out.trans (hb0.mono (Nat.le_trans hBw HB.out.size)))
             have HST1:=Lib.hid (HST.out.below hb0)
             have y0:wr.cell? ⟨gx,k*6,none⟩=some (.string (txt n k)):=BagS.own_mark (mk:=mkD) mkD_len (HQ.out.vs n _ HX.out).1 hkl (i:=0) rfl
             have y1:wr.cell? ⟨gx,k*6+1,none⟩=some (.bool false):=BagS.own_mark (mk:=mkD) mkD_len (HQ.out.vs n _ HX.out).1 hkl (i:=1) rfl
             have y2:wr.cell? ⟨gx,k*6+2,none⟩=some (.string { data:=#[] }):=BagS.own_mark (mk:=mkD) mkD_len (HQ.out.vs n _ HX.out).1 hkl (i:=2) rfl
             have y3:wr.cell? ⟨gx,k*6+3,none⟩=some (.slice none 0 0):=BagS.own_mark (mk:=mkD) mkD_len (HQ.out.vs n _ HX.out).1 hkl (i:=3) rfl
             have y4:wr.cell? ⟨gx,k*6+4,none⟩=some (.int .i64 0):=BagS.own_mark (mk:=mkD) mkD_len (HQ.out.vs n _ HX.out).1 hkl (i:=4) rfl
             have y5:wr.cell? ⟨gx,k*6+5,none⟩=some (.int .i64 0):=BagS.own_mark (mk:=mkD) mkD_len (HQ.out.vs n _ HX.out).1 hkl (i:=5) rfl
             have d1:=(HBG.out.stays HST1.out (by decide)).cell HC.out
             have q0:=(own_get HQ1.out.hbag HV.out).1
             have q1:=(own_get HQ1.out.hmore HX.out).1
             have q2:=(own_get HQ1.out.hone HU.out).1
             have e5:((k:Nat):Int) < ((L n:Nat):Int)+70:=by omega
             clear hb0
             by_cases hk1:k < L n
             · obtain ⟨gv,_,_,e3,-⟩:=BagS.own_block (HQ.out.row n _ HV.out) (by omega)
               simp only [Value.slice.injEq] at e3
               obtain ⟨rfl,_,rfl⟩:=e3
               have v0:(wr.alloc (.cells #[.string (txt n k),.bool false,.string { data:=#[] },.slice none 0 0,.int .i64 0,.int .i64 0] 84)).cell? ⟨gv,k*6,none⟩=some (.string (txt n k)):=BagS.own_mark (mk:=mkD) mkD_len (HQ1.out.row n _ HV.out) hk1 (i:=0) rfl
               have v1:(wr.alloc (.cells #[.string (txt n k),.bool false,.string { data:=#[] },.slice none 0 0,.int .i64 0,.int .i64 0] 84)).cell? ⟨gv,k*6+1,none⟩=some (.bool false):=BagS.own_mark (mk:=mkD) mkD_len (HQ1.out.row n _ HV.out) hk1 (i:=1) rfl
               have v2:(wr.alloc (.cells #[.string (txt n k),.bool false,.string { data:=#[] },.slice none 0 0,.int .i64 0,.int .i64 0] 84)).cell? ⟨gv,k*6+2,none⟩=some (.string { data:=#[] }):=BagS.own_mark (mk:=mkD) mkD_len (HQ1.out.row n _ HV.out) hk1 (i:=2) rfl
               have v3:(wr.alloc (.cells #[.string (txt n k),.bool false,.string { data:=#[] },.slice none 0 0,.int .i64 0,.int .i64 0] 84)).cell? ⟨gv,k*6+3,none⟩=some (.slice none 0 0):=BagS.own_mark (mk:=mkD) mkD_len (HQ1.out.row n _ HV.out) hk1 (i:=3) rfl
               have v4:(wr.alloc (.cells #[.string (txt n k),.bool false,.string { data:=#[] },.slice none 0 0,.int .i64 0,.int .i64 0] 84)).cell? ⟨gv,k*6+4,none⟩=some (.int .i64 0):=BagS.own_mark (mk:=mkD) mkD_len (HQ1.out.row n _ HV.out) hk1 (i:=4) rfl
               have v5:(wr.alloc (.cells #[.string (txt n k),.bool false,.string { data:=#[] },.slice none 0 0,.int .i64 0,.int .i64 0] 84)).cell? ⟨gv,k*6+5,none⟩=some (.int .i64 0):=BagS.own_mark (mk:=mkD) mkD_len (HQ1.out.row n _ HV.out) hk1 (i:=5) rfl
               have e6:((k:Nat):Int) < ((L n:Nat):Int):=by omega
               have e4:(((k:Nat):Int)==((L n:Nat):Int))=false:=beq_no (by omega)
               go_wp2_with fail
               have z0:(wr.alloc (.cells #[.string (txt n k),.bool false,.string { data:=#[] },.slice none 0 0,.int .i64 0,.int .i64 0] 84)).cell? ⟨wr.heap.size,0,none⟩=some (.string (txt n k)):=cell_in HBX.out (i:=0) rfl
               have z1:(wr.alloc (.cells #[.string (txt n k),.bool false,.string { data:=#[] },.slice none 0 0,.int .i64 0,.int .i64 0] 84)).cell? ⟨wr.heap.size,1,none⟩=some (.bool false):=cell_in HBX.out (i:=1) rfl
               have z2:(wr.alloc (.cells #[.string (txt n k),.bool false,.string { data:=#[] },.slice none 0 0,.int .i64 0,.int .i64 0] 84)).cell? ⟨wr.heap.size,2,none⟩=some (.string { data:=#[] }):=cell_in HBX.out (i:=2) rfl
               have z3:(wr.alloc (.cells #[.string (txt n k),.bool false,.string { data:=#[] },.slice none 0 0,.int .i64 0,.int .i64 0] 84)).cell? ⟨wr.heap.size,3,none⟩=some (.slice none 0 0):=cell_in HBX.out (i:=3) rfl
               have z4:(wr.alloc (.cells #[.string (txt n k),.bool false,.string { data:=#[] },.slice none 0 0,.int .i64 0,.int .i64 0] 84)).cell? ⟨wr.heap.size,4,none⟩=some (.int .i64 0):=cell_in HBX.out (i:=4) rfl
               have z5:(wr.alloc (.cells #[.string (txt n k),.bool false,.string { data:=#[] },.slice none 0 0,.int .i64 0,.int .i64 0] 84)).cell? ⟨wr.heap.size,5,none⟩=some (.int .i64 0):=cell_in HBX.out (i:=5) rfl
               have HB1d:Hid (Below B w (wr.alloc (.cells #[.string (txt n k),.bool false,.string { data:=#[] },.slice none 0 0,.int .i64 0,.int .i64 0] 84)).drew):=Lib.hid HB1.out.drew
               refine wp_region_plan (S:=fun w'=>w'.cell? ⟨wr.heap.size,0,none⟩=some (.string (txt n k))∧w'.cell? ⟨wr.heap.size,1,none⟩=some (.bool false)∧w'.cell? ⟨wr.heap.size,2,none⟩=some (.string { data:=#[] })∧w'.cell? ⟨wr.heap.size,3,none⟩=some (.slice none 0 0)∧w'.cell? ⟨wr.heap.size,4,none⟩=some (.int .i64 0)∧w'.cell? ⟨wr.heap.size,5,none⟩=some (.int .i64 0)) [(0,true),(1,true),(2,true),(3,true),(4,false),(5,true),(6,true),(7,true),(8,true),(9,true),(10,true),(11,true),(12,true)] (by kernel_rfl) (by kernel_rfl) (by kernel_rfl) (fun _ _ _ _ _ h=>h) ⟨z0,z1,z2,z3,z4,z5⟩ ?_
               intro HS
               repeat ((first | (apply wpPlan_look;rfl;rfl;(intro wq hq;(try dsimp only at hq);go_split_ands;go_simp;(try rw [if_neg (by omega)]);(try rw [if_pos (by omega)]);try with_reducible rfl)) | (apply wpPlan_skip;rfl;rfl) | (apply wpPlan_pass;rfl;rfl;assumption));simp only [Act.put,List.setIfInBounds_toArray,List.set_cons_zero,List.set_cons_succ])
               apply wpPlan_call;rfl;rfl;rfl;rfl;kernel_rfl;exact btext_any n k (by omega) (by omega) _ (HPW.out _ HB1d.out);rfl;rintro e wa ⟨rfl,hba⟩
               refine ⟨_,rfl,as_S ⟨cell_later hba HS.1,cell_later hba HS.2.1,cell_later hba HS.2.2.1,cell_later hba HS.2.2.2.1,cell_later hba HS.2.2.2.2.1,cell_later hba HS.2.2.2.2.2⟩ ?_⟩
               intro HS2
               simp only [Act.put,List.setIfInBounds_toArray,List.set_cons_zero,List.set_cons_succ]
               repeat ((first | (apply wpPlan_look;rfl;rfl;(intro wq hq;(try dsimp only at hq);go_split_ands;go_simp;(try rw [if_neg (by omega)]);(try rw [if_pos (by omega)]);try with_reducible rfl)) | (apply wpPlan_skip;rfl;rfl) | (apply wpPlan_pass;rfl;rfl;assumption));simp only [Act.put,List.setIfInBounds_toArray,List.set_cons_zero,List.set_cons_succ])
               apply wpPlan_done
               have hb2:Below wr.heap.size wr wa:=below_later hba (((Below.refl _ _).alloc (Nat.le_refl _) _).drew)
               have HBY:Hid (wa.heap[wr.heap.size]? = some (.cells #[.string (txt n k),.bool false,.string { data:=#[] },.slice none 0 0,.int .i64 0,.int .i64 0] 84 (0,0))):=Lib.hid ((hba.block _ (by show wr.heap.size < (wr.alloc _).heap.size;rw [World.size_alloc];omega)).trans (MapKept.heap_alloc wr _).1)
               have HB2d:Hid (Below B w wa.drew):=Lib.hid ((HB.out.trans (hb2.mono (Nat.le_trans hBw HB.out.size))).drew)
               have HB2L:=Lib.hid hb2
               have m1:=cell_later hb2 m0
               have s0:=cell_later hb2 y0
               have s1:=cell_later hb2 y1
               have s2:=cell_later hb2 y2
               have s3:=cell_later hb2 y3
               have s4:=cell_later hb2 y4
               have s5:=cell_later hb2 y5
               clear HS HS2 hb2 hba m0 d1 q0 q1 q2 y0 z0 y1 z1 y2 z2 y3 z3 y4 z4 y5 z5 v0 v1 v2 v3 v4 v5 e4 e6
               have z0:wa.cell? ⟨wr.heap.size,0,none⟩=some (.string (txt n k)):=cell_in HBY.out (i:=0) rfl
               have z1:wa.cell? ⟨wr.heap.size,1,none⟩=some (.bool false):=cell_in HBY.out (i:=1) rfl
               have z2:wa.cell? ⟨wr.heap.size,2,none⟩=some (.string { data:=#[] }):=cell_in HBY.out (i:=2) rfl
               have z3:wa.cell? ⟨wr.heap.size,3,none⟩=some (.slice none 0 0):=cell_in HBY.out (i:=3) rfl
               have z4:wa.cell? ⟨wr.heap.size,4,none⟩=some (.int .i64 0):=cell_in HBY.out (i:=4) rfl
               have z5:wa.cell? ⟨wr.heap.size,5,none⟩=some (.int .i64 0):=cell_in HBY.out (i:=5) rfl
               have f0:wa.frozen? ⟨wr.heap.size,0,none⟩=false:=by simp [World.frozen?,HBY.out]
               have f1:wa.frozen? ⟨wr.heap.size,1,none⟩=false:=by simp [World.frozen?,HBY.out]
               have f2:wa.frozen? ⟨wr.heap.size,2,none⟩=false:=by simp [World.frozen?,HBY.out]
               have f3:wa.frozen? ⟨wr.heap.size,3,none⟩=false:=by simp [World.frozen?,HBY.out]
               have f4:wa.frozen? ⟨wr.heap.size,4,none⟩=false:=by simp [World.frozen?,HBY.out]
               have f5:wa.frozen? ⟨wr.heap.size,5,none⟩=false:=by simp [World.frozen?,HBY.out]
               have w0:wa.setCell ⟨wr.heap.size,0,none⟩ (.string (txt n k))=wa:=set_self HBY.out (i:=0) rfl
               have w1:wa.setCell ⟨wr.heap.size,1,none⟩ (.bool false)=wa:=set_self HBY.out (i:=1) rfl
               have w2:wa.setCell ⟨wr.heap.size,2,none⟩ (.string { data:=#[] })=wa:=set_self HBY.out (i:=2) rfl
               have w3:wa.setCell ⟨wr.heap.size,3,none⟩ (.slice none 0 0)=wa:=set_self HBY.out (i:=3) rfl
               have w4:wa.setCell ⟨wr.heap.size,4,none⟩ (.int .i64 0)=wa:=set_self HBY.out (i:=4) rfl
               have w5:wa.setCell ⟨wr.heap.size,5,none⟩ (.int .i64 0)=wa:=set_self HBY.out (i:=5) rfl
               go_wp2_with fail
               clear f0 w0 f1 w1 f2 w2 f3 w3 f4 w4 f5 w5
               refine wp_region_plan (S:=fun w'=>w'.cell? ⟨wr.heap.size,0,none⟩=some (.string (txt n k))∧w'.cell? ⟨wr.heap.size,1,none⟩=some (.bool false)∧w'.cell? ⟨wr.heap.size,2,none⟩=some (.string { data:=#[] })∧w'.cell? ⟨wr.heap.size,3,none⟩=some (.slice none 0 0)∧w'.cell? ⟨wr.heap.size,4,none⟩=some (.int .i64 0)∧w'.cell? ⟨wr.heap.size,5,none⟩=some (.int .i64 0)) [(0,true),(1,true),(2,true),(3,true),(4,true),(5,true),(6,true),(7,false),(8,true),(9,true),(10,true),(11,true),(12,true),(13,true),(14,true),(15,true),(16,true)] (by kernel_rfl) (by kernel_rfl) (by kernel_rfl) (fun _ _ _ _ _ h=>h) ⟨z0,z1,z2,z3,z4,z5⟩ ?_
               intro HS
               repeat ((first | (apply wpPlan_look;rfl;rfl;(intro wq hq;(try dsimp only at hq);go_split_ands;go_simp;(try rw [if_neg (by omega)]);(try rw [if_pos (by omega)]);try with_reducible rfl)) | (apply wpPlan_skip;rfl;rfl) | (apply wpPlan_pass;rfl;rfl;assumption));simp only [Act.put,List.setIfInBounds_toArray,List.set_cons_zero,List.set_cons_succ])
               apply wpPlan_call;rfl;rfl;rfl;rfl;kernel_rfl;exact btext_any n k (by omega) (by omega) _ (HPW.out _ HB2d.out);rfl;rintro e wb ⟨rfl,hbb⟩
               refine ⟨_,rfl,as_S ⟨cell_later hbb HS.1,cell_later hbb HS.2.1,cell_later hbb HS.2.2.1,cell_later hbb HS.2.2.2.1,cell_later hbb HS.2.2.2.2.1,cell_later hbb HS.2.2.2.2.2⟩ ?_⟩
               intro HS2
               simp only [Act.put,List.setIfInBounds_toArray,List.set_cons_zero,List.set_cons_succ]
               repeat ((first | (apply wpPlan_look;rfl;rfl;(intro wq hq;(try dsimp only at hq);go_split_ands;go_simp;(try rw [if_neg (by omega)]);(try rw [if_pos (by omega)]);try with_reducible rfl)) | (apply wpPlan_skip;rfl;rfl) | (apply wpPlan_pass;rfl;rfl;assumption));simp only [Act.put,List.setIfInBounds_toArray,List.set_cons_zero,List.set_cons_succ])
               apply wpPlan_done
               have hb3:Below wr.heap.size wr wb:=below_later hbb HB2L.out.drew
               have HQ2:=Lib.hid (HQ.out.later hb3)
               have HB2:Hid (Below B w wb):=Lib.hid (HB.out.trans (hb3.mono (Nat.le_trans hBw HB.out.size)))
               have HST2:=Lib.hid (HST.out.below hb3)
               clear HS HS2 hb3 hbb m1 HQ HB HST HQ1 HB1 HST1 HBX HBY HB1d HB2d HB2L s0 z0 s1 z1 s2 z2 s3 z3 s4 z4 s5 z5
               go_wp2_with fail
               go_roundw
               case rel=>exact ⟨k+1,by omega,by go_num,HQ2,HB2,HST2⟩
               case measure=>simp [intOf];omega
             · by_cases hk2:k=L n
               · have e4:(((k:Nat):Int)==((L n:Nat):Int))=true:=int_eq' hk2
                 have u0:(wr.alloc (.cells #[.string (txt n k),.bool false,.string { data:=#[] },.slice none 0 0,.int .i64 0,.int .i64 0] 84)).cell? ⟨gu,k*6,none⟩=some (.string (txt n k)):=BagS.own_mark (mk:=mkD) mkD_len (HQ1.out.us n _ HU.out).1 (by omega) (i:=0) rfl
                 have u1:(wr.alloc (.cells #[.string (txt n k),.bool false,.string { data:=#[] },.slice none 0 0,.int .i64 0,.int .i64 0] 84)).cell? ⟨gu,k*6+1,none⟩=some (.bool false):=BagS.own_mark (mk:=mkD) mkD_len (HQ1.out.us n _ HU.out).1 (by omega) (i:=1) rfl
                 have u2:(wr.alloc (.cells #[.string (txt n k),.bool false,.string { data:=#[] },.slice none 0 0,.int .i64 0,.int .i64 0] 84)).cell? ⟨gu,k*6+2,none⟩=some (.string { data:=#[] }):=BagS.own_mark (mk:=mkD) mkD_len (HQ1.out.us n _ HU.out).1 (by omega) (i:=2) rfl
                 have u3:(wr.alloc (.cells #[.string (txt n k),.bool false,.string { data:=#[] },.slice none 0 0,.int .i64 0,.int .i64 0] 84)).cell? ⟨gu,k*6+3,none⟩=some (.slice none 0 0):=BagS.own_mark (mk:=mkD) mkD_len (HQ1.out.us n _ HU.out).1 (by omega) (i:=3) rfl
                 have u4:(wr.alloc (.cells #[.string (txt n k),.bool false,.string { data:=#[] },.slice none 0 0,.int .i64 0,.int .i64 0] 84)).cell? ⟨gu,k*6+4,none⟩=some (.int .i64 0):=BagS.own_mark (mk:=mkD) mkD_len (HQ1.out.us n _ HU.out).1 (by omega) (i:=4) rfl
                 have u5:(wr.alloc (.cells #[.string (txt n k),.bool false,.string { data:=#[] },.slice none 0 0,.int .i64 0,.int .i64 0] 84)).cell? ⟨gu,k*6+5,none⟩=some (.int .i64 0):=BagS.own_mark (mk:=mkD) mkD_len (HQ1.out.us n _ HU.out).1 (by omega) (i:=5) rfl
                 have hk3:k < L n+1:=by omega
                 have e6:¬ ((k:Nat):Int) < ((L n:Nat):Int):=by omega
                 clear hk2
                 go_wp2_with fail
                 have z0:(wr.alloc (.cells #[.string (txt n k),.bool false,.string { data:=#[] },.slice none 0 0,.int .i64 0,.int .i64 0] 84)).cell? ⟨wr.heap.size,0,none⟩=some (.string (txt n k)):=cell_in HBX.out (i:=0) rfl
                 have z1:(wr.alloc (.cells #[.string (txt n k),.bool false,.string { data:=#[] },.slice none 0 0,.int .i64 0,.int .i64 0] 84)).cell? ⟨wr.heap.size,1,none⟩=some (.bool false):=cell_in HBX.out (i:=1) rfl
                 have z2:(wr.alloc (.cells #[.string (txt n k),.bool false,.string { data:=#[] },.slice none 0 0,.int .i64 0,.int .i64 0] 84)).cell? ⟨wr.heap.size,2,none⟩=some (.string { data:=#[] }):=cell_in HBX.out (i:=2) rfl
                 have z3:(wr.alloc (.cells #[.string (txt n k),.bool false,.string { data:=#[] },.slice none 0 0,.int .i64 0,.int .i64 0] 84)).cell? ⟨wr.heap.size,3,none⟩=some (.slice none 0 0):=cell_in HBX.out (i:=3) rfl
                 have z4:(wr.alloc (.cells #[.string (txt n k),.bool false,.string { data:=#[] },.slice none 0 0,.int .i64 0,.int .i64 0] 84)).cell? ⟨wr.heap.size,4,none⟩=some (.int .i64 0):=cell_in HBX.out (i:=4) rfl
                 have z5:(wr.alloc (.cells #[.string (txt n k),.bool false,.string { data:=#[] },.slice none 0 0,.int .i64 0,.int .i64 0] 84)).cell? ⟨wr.heap.size,5,none⟩=some (.int .i64 0):=cell_in HBX.out (i:=5) rfl
                 have HB1d:Hid (Below B w (wr.alloc (.cells #[.string (txt n k),.bool false,.string { data:=#[] },.slice none 0 0,.int .i64 0,.int .i64 0] 84)).drew):=Lib.hid HB1.out.drew
                 refine wp_region_plan (S:=fun w'=>w'.cell? ⟨wr.heap.size,0,none⟩=some (.string (txt n k))∧w'.cell? ⟨wr.heap.size,1,none⟩=some (.bool false)∧w'.cell? ⟨wr.heap.size,2,none⟩=some (.string { data:=#[] })∧w'.cell? ⟨wr.heap.size,3,none⟩=some (.slice none 0 0)∧w'.cell? ⟨wr.heap.size,4,none⟩=some (.int .i64 0)∧w'.cell? ⟨wr.heap.size,5,none⟩=some (.int .i64 0)) [(0,true),(1,true),(2,true),(3,true),(4,false),(5,true),(6,true),(7,true),(8,true),(9,true),(10,true),(11,true),(12,true)] (by kernel_rfl) (by kernel_rfl) (by kernel_rfl) (fun _ _ _ _ _ h=>h) ⟨z0,z1,z2,z3,z4,z5⟩ ?_
                 intro HS
                 repeat ((first | (apply wpPlan_look;rfl;rfl;(intro wq hq;(try dsimp only at hq);go_split_ands;go_simp;(try rw [if_neg (by omega)]);(try rw [if_pos (by omega)]);try with_reducible rfl)) | (apply wpPlan_skip;rfl;rfl) | (apply wpPlan_pass;rfl;rfl;assumption));simp only [Act.put,List.setIfInBounds_toArray,List.set_cons_zero,List.set_cons_succ])
                 apply wpPlan_call;rfl;rfl;rfl;rfl;kernel_rfl;exact btext_any n k (by omega) (by omega) _ (HPW.out _ HB1d.out);rfl;rintro e wa ⟨rfl,hba⟩
                 refine ⟨_,rfl,as_S ⟨cell_later hba HS.1,cell_later hba HS.2.1,cell_later hba HS.2.2.1,cell_later hba HS.2.2.2.1,cell_later hba HS.2.2.2.2.1,cell_later hba HS.2.2.2.2.2⟩ ?_⟩
                 intro HS2
                 simp only [Act.put,List.setIfInBounds_toArray,List.set_cons_zero,List.set_cons_succ]
                 repeat ((first | (apply wpPlan_look;rfl;rfl;(intro wq hq;(try dsimp only at hq);go_split_ands;go_simp;(try rw [if_neg (by omega)]);(try rw [if_pos (by omega)]);try with_reducible rfl)) | (apply wpPlan_skip;rfl;rfl) | (apply wpPlan_pass;rfl;rfl;assumption));simp only [Act.put,List.setIfInBounds_toArray,List.set_cons_zero,List.set_cons_succ])
                 apply wpPlan_done
                 have hb2:Below wr.heap.size wr wa:=below_later hba (((Below.refl _ _).alloc (Nat.le_refl _) _).drew)
                 have HBY:Hid (wa.heap[wr.heap.size]? = some (.cells #[.string (txt n k),.bool false,.string { data:=#[] },.slice none 0 0,.int .i64 0,.int .i64 0] 84 (0,0))):=Lib.hid ((hba.block _ (by show wr.heap.size < (wr.alloc _).heap.size;rw [World.size_alloc];omega)).trans (MapKept.heap_alloc wr _).1)
                 have HB2d:Hid (Below B w wa.drew):=Lib.hid ((HB.out.trans (hb2.mono (Nat.le_trans hBw HB.out.size))).drew)
                 have HB2L:=Lib.hid hb2
                 have m1:=cell_later hb2 m0
                 have s0:=cell_later hb2 y0
                 have s1:=cell_later hb2 y1
                 have s2:=cell_later hb2 y2
                 have s3:=cell_later hb2 y3
                 have s4:=cell_later hb2 y4
                 have s5:=cell_later hb2 y5
                 clear HS HS2 hb2 hba m0 d1 q0 q1 q2 y0 z0 y1 z1 y2 z2 y3 z3 y4 z4 y5 z5 u0 u1 u2 u3 u4 u5 e4 e6 hk3
                 have z0:wa.cell? ⟨wr.heap.size,0,none⟩=some (.string (txt n k)):=cell_in HBY.out (i:=0) rfl
                 have z1:wa.cell? ⟨wr.heap.size,1,none⟩=some (.bool false):=cell_in HBY.out (i:=1) rfl
                 have z2:wa.cell? ⟨wr.heap.size,2,none⟩=some (.string { data:=#[] }):=cell_in HBY.out (i:=2) rfl
                 have z3:wa.cell? ⟨wr.heap.size,3,none⟩=some (.slice none 0 0):=cell_in HBY.out (i:=3) rfl
                 have z4:wa.cell? ⟨wr.heap.size,4,none⟩=some (.int .i64 0):=cell_in HBY.out (i:=4) rfl
                 have z5:wa.cell? ⟨wr.heap.size,5,none⟩=some (.int .i64 0):=cell_in HBY.out (i:=5) rfl
                 have f0:wa.frozen? ⟨wr.heap.size,0,none⟩=false:=by simp [World.frozen?,HBY.out]
                 have f1:wa.frozen? ⟨wr.heap.size,1,none⟩=false:=by simp [World.frozen?,HBY.out]
                 have f2:wa.frozen? ⟨wr.heap.size,2,none⟩=false:=by simp [World.frozen?,HBY.out]
                 have f3:wa.frozen? ⟨wr.heap.size,3,none⟩=false:=by simp [World.frozen?,HBY.out]
                 have f4:wa.frozen? ⟨wr.heap.size,4,none⟩=false:=by simp [World.frozen?,HBY.out]
                 have f5:wa.frozen? ⟨wr.heap.size,5,none⟩=false:=by simp [World.frozen?,HBY.out]
                 have w0:wa.setCell ⟨wr.heap.size,0,none⟩ (.string (txt n k))=wa:=set_self HBY.out (i:=0) rfl
                 have w1:wa.setCell ⟨wr.heap.size,1,none⟩ (.bool false)=wa:=set_self HBY.out (i:=1) rfl
                 have w2:wa.setCell ⟨wr.heap.size,2,none⟩ (.string { data:=#[] })=wa:=set_self HBY.out (i:=2) rfl
                 have w3:wa.setCell ⟨wr.heap.size,3,none⟩ (.slice none 0 0)=wa:=set_self HBY.out (i:=3) rfl
                 have w4:wa.setCell ⟨wr.heap.size,4,none⟩ (.int .i64 0)=wa:=set_self HBY.out (i:=4) rfl
                 have w5:wa.setCell ⟨wr.heap.size,5,none⟩ (.int .i64 0)=wa:=set_self HBY.out (i:=5) rfl
                 go_wp2_with fail
                 clear f0 w0 f1 w1 f2 w2 f3 w3 f4 w4 f5 w5
                 refine wp_region_plan (S:=fun w'=>w'.cell? ⟨wr.heap.size,0,none⟩=some (.string (txt n k))∧w'.cell? ⟨wr.heap.size,1,none⟩=some (.bool false)∧w'.cell? ⟨wr.heap.size,2,none⟩=some (.string { data:=#[] })∧w'.cell? ⟨wr.heap.size,3,none⟩=some (.slice none 0 0)∧w'.cell? ⟨wr.heap.size,4,none⟩=some (.int .i64 0)∧w'.cell? ⟨wr.heap.size,5,none⟩=some (.int .i64 0)) [(0,true),(1,true),(2,true),(3,true),(4,true),(5,true),(6,true),(7,false),(8,true),(9,true),(10,true),(11,true),(12,true),(13,true),(14,true),(15,true),(16,true)] (by kernel_rfl) (by kernel_rfl) (by kernel_rfl) (fun _ _ _ _ _ h=>h) ⟨z0,z1,z2,z3,z4,z5⟩ ?_
                 intro HS
                 repeat ((first | (apply wpPlan_look;rfl;rfl;(intro wq hq;(try dsimp only at hq);go_split_ands;go_simp;(try rw [if_neg (by omega)]);(try rw [if_pos (by omega)]);try with_reducible rfl)) | (apply wpPlan_skip;rfl;rfl) | (apply wpPlan_pass;rfl;rfl;assumption));simp only [Act.put,List.setIfInBounds_toArray,List.set_cons_zero,List.set_cons_succ])
                 apply wpPlan_call;rfl;rfl;rfl;rfl;kernel_rfl;exact btext_any n k (by omega) (by omega) _ (HPW.out _ HB2d.out);rfl;rintro e wb ⟨rfl,hbb⟩
                 refine ⟨_,rfl,as_S ⟨cell_later hbb HS.1,cell_later hbb HS.2.1,cell_later hbb HS.2.2.1,cell_later hbb HS.2.2.2.1,cell_later hbb HS.2.2.2.2.1,cell_later hbb HS.2.2.2.2.2⟩ ?_⟩
                 intro HS2
                 simp only [Act.put,List.setIfInBounds_toArray,List.set_cons_zero,List.set_cons_succ]
                 repeat ((first | (apply wpPlan_look;rfl;rfl;(intro wq hq;(try dsimp only at hq);go_split_ands;go_simp;(try rw [if_neg (by omega)]);(try rw [if_pos (by omega)]);try with_reducible rfl)) | (apply wpPlan_skip;rfl;rfl) | (apply wpPlan_pass;rfl;rfl;assumption));simp only [Act.put,List.setIfInBounds_toArray,List.set_cons_zero,List.set_cons_succ])
                 apply wpPlan_done
                 have hb3:Below wr.heap.size wr wb:=below_later hbb HB2L.out.drew
                 have HQ2:=Lib.hid (HQ.out.later hb3)
                 have HB2:Hid (Below B w wb):=Lib.hid (HB.out.trans (hb3.mono (Nat.le_trans hBw HB.out.size)))
                 have HST2:=Lib.hid (HST.out.below hb3)
                 clear HS HS2 hb3 hbb m1 HQ HB HST HQ1 HB1 HST1 HBX HBY HB1d HB2d HB2L s0 z0 s1 z1 s2 z2 s3 z3 s4 z4 s5 z5
                 go_wp2_with fail
                 go_roundw
                 case rel=>exact ⟨k+1,by omega,by go_num,HQ2,HB2,HST2⟩
                 case measure=>simp [intOf];omega
               · have e4:(((k:Nat):Int)==((L n:Nat):Int))=false:=beq_no (by omega)
                 have e6:¬ ((k:Nat):Int) < ((L n:Nat):Int):=by omega
                 clear hk2
                 go_wp2_with fail
                 have z0:(wr.alloc (.cells #[.string (txt n k),.bool false,.string { data:=#[] },.slice none 0 0,.int .i64 0,.int .i64 0] 84)).cell? ⟨wr.heap.size,0,none⟩=some (.string (txt n k)):=cell_in HBX.out (i:=0) rfl
                 have z1:(wr.alloc (.cells #[.string (txt n k),.bool false,.string { data:=#[] },.slice none 0 0,.int .i64 0,.int .i64 0] 84)).cell? ⟨wr.heap.size,1,none⟩=some (.bool false):=cell_in HBX.out (i:=1) rfl
                 have z2:(wr.alloc (.cells #[.string (txt n k),.bool false,.string { data:=#[] },.slice none 0 0,.int .i64 0,.int .i64 0] 84)).cell? ⟨wr.heap.size,2,none⟩=some (.string { data:=#[] }):=cell_in HBX.out (i:=2) rfl
                 have z3:(wr.alloc (.cells #[.string (txt n k),.bool false,.string { data:=#[] },.slice none 0 0,.int .i64 0,.int .i64 0] 84)).cell? ⟨wr.heap.size,3,none⟩=some (.slice none 0 0):=cell_in HBX.out (i:=3) rfl
                 have z4:(wr.alloc (.cells #[.string (txt n k),.bool false,.string { data:=#[] },.slice none 0 0,.int .i64 0,.int .i64 0] 84)).cell? ⟨wr.heap.size,4,none⟩=some (.int .i64 0):=cell_in HBX.out (i:=4) rfl
                 have z5:(wr.alloc (.cells #[.string (txt n k),.bool false,.string { data:=#[] },.slice none 0 0,.int .i64 0,.int .i64 0] 84)).cell? ⟨wr.heap.size,5,none⟩=some (.int .i64 0):=cell_in HBX.out (i:=5) rfl
                 have HB1d:Hid (Below B w (wr.alloc (.cells #[.string (txt n k),.bool false,.string { data:=#[] },.slice none 0 0,.int .i64 0,.int .i64 0] 84)).drew):=Lib.hid HB1.out.drew
                 refine wp_region_plan (S:=fun w'=>w'.cell? ⟨wr.heap.size,0,none⟩=some (.string (txt n k))∧w'.cell? ⟨wr.heap.size,1,none⟩=some (.bool false)∧w'.cell? ⟨wr.heap.size,2,none⟩=some (.string { data:=#[] })∧w'.cell? ⟨wr.heap.size,3,none⟩=some (.slice none 0 0)∧w'.cell? ⟨wr.heap.size,4,none⟩=some (.int .i64 0)∧w'.cell? ⟨wr.heap.size,5,none⟩=some (.int .i64 0)) [(0,true),(1,true),(2,true),(3,true),(4,false),(5,true),(6,true),(7,true),(8,true),(9,true),(10,true),(11,true),(12,true)] (by kernel_rfl) (by kernel_rfl) (by kernel_rfl) (fun _ _ _ _ _ h=>h) ⟨z0,z1,z2,z3,z4,z5⟩ ?_
                 intro HS
                 repeat ((first | (apply wpPlan_look;rfl;rfl;(intro wq hq;(try dsimp only at hq);go_split_ands;go_simp;(try rw [if_neg (by omega)]);(try rw [if_pos (by omega)]);try with_reducible rfl)) | (apply wpPlan_skip;rfl;rfl) | (apply wpPlan_pass;rfl;rfl;assumption));simp only [Act.put,List.setIfInBounds_toArray,List.set_cons_zero,List.set_cons_succ])
                 apply wpPlan_call;rfl;rfl;rfl;rfl;kernel_rfl;exact btext_any n k (by omega) (by omega) _ (HPW.out _ HB1d.out);rfl;rintro e wa ⟨rfl,hba⟩
                 refine ⟨_,rfl,as_S ⟨cell_later hba HS.1,cell_later hba HS.2.1,cell_later hba HS.2.2.1,cell_later hba HS.2.2.2.1,cell_later hba HS.2.2.2.2.1,cell_later hba HS.2.2.2.2.2⟩ ?_⟩
                 intro HS2
                 simp only [Act.put,List.setIfInBounds_toArray,List.set_cons_zero,List.set_cons_succ]
                 repeat ((first | (apply wpPlan_look;rfl;rfl;(intro wq hq;(try dsimp only at hq);go_split_ands;go_simp;(try rw [if_neg (by omega)]);(try rw [if_pos (by omega)]);try with_reducible rfl)) | (apply wpPlan_skip;rfl;rfl) | (apply wpPlan_pass;rfl;rfl;assumption));simp only [Act.put,List.setIfInBounds_toArray,List.set_cons_zero,List.set_cons_succ])
                 apply wpPlan_done
                 have hb2:Below wr.heap.size wr wa:=below_later hba (((Below.refl _ _).alloc (Nat.le_refl _) _).drew)
                 have HBY:Hid (wa.heap[wr.heap.size]? = some (.cells #[.string (txt n k),.bool false,.string { data:=#[] },.slice none 0 0,.int .i64 0,.int .i64 0] 84 (0,0))):=Lib.hid ((hba.block _ (by show wr.heap.size < (wr.alloc _).heap.size;rw [World.size_alloc];omega)).trans (MapKept.heap_alloc wr _).1)
                 have HB2d:Hid (Below B w wa.drew):=Lib.hid ((HB.out.trans (hb2.mono (Nat.le_trans hBw HB.out.size))).drew)
                 have HB2L:=Lib.hid hb2
                 have m1:=cell_later hb2 m0
                 have s0:=cell_later hb2 y0
                 have s1:=cell_later hb2 y1
                 have s2:=cell_later hb2 y2
                 have s3:=cell_later hb2 y3
                 have s4:=cell_later hb2 y4
                 have s5:=cell_later hb2 y5
                 clear HS HS2 hb2 hba m0 d1 q0 q1 q2 y0 z0 y1 z1 y2 z2 y3 z3 y4 z4 y5 z5 e4 e6
                 have z0:wa.cell? ⟨wr.heap.size,0,none⟩=some (.string (txt n k)):=cell_in HBY.out (i:=0) rfl
                 have z1:wa.cell? ⟨wr.heap.size,1,none⟩=some (.bool false):=cell_in HBY.out (i:=1) rfl
                 have z2:wa.cell? ⟨wr.heap.size,2,none⟩=some (.string { data:=#[] }):=cell_in HBY.out (i:=2) rfl
                 have z3:wa.cell? ⟨wr.heap.size,3,none⟩=some (.slice none 0 0):=cell_in HBY.out (i:=3) rfl
                 have z4:wa.cell? ⟨wr.heap.size,4,none⟩=some (.int .i64 0):=cell_in HBY.out (i:=4) rfl
                 have z5:wa.cell? ⟨wr.heap.size,5,none⟩=some (.int .i64 0):=cell_in HBY.out (i:=5) rfl
                 have f0:wa.frozen? ⟨wr.heap.size,0,none⟩=false:=by simp [World.frozen?,HBY.out]
                 have f1:wa.frozen? ⟨wr.heap.size,1,none⟩=false:=by simp [World.frozen?,HBY.out]
                 have f2:wa.frozen? ⟨wr.heap.size,2,none⟩=false:=by simp [World.frozen?,HBY.out]
                 have f3:wa.frozen? ⟨wr.heap.size,3,none⟩=false:=by simp [World.frozen?,HBY.out]
                 have f4:wa.frozen? ⟨wr.heap.size,4,none⟩=false:=by simp [World.frozen?,HBY.out]
                 have f5:wa.frozen? ⟨wr.heap.size,5,none⟩=false:=by simp [World.frozen?,HBY.out]
                 have w0:wa.setCell ⟨wr.heap.size,0,none⟩ (.string (txt n k))=wa:=set_self HBY.out (i:=0) rfl
                 have w1:wa.setCell ⟨wr.heap.size,1,none⟩ (.bool false)=wa:=set_self HBY.out (i:=1) rfl
                 have w2:wa.setCell ⟨wr.heap.size,2,none⟩ (.string { data:=#[] })=wa:=set_self HBY.out (i:=2) rfl
                 have w3:wa.setCell ⟨wr.heap.size,3,none⟩ (.slice none 0 0)=wa:=set_self HBY.out (i:=3) rfl
                 have w4:wa.setCell ⟨wr.heap.size,4,none⟩ (.int .i64 0)=wa:=set_self HBY.out (i:=4) rfl
                 have w5:wa.setCell ⟨wr.heap.size,5,none⟩ (.int .i64 0)=wa:=set_self HBY.out (i:=5) rfl
                 go_wp2_with fail
                 clear f0 w0 f1 w1 f2 w2 f3 w3 f4 w4 f5 w5
                 refine wp_region_plan (S:=fun w'=>w'.cell? ⟨wr.heap.size,0,none⟩=some (.string (txt n k))∧w'.cell? ⟨wr.heap.size,1,none⟩=some (.bool false)∧w'.cell? ⟨wr.heap.size,2,none⟩=some (.string { data:=#[] })∧w'.cell? ⟨wr.heap.size,3,none⟩=some (.slice none 0 0)∧w'.cell? ⟨wr.heap.size,4,none⟩=some (.int .i64 0)∧w'.cell? ⟨wr.heap.size,5,none⟩=some (.int .i64 0)) [(0,true),(1,true),(2,true),(3,true),(4,true),(5,true),(6,true),(7,false),(8,true),(9,true),(10,true),(11,true),(12,true),(13,true),(14,true),(15,true),(16,true)] (by kernel_rfl) (by kernel_rfl) (by kernel_rfl) (fun _ _ _ _ _ h=>h) ⟨z0,z1,z2,z3,z4,z5⟩ ?_
                 intro HS
                 repeat ((first | (apply wpPlan_look;rfl;rfl;(intro wq hq;(try dsimp only at hq);go_split_ands;go_simp;(try rw [if_neg (by omega)]);(try rw [if_pos (by omega)]);try with_reducible rfl)) | (apply wpPlan_skip;rfl;rfl) | (apply wpPlan_pass;rfl;rfl;assumption));simp only [Act.put,List.setIfInBounds_toArray,List.set_cons_zero,List.set_cons_succ])
                 apply wpPlan_call;rfl;rfl;rfl;rfl;kernel_rfl;exact btext_any n k (by omega) (by omega) _ (HPW.out _ HB2d.out);rfl;rintro e wb ⟨rfl,hbb⟩
                 refine ⟨_,rfl,as_S ⟨cell_later hbb HS.1,cell_later hbb HS.2.1,cell_later hbb HS.2.2.1,cell_later hbb HS.2.2.2.1,cell_later hbb HS.2.2.2.2.1,cell_later hbb HS.2.2.2.2.2⟩ ?_⟩
                 intro HS2
                 simp only [Act.put,List.setIfInBounds_toArray,List.set_cons_zero,List.set_cons_succ]
                 repeat ((first | (apply wpPlan_look;rfl;rfl;(intro wq hq;(try dsimp only at hq);go_split_ands;go_simp;(try rw [if_neg (by omega)]);(try rw [if_pos (by omega)]);try with_reducible rfl)) | (apply wpPlan_skip;rfl;rfl) | (apply wpPlan_pass;rfl;rfl;assumption));simp only [Act.put,List.setIfInBounds_toArray,List.set_cons_zero,List.set_cons_succ])
                 apply wpPlan_done
                 have hb3:Below wr.heap.size wr wb:=below_later hbb HB2L.out.drew
                 have HQ2:=Lib.hid (HQ.out.later hb3)
                 have HB2:Hid (Below B w wb):=Lib.hid (HB.out.trans (hb3.mono (Nat.le_trans hBw HB.out.size)))
                 have HST2:=Lib.hid (HST.out.below hb3)
                 clear HS HS2 hb3 hbb m1 HQ HB HST HQ1 HB1 HST1 HBX HBY HB1d HB2d HB2L s0 z0 s1 z1 s2 z2 s3 z3 s4 z4 s5 z5
                 go_wp2_with fail
                 go_roundw
                 case rel=>exact ⟨k+1,by omega,by go_num,HQ2,HB2,HST2⟩
                 case measure=>simp [intOf];omega
           · go_wp2_with fail
             go_roundw
             case rel=>exact ⟨n+1,by omega,by go_num,HQ,HB,HST⟩
             case measure=>simp [intOf];omega
        · go_wp2_with fail
          go_ret
          exact ⟨rfl,HB.out,HST.out⟩
end Go.Proofs.YtidholghbjljaaaGreatDoor
namespace Go.Proofs.YtidholghbjljaaaGreatDoor
open Go.RowKit Go.Maps Culp
def mkMd (n k:Nat):List Value:=[.string (txt n k),.slice none 0 0,.slice none 0 0,.int .i64 0,.int .i64 0]
theorem mkMd_len (n k:Nat):(mkMd n k).length=5:=rfl
theorem bmod_info:(Tryz.prog.info? 88).map (fun i=>(i.zero,i.size,i.bytes))=some (some (.agg #[.string { data:=#[] },.slice none 0 0,.slice none 0 0,.int .i64 0,.int .i64 0]),5,80):=by kernel_rfl
theorem bmods_info:(Tryz.prog.info? 22).map (fun i=>(i.zero,i.size,i.bytes))=some (some (.slice none 0 0),1,24):=by kernel_rfl
theorem mkMd_build (w:World) (x:Value) (hx:x.oneCell'=true):(Instr.buildSlice 22 1 #[(0,.agg #[x,.slice none 0 0,.slice none 0 0,.int .i64 0,.int .i64 0])]).run Tryz.prog w=.ok (.slice (some ⟨w.heap.size,0,none⟩) 1 1) (w.alloc (.cells #[x,.slice none 0 0,.slice none 0 0,.int .i64 0,.int .i64 0] 88)):=by
 simp [go_sem,Instr.buildSlice,run_underlying Tryz.underlying22]
theorem mkMd_store (w:World) (g o:Nat) (n k:Nat) (h:w.there g o 5):(Instr.storeAt 88 (.pointer (some ⟨g,o,none⟩)) (.agg #[.string (txt n k),.slice none 0 0,.slice none 0 0,.int .i64 0,.int .i64 0])).run Tryz.prog w=.ok () (w.setCells g o (mkMd n k)):=by
 have:=run_storeAt_mid (P:=Tryz.prog) w g o 88 #[.string (txt n k),.slice none 0 0,.slice none 0 0,.int .i64 0,.int .i64 0] h (by kernel_rfl) (by simp [Value.oneCell'])
 exact this
theorem apartModules_any (gb B:Nat) (R:List Value) (L:Nat→Nat) (bv:Value) (w:World) (cs:Array Value) (hBI:BagOf gb cs w) (hc4:cs[14]? = some bv) (hBw:B≤w.heap.size) (hbv:w.ownsRow B 22 1 bv R.length R)
 (hG:∀ n v,R[n]? = some v→∃ xs,w.ownsRow B 88 5 v (L n) xs) (hA:∀ (i j:Nat) (u v:Value),i ≠ j→R[i]? = some u→R[j]? = some v→Culp.Apart u v) (hM:R.length≤300) (hL:∀ n,L n≤1000000) (hP:Pw w) (hpB:1 < B) :
 Calls Tryz.prog 58 #[.pointer (some ⟨gb,0,none⟩)] w (fun e w'=>e=.returned (.bool true)∧Below B w w'∧BagS.Stays 88 w w'):=by
 have HL:=Lib.hid hL
 have HPW:=Lib.hid (fun wx (hb:Below B w wx)=>hP.later hb hpB)
 have HA:=Lib.hid hA
 have HC:=Lib.hid hc4
 have HBG:=Lib.hid hBI
 have HP0:=Lib.hid (BagS.Ph1.start (mk:=mkMd) (sz:=5) hG)
 have HV0:=Lib.hid hbv
 have HS0:=Lib.hid (BagS.Stays.refl 88 w)
 obtain ⟨A0,cb,rfl,_,hA0⟩:=own_form hbv
 have HA0:=Lib.hid hA0
 clear hG hA hL hbv hA0 hBI hc4 hP hpB
 go_enter Tryz.func58,Tryz.ntmps58
 go_wp2_with fail
 go_loopw [3] (fun i wr=>∃ n:Nat,n≤R.length∧i=.int .i64 n∧Hid (BagS.Ph1 88 5 B R L mkMd n 0 wr)∧Hid (Below B w wr)∧Hid (BagS.Stays 88 w wr)) (fun i _=>R.length - (intOf i).toNat)
 case atStart=>exact ⟨0,Nat.zero_le _,rfl,HP0,Lib.hid (Below.refl _ _),HS0⟩
 case round =>
  clear HP0
  obtain ⟨n,hn,rfl,HP,HB,HST⟩:=hrel
  have c1:=(HBG.out.stays HST.out (by decide)).cell HC.out
  by_cases hlt:n < R.length
  · obtain ⟨v,hv⟩:∃ v,R[n]? = some v:=⟨_,List.getElem?_eq_getElem hlt⟩
    have HVN:=Lib.hid hv
    obtain ⟨rb,rfl,hrb,_⟩:=HA0.out (by omega)
    obtain ⟨Av,cv,rfl⟩:=HP.out.form hv
    have r0:=(own_get (HST.out.own HV0.out (by decide)) hv).1
    clear hv
    go_wp2_with fail
    go_loopw [4] (fun i wr=>∃ k:Nat,k≤L n∧i=.int .i64 k∧Hid (BagS.Ph1 88 5 B R L mkMd n k wr)∧Hid (Below B w wr)∧Hid (BagS.Stays 88 w wr)) (fun i _=>L n - (intOf i).toNat)
    case atStart=>exact ⟨0,Nat.zero_le _,rfl,HP,HB,HST⟩
    case round =>
     clear HP HB HST c1 r0
     obtain ⟨k,hk,rfl,HP,HB,HST⟩:=hrel
     have c1:=(HBG.out.stays HST.out (by decide)).cell HC.out
     have r0:=(own_get (HST.out.own HV0.out (by decide)) HVN.out).1
     have hLn:=HL.out n
     by_cases hkl:k < L n
     · obtain ⟨xs1,hx1,_⟩:=HP.out n _ HVN.out
       obtain ⟨g,_,_,e0,_⟩:=BagS.own_block hx1 (by omega)
       simp only [Value.slice.injEq] at e0
       obtain ⟨rfl,_,rfl⟩:=e0
       have HPd:Hid (BagS.Ph1 88 5 B R L mkMd n k wr.drew):=Lib.hid HP.out
       have HBd:=Lib.hid HB.out.drew
       have HSd:Hid (BagS.Stays 88 w wr.drew):=Lib.hid HST.out
       clear hx1 HP HB HST
       go_wp2_with fail
       refine wp_region_plan (S:=fun w'=>w'.cell? ⟨gb,14,none⟩=some (.slice (some ⟨rb,0,none⟩) R.length cb)∧w'.cell? ⟨rb,n,none⟩=some (.slice (some ⟨g,0,none⟩) (L n) cv))
        [(0,true),(1,true),(2,true),(3,true),(4,true),(5,true),(6,true),(7,true),(8,true),(9,true),(10,false),(11,true),(12,true),(13,false)] (by kernel_rfl) (by kernel_rfl) (by kernel_rfl) (fun _ _ _ _ _ h=>h) ⟨c1,r0⟩ ?_
       intro HS
       repeat ((first | (apply wpPlan_look;rfl;rfl;(intro wq hq;(try dsimp only at hq);go_split_ands;go_simp;(try rw [if_neg (by omega)]);(try rw [if_pos (by omega)]);try with_reducible rfl)) | (apply wpPlan_skip;rfl;rfl) | (apply wpPlan_pass;rfl;rfl;assumption));simp only [Act.put,List.setIfInBounds_toArray,List.set_cons_zero,List.set_cons_succ])
       apply wpPlan_call;rfl;rfl;rfl;rfl;kernel_rfl;exact btext_any n k (by omega) (by omega) _ (HPW.out _ HBd.out);rfl;rintro e w1 ⟨rfl,hb1⟩
       refine ⟨_,rfl,as_S ⟨cell_later hb1 c1,cell_later hb1 r0⟩ ?_⟩
       intro _
       simp only [Act.put,List.setIfInBounds_toArray,List.set_cons_zero,List.set_cons_succ]
       repeat ((first | (apply wpPlan_look;rfl;rfl;(intro wq hq;(try dsimp only at hq);go_split_ands;go_simp;(try rw [if_neg (by omega)]);(try rw [if_pos (by omega)]);try with_reducible rfl)) | (apply wpPlan_skip;rfl;rfl) | (apply wpPlan_pass;rfl;rfl;assumption));simp only [Act.put,List.setIfInBounds_toArray,List.set_cons_zero,List.set_cons_succ])
       replace HPd:=Lib.hid (HPd.out.later hb1)
       replace HBd:Hid (Below B w w1):=Lib.hid (HBd.out.trans (hb1.mono (Nat.le_trans hBw HBd.out.size)))
       replace HSd:=Lib.hid (HSd.out.below hb1)
       clear c1 r0 HS hb1
       obtain ⟨hP2,hth,hBg,⟨cur,hcur⟩,_⟩:=HPd.out.store mkMd_len HA.out HVN.out hkl
       have HP2:=Lib.hid hP2
       have hst:BagS.Stays 88 w (w1.setCells g (k*5) (mkMd n k)):=HSd.out.keep hcur (BagS.setCells_keep g _ _ _)
       have HST2:=Lib.hid hst
       have HB2:Hid (Below B w (w1.setCells g (k*5) (mkMd n k))):=Lib.hid (BagS.below_cells hBg (mkMd n k) (k*5) w1 HBd.out)
       have c2:=(HBG.out.stays hst (by decide)).cell HC.out
       have r2:=(own_get (hst.own HV0.out (by decide)) HVN.out).1
       refine wpPlan_run0 (w':=w1.setCells g (k*5) (mkMd n k)) rfl rfl (exec_store_at rfl rfl rfl (mkMd_store w1 g (k*5) n k hth)) _ (fun _ h=>h) ⟨c2,r2⟩ ?_
       simp only [Act.put,List.setIfInBounds_toArray,List.set_cons_zero,List.set_cons_succ]
       apply wpPlan_done
       clear HPd HBd HSd hP2 hth hcur hst c2 r2
       generalize w1.setCells g (k*5) (mkMd n k)=w2 at *
       go_wp2_with fail
       go_roundw
       case rel=>exact ⟨k+1,by omega,by go_num,HP2,HB2,HST2⟩
       case measure=>simp [intOf];omega
     · have hkl2:k=L n:=by omega
       have HP2:=Lib.hid (BagS.Ph1.next (by have:=HP.out;rw [hkl2] at this;exact this))
       clear HP hkl2
       go_wp2_with fail
       go_roundw
       case rel=>exact ⟨n+1,by omega,by go_num,HP2,HB,HST⟩
       case measure=>simp [intOf];omega
  · obtain rfl:n=R.length:=by omega
    have HQ:=Lib.hid (BagS.Ph2.start (W:=w.heap.size) (se:=22) HP.out (HST.out.own HV0.out (by decide)))
    clear HP
    go_wp2_with fail
    clear c1
    go_loopw [5,6,7] (fun ov mv i wr=>∃ (n:Nat) (o m:Value) (Us Vs:List Value),o=ov∧m=mv∧n≤R.length∧i=.int .i64 n∧Hid (BagS.Ph2 88 22 5 B w.heap.size R L mkMd (.slice A0 R.length cb) n o m Us Vs wr)∧Hid (Below B w wr)∧Hid (BagS.Stays 88 w wr)) (fun _ _ i _=>R.length - (intOf i).toNat)
    case atStart=>exact ⟨0,_,_,[],[],rfl,rfl,Nat.zero_le _,rfl,HQ,HB,HST⟩
    case round =>
     clear HQ HB HST
     obtain ⟨n,o,m,Us,Vs,rfl,rfl,hn,rfl,HQ,HB,HST⟩:=hrel
     have c1:=(HBG.out.stays HST.out (by decide)).cell HC.out
     by_cases hlt:n < R.length
     · obtain ⟨v,hv⟩:∃ v,R[n]? = some v:=⟨_,List.getElem?_eq_getElem hlt⟩
       have HVN:=Lib.hid hv
       obtain ⟨rb,rfl,hrb,_⟩:=HA0.out (by omega)
       obtain ⟨Av,cv,rfl⟩:=own_shape (HQ.out.row n v hv)
       have r0:=(own_get HQ.out.hbag hv).1
       have HI0:=Lib.hid (BagS.In.start HQ.out HA.out hv)
       have hLn:=HL.out n
       clear hv HQ
       go_wp2_with fail
       go_loopw [5,8,9] (fun ov lv i wr=>∃ (t p:Nat) (o l:Value) (Us:List Value),o=ov∧l=lv∧t≤70∧L n≤p∧p≤L n+70∧i=.int .i64 p∧Hid (p=L n+t)∧Hid (BagS.In 88 22 5 B w.heap.size R L mkMd (.slice (some ⟨rb,0,none⟩) R.length cb) n t l o m Us Vs wr)∧Hid (Below B w wr)∧Hid (BagS.Stays 88 w wr)) (fun _ _ i _=>L n+70 - (intOf i).toNat)
       case atStart=>exact ⟨0,L n,_,_,Us,rfl,rfl,by omega,Nat.le_refl _,by omega,rfl,Lib.hid rfl,HI0,HB,HST⟩
       case round =>
        clear HI0 HB HST c1 r0
        obtain ⟨t,p,o,l,Us,rfl,rfl,ht,hp0,hp1,rfl,HPT,HI,HB,HST⟩:=hrel
        have c1:=(HBG.out.stays HST.out (by decide)).cell HC.out
        have r0:=(own_get HI.out.hbag HVN.out).1
        have hpt:=HPT.out
        by_cases hkl:t < 70
        · have hpl:p < L n+70:=by omega
          have own4:wr.ownsRow B 88 5 l p (BagS.marks mkMd n p):=by rw [HPT.out];exact HI.out.own
          have hbb:=fun w=>mkMd_build w (.string (txt n p)) rfl
          clear hpt
          go_wp2_with fail
          refine (btext_any n p (by omega) (by omega) _ (HPW.out _ HB.out)).mono ?_
          rintro e w1 ⟨rfl,hb1⟩
          replace HI:=Lib.hid (HI.out.later hb1)
          replace HB:Hid (Below B w w1):=Lib.hid (HB.out.trans (hb1.mono (Nat.le_trans hBw HB.out.size)))
          replace HST:=Lib.hid (HST.out.below hb1)
          replace own4:=own_later own4 hb1
          clear hb1
          clear c1 r0
          go_wp2_with (at_builtin;refine append_held rfl (.tmp 79) (.tmp 84) 22 88 rfl B _ 5 80 Tryz.underlying22 bmod_info rfl (by decide) _ _ _ rfl own4 [.string (txt n p),.slice none 0 0,.slice none 0 0,.int .i64 0,.int .i64 0] rfl w1.heap.size rfl rfl ?_ ?_ ?_ ?_ ?_)
          · intro y hy;simp only [List.mem_cons,List.not_mem_nil,or_false] at hy;rcases hy with rfl | rfl | rfl | rfl | rfl<;>rfl
          · omega
          · omega
          · have:=HB.out.size;omega
          intro v' w5 a1 a2 a3 a4 a5
          have HG:Hid (BagS.Grew B 88 5 w1 w5 l v' (L n+t) (BagS.marks mkMd n (L n+t)) (mkMd n (L n+t))):=Lib.hid (by rw [←HPT.out];exact ⟨a1,a2,a3,a4,a5⟩)
          have HB5:=Lib.hid (HB.out.trans a3)
          have HST5:=Lib.hid (HST.out.grown own4 a2)
          obtain ⟨A5,c5,rfl⟩:=own_shape a1
          have c1:=(HBG.out.stays HST5.out (by decide)).cell HC.out
          have r0:=(own_get (own_other HI.out.hbag a2 (own_apart_type own4 HI.out.hbag (by decide))) HVN.out).1
          have ownO:=own_other HI.out.hone a2 (own_apart_type own4 HI.out.hone (by decide))
          clear a1 a2 a3 a4 a5 own4 hbb
          by_cases ht0:t=0
          · have hpe:p=L n:=by have:=HPT.out;omega
            have e1:(((p:Nat):Int)==((L n:Nat):Int))=true:=int_eq' hpe
            have HUn:Hid (Us.length=n):=Lib.hid (by have:=HI.out.lu;rw [ht0] at this;exact this)
            have hUn:=HUn.out
            clear hpe
            go_wp2_with (at_builtin;refine append_held rfl (.tmp 96) (.tmp 98) 58 22 rfl w.heap.size _ 1 24 Tryz.underlying58 bmods_info rfl (by decide) _ _ _ rfl ownO [.slice A5 (p+1) c5] rfl w5.heap.size rfl rfl ?_ ?_ ?_ ?_ ?_)
            · intro y hy;simp only [List.mem_cons,List.not_mem_nil,or_false] at hy;subst hy;rfl
            · omega
            · omega
            · exact HB5.out.size
            intro o' w6 a1 a2 a3 a4 a5
            have HI6:Hid (BagS.In 88 22 5 B w.heap.size R L mkMd (.slice (some ⟨rb,0,none⟩) R.length cb) n (t+1) (.slice A5 (p+1) c5) o' m (Us++[.slice A5 (p+1) c5]) Vs w6):=Lib.hid (by
             have hI:=HI.out
             have hG:=HG.out
             subst ht0
             exact BagS.In.first (by decide) mkMd_len hI hG (one':=o') ⟨a1,a2,a3,a4,by simpa only [Nat.mul_one] using a5⟩ hBw)
            have HB6:=Lib.hid (HB5.out.trans (Below.mono a3 hBw))
            have HST6:=Lib.hid (HST5.out.grown_new ownO a2)
            clear a1 a2 a3 a4 a5 HI HG HB5 HB HST5 HST c1 r0 ownO
            go_wp2_with fail
            go_roundw
            case rel=>exact ⟨t+1,p+1,o',_,_,rfl,rfl,by omega,by omega,by omega,by go_num,Lib.hid (by rw [HPT.out];omega),HI6,HB6,HST6⟩
            case measure=>simp [intOf];omega
          · have e1:(((p:Nat):Int)==((L n:Nat):Int))=false:=beq_no (by have:=HPT.out;omega)
            have HI6:=Lib.hid (BagS.In.push (by decide) mkMd_len HI.out (fun h=>absurd h ht0) HA.out HG.out (by omega))
            clear HI HG HB HST ownO
            go_wp2_with fail
            go_roundw
            case rel=>exact ⟨t+1,p+1,o,_,Us,rfl,rfl,by omega,by omega,by omega,by go_num,Lib.hid (by rw [HPT.out];omega),HI6,HB5,HST5⟩
            case measure=>simp [intOf];omega
        · have ht70:t=70:=by omega
          have hpe:p=L n+70:=by omega
          have HI70:Hid (BagS.In 88 22 5 B w.heap.size R L mkMd (.slice (some ⟨rb,0,none⟩) R.length cb) n 70 l o m Us Vs wr):=Lib.hid (by have:=HI.out;rw [ht70] at this;exact this)
          have ownM:=HI.out.hmore
          have own7:=HI70.out.own
          rw [←hpe] at own7
          obtain ⟨A5,c5,rfl⟩:=own_shape own7
          have hnp:¬ p < L n+70:=by omega
          clear hpt hpe HI ht70 HPT own7
          go_wp2_with (at_builtin;refine append_held rfl (.tmp 100) (.tmp 102) 58 22 rfl w.heap.size _ 1 24 Tryz.underlying58 bmods_info rfl (by decide) _ _ _ rfl ownM [.slice A5 p c5] rfl wr.heap.size rfl rfl ?_ ?_ ?_ ?_ ?_)
          · intro y hy;simp only [List.mem_cons,List.not_mem_nil,or_false] at hy;subst hy;rfl
          · omega
          · omega
          · exact HB.out.size
          intro m' w6 a1 a2 a3 a4 a5
          have HQ6:=Lib.hid (BagS.In.done (by decide) HI70.out ⟨a1,a2,a3,a4,by simpa only [Nat.mul_one] using a5⟩)
          have HB6:=Lib.hid (HB.out.trans (Below.mono a3 hBw))
          have HST6:=Lib.hid (HST.out.grown_new ownM a2)
          clear a1 a2 a3 a4 a5 HI70 HB HST c1 r0 ownM
          go_wp2_with fail
          go_roundw
          case rel=>exact ⟨n+1,_,m',Us,_,rfl,rfl,by omega,by go_num,HQ6,HB6,HST6⟩
          case measure=>simp [intOf];omega
     · obtain rfl:n=R.length:=by omega
       obtain ⟨Am,cm,rfl⟩:=own_shape HQ.out.hmore
       obtain ⟨Ao,co,rfl⟩:=own_shape HQ.out.hone
       go_wp2_with fail
       clear c1
       go_loopw [10] (fun i wr=>∃ n:Nat,n≤R.length∧i=.int .i64 n∧Hid (BagS.Ph2 88 22 5 B w.heap.size R L mkMd (.slice A0 R.length cb) R.length (.slice Ao R.length co) (.slice Am R.length cm) Us Vs wr)∧Hid (Below B w wr)∧Hid (BagS.Stays 88 w wr)) (fun i _=>R.length - (intOf i).toNat)
       case atStart=>exact ⟨0,Nat.zero_le _,rfl,HQ,HB,HST⟩
       case round =>
        clear HQ HB HST
        obtain ⟨n,hn,rfl,HQ,HB,HST⟩:=hrel
        by_cases hlt:n < R.length
        · have hv0:∃ v,R[n]? = some v:=⟨_,List.getElem?_eq_getElem hlt⟩
          obtain ⟨v,hv⟩:=hv0
          have hu0:∃ u,Us[n]? = some u:=⟨_,List.getElem?_eq_getElem (by rw [HQ.out.lu];exact hlt)⟩
          have hx0:∃ u,Vs[n]? = some u:=⟨_,List.getElem?_eq_getElem (by rw [HQ.out.lv];exact hlt)⟩
          obtain ⟨u,hu⟩:=hu0
          obtain ⟨x,hx⟩:=hx0
          have hLn:=HL.out n
          obtain ⟨rb,rfl,hrb,-⟩:=HA0.out (by omega)
          obtain ⟨_,_,e1,-⟩:=own_read HQ.out.hmore (by omega)
          obtain ⟨_,_,e2,-⟩:=own_read HQ.out.hone (by omega)
          simp only [Value.slice.injEq] at e1 e2
          obtain ⟨rfl,_,rfl⟩:=e1
          obtain ⟨rfl,_,rfl⟩:=e2
          obtain ⟨Av,cv,rfl⟩:=own_shape (HQ.out.row n v hv)
          obtain ⟨gu,cu,_,rfl,-⟩:=BagS.own_block (HQ.out.us n u hu).1 (by omega)
          obtain ⟨gx,cx,_,rfl,-⟩:=BagS.own_block (HQ.out.vs n x hx).1 (by omega)
          have HV:=Lib.hid hv
          have HU:=Lib.hid hu
          have HX:=Lib.hid hx
          have m0:=(own_get HQ.out.hmore hx).1
          clear hv hu hx
          go_wp2_with fail
          clear m0
          go_loopw [11] (fun i wr=>∃ k:Nat,k≤L n+70∧i=.int .i64 k∧Hid (BagS.Ph2 88 22 5 B w.heap.size R L mkMd (.slice (some ⟨rb,0,none⟩) R.length cb) R.length (.slice _ R.length co) (.slice _ R.length cm) Us Vs wr)∧Hid (Below B w wr)∧Hid (BagS.Stays 88 w wr)) (fun i _=>L n+70 - (intOf i).toNat)
          case atStart=>exact ⟨0,Nat.zero_le _,rfl,HQ,HB,HST⟩
          case round =>
           clear HQ HB HST
           obtain ⟨k,hk,rfl,HQ,HB,HST⟩:=hrel
           have m0:=(own_get HQ.out.hmore HX.out).1
           by_cases hkl:k < L n+70
           · have hb0:Below wr.heap.size wr (wr.alloc (.cells #[.string (txt n k),.slice none 0 0,.slice none 0 0,.int .i64 0,.int .i64 0] 88)):=(Below.refl _ _).alloc (Nat.le_refl _) _
             have HBX:Hid ((wr.alloc (.cells #[.string (txt n k),.slice none 0 0,.slice none 0 0,.int .i64 0,.int .i64 0] 88)).heap[wr.heap.size]? = some (.cells #[.string (txt n k),.slice none 0 0,.slice none 0 0,.int .i64 0,.int .i64 0] 88 (0,0))):=Lib.hid (MapKept.heap_alloc wr _).1
             have HQ1:=Lib.hid (HQ.out.later hb0)
             have HB1:Hid (Below B w (wr.alloc (.cells #[.string (txt n k),.slice none 0 0,.slice none 0 0,.int .i64 0,.int .i64 0] 88))):=Lib.hid (HB.out.trans (hb0.mono (Nat.le_trans hBw HB.out.size)))
             have HST1:=Lib.hid (HST.out.below hb0)
             have y0:wr.cell? ⟨gx,k*5,none⟩=some (.string (txt n k)):=BagS.own_mark (mk:=mkMd) mkMd_len (HQ.out.vs n _ HX.out).1 hkl (i:=0) rfl
             have y1:wr.cell? ⟨gx,k*5+1,none⟩=some (.slice none 0 0):=BagS.own_mark (mk:=mkMd) mkMd_len (HQ.out.vs n _ HX.out).1 hkl (i:=1) rfl
             have y2:wr.cell? ⟨gx,k*5+2,none⟩=some (.slice none 0 0):=BagS.own_mark (mk:=mkMd) mkMd_len (HQ.out.vs n _ HX.out).1 hkl (i:=2) rfl
             have y3:wr.cell? ⟨gx,k*5+3,none⟩=some (.int .i64 0):=BagS.own_mark (mk:=mkMd) mkMd_len (HQ.out.vs n _ HX.out).1 hkl (i:=3) rfl
             have y4:wr.cell? ⟨gx,k*5+4,none⟩=some (.int .i64 0):=BagS.own_mark (mk:=mkMd) mkMd_len (HQ.out.vs n _ HX.out).1 hkl (i:=4) rfl
             have d1:=(HBG.out.stays HST1.out (by decide)).cell HC.out
             have q0:=(own_get HQ1.out.hbag HV.out).1
             have q1:=(own_get HQ1.out.hmore HX.out).1
             have q2:=(own_get HQ1.out.hone HU.out).1
             have e5:((k:Nat):Int) < ((L n:Nat):Int)+70:=by omega
             clear hb0
             by_cases hk1:k < L n
             · obtain ⟨gv,_,_,e3,-⟩:=BagS.own_block (HQ.out.row n _ HV.out) (by omega)
               simp only [Value.slice.injEq] at e3
               obtain ⟨rfl,_,rfl⟩:=e3
               have v0:(wr.alloc (.cells #[.string (txt n k),.slice none 0 0,.slice none 0 0,.int .i64 0,.int .i64 0] 88)).cell? ⟨gv,k*5,none⟩=some (.string (txt n k)):=BagS.own_mark (mk:=mkMd) mkMd_len (HQ1.out.row n _ HV.out) hk1 (i:=0) rfl
               have v1:(wr.alloc (.cells #[.string (txt n k),.slice none 0 0,.slice none 0 0,.int .i64 0,.int .i64 0] 88)).cell? ⟨gv,k*5+1,none⟩=some (.slice none 0 0):=BagS.own_mark (mk:=mkMd) mkMd_len (HQ1.out.row n _ HV.out) hk1 (i:=1) rfl
               have v2:(wr.alloc (.cells #[.string (txt n k),.slice none 0 0,.slice none 0 0,.int .i64 0,.int .i64 0] 88)).cell? ⟨gv,k*5+2,none⟩=some (.slice none 0 0):=BagS.own_mark (mk:=mkMd) mkMd_len (HQ1.out.row n _ HV.out) hk1 (i:=2) rfl
               have v3:(wr.alloc (.cells #[.string (txt n k),.slice none 0 0,.slice none 0 0,.int .i64 0,.int .i64 0] 88)).cell? ⟨gv,k*5+3,none⟩=some (.int .i64 0):=BagS.own_mark (mk:=mkMd) mkMd_len (HQ1.out.row n _ HV.out) hk1 (i:=3) rfl
               have v4:(wr.alloc (.cells #[.string (txt n k),.slice none 0 0,.slice none 0 0,.int .i64 0,.int .i64 0] 88)).cell? ⟨gv,k*5+4,none⟩=some (.int .i64 0):=BagS.own_mark (mk:=mkMd) mkMd_len (HQ1.out.row n _ HV.out) hk1 (i:=4) rfl
               have e6:((k:Nat):Int) < ((L n:Nat):Int):=by omega
               have e4:(((k:Nat):Int)==((L n:Nat):Int))=false:=beq_no (by omega)
               go_wp2_with fail
               have z0:(wr.alloc (.cells #[.string (txt n k),.slice none 0 0,.slice none 0 0,.int .i64 0,.int .i64 0] 88)).cell? ⟨wr.heap.size,0,none⟩=some (.string (txt n k)):=cell_in HBX.out (i:=0) rfl
               have z1:(wr.alloc (.cells #[.string (txt n k),.slice none 0 0,.slice none 0 0,.int .i64 0,.int .i64 0] 88)).cell? ⟨wr.heap.size,1,none⟩=some (.slice none 0 0):=cell_in HBX.out (i:=1) rfl
               have z2:(wr.alloc (.cells #[.string (txt n k),.slice none 0 0,.slice none 0 0,.int .i64 0,.int .i64 0] 88)).cell? ⟨wr.heap.size,2,none⟩=some (.slice none 0 0):=cell_in HBX.out (i:=2) rfl
               have z3:(wr.alloc (.cells #[.string (txt n k),.slice none 0 0,.slice none 0 0,.int .i64 0,.int .i64 0] 88)).cell? ⟨wr.heap.size,3,none⟩=some (.int .i64 0):=cell_in HBX.out (i:=3) rfl
               have z4:(wr.alloc (.cells #[.string (txt n k),.slice none 0 0,.slice none 0 0,.int .i64 0,.int .i64 0] 88)).cell? ⟨wr.heap.size,4,none⟩=some (.int .i64 0):=cell_in HBX.out (i:=4) rfl
               have HB1d:Hid (Below B w (wr.alloc (.cells #[.string (txt n k),.slice none 0 0,.slice none 0 0,.int .i64 0,.int .i64 0] 88)).drew):=Lib.hid HB1.out.drew
               refine wp_region_plan (S:=fun w'=>w'.cell? ⟨wr.heap.size,0,none⟩=some (.string (txt n k))∧w'.cell? ⟨wr.heap.size,1,none⟩=some (.slice none 0 0)∧w'.cell? ⟨wr.heap.size,2,none⟩=some (.slice none 0 0)∧w'.cell? ⟨wr.heap.size,3,none⟩=some (.int .i64 0)∧w'.cell? ⟨wr.heap.size,4,none⟩=some (.int .i64 0)) [(0,true),(1,true),(2,true),(3,true),(4,false),(5,true),(6,true),(7,true),(8,true),(9,true),(10,true),(11,true),(12,true),(13,true),(14,true),(15,true),(16,true),(17,true),(18,true)] (by kernel_rfl) (by kernel_rfl) (by kernel_rfl) (fun _ _ _ _ _ h=>h) ⟨z0,z1,z2,z3,z4⟩ ?_
               intro HS
               repeat ((first | (apply wpPlan_look;rfl;rfl;(intro wq hq;(try dsimp only at hq);go_split_ands;go_simp;(try rw [if_neg (by omega)]);(try rw [if_pos (by omega)]);try with_reducible rfl)) | (apply wpPlan_skip;rfl;rfl) | (apply wpPlan_pass;rfl;rfl;assumption));simp only [Act.put,List.setIfInBounds_toArray,List.set_cons_zero,List.set_cons_succ])
               apply wpPlan_call;rfl;rfl;rfl;rfl;kernel_rfl;exact btext_any n k (by omega) (by omega) _ (HPW.out _ HB1d.out);rfl;rintro e wa ⟨rfl,hba⟩
               refine ⟨_,rfl,as_S ⟨cell_later hba HS.1,cell_later hba HS.2.1,cell_later hba HS.2.2.1,cell_later hba HS.2.2.2.1,cell_later hba HS.2.2.2.2⟩ ?_⟩
               intro HS2
               simp only [Act.put,List.setIfInBounds_toArray,List.set_cons_zero,List.set_cons_succ]
               repeat ((first | (apply wpPlan_look;rfl;rfl;(intro wq hq;(try dsimp only at hq);go_split_ands;go_simp;(try rw [if_neg (by omega)]);(try rw [if_pos (by omega)]);try with_reducible rfl)) | (apply wpPlan_skip;rfl;rfl) | (apply wpPlan_pass;rfl;rfl;assumption));simp only [Act.put,List.setIfInBounds_toArray,List.set_cons_zero,List.set_cons_succ])
               apply wpPlan_done
               have hb2:Below wr.heap.size wr wa:=below_later hba (((Below.refl _ _).alloc (Nat.le_refl _) _).drew)
               have HBY:Hid (wa.heap[wr.heap.size]? = some (.cells #[.string (txt n k),.slice none 0 0,.slice none 0 0,.int .i64 0,.int .i64 0] 88 (0,0))):=Lib.hid ((hba.block _ (by show wr.heap.size < (wr.alloc _).heap.size;rw [World.size_alloc];omega)).trans (MapKept.heap_alloc wr _).1)
               have HB2d:Hid (Below B w wa.drew):=Lib.hid ((HB.out.trans (hb2.mono (Nat.le_trans hBw HB.out.size))).drew)
               have HB2L:=Lib.hid hb2
               have m1:=cell_later hb2 m0
               have s0:=cell_later hb2 y0
               have s1:=cell_later hb2 y1
               have s2:=cell_later hb2 y2
               have s3:=cell_later hb2 y3
               have s4:=cell_later hb2 y4
               clear HS HS2 hb2 hba m0 d1 q0 q1 q2 y0 z0 y1 z1 y2 z2 y3 z3 y4 z4 v0 v1 v2 v3 v4 e4 e6
               have z0:wa.cell? ⟨wr.heap.size,0,none⟩=some (.string (txt n k)):=cell_in HBY.out (i:=0) rfl
               have z1:wa.cell? ⟨wr.heap.size,1,none⟩=some (.slice none 0 0):=cell_in HBY.out (i:=1) rfl
               have z2:wa.cell? ⟨wr.heap.size,2,none⟩=some (.slice none 0 0):=cell_in HBY.out (i:=2) rfl
               have z3:wa.cell? ⟨wr.heap.size,3,none⟩=some (.int .i64 0):=cell_in HBY.out (i:=3) rfl
               have z4:wa.cell? ⟨wr.heap.size,4,none⟩=some (.int .i64 0):=cell_in HBY.out (i:=4) rfl
               have f0:wa.frozen? ⟨wr.heap.size,0,none⟩=false:=by simp [World.frozen?,HBY.out]
               have f1:wa.frozen? ⟨wr.heap.size,1,none⟩=false:=by simp [World.frozen?,HBY.out]
               have f2:wa.frozen? ⟨wr.heap.size,2,none⟩=false:=by simp [World.frozen?,HBY.out]
               have f3:wa.frozen? ⟨wr.heap.size,3,none⟩=false:=by simp [World.frozen?,HBY.out]
               have f4:wa.frozen? ⟨wr.heap.size,4,none⟩=false:=by simp [World.frozen?,HBY.out]
               have w0:wa.setCell ⟨wr.heap.size,0,none⟩ (.string (txt n k))=wa:=set_self HBY.out (i:=0) rfl
               have w1:wa.setCell ⟨wr.heap.size,1,none⟩ (.slice none 0 0)=wa:=set_self HBY.out (i:=1) rfl
               have w2:wa.setCell ⟨wr.heap.size,2,none⟩ (.slice none 0 0)=wa:=set_self HBY.out (i:=2) rfl
               have w3:wa.setCell ⟨wr.heap.size,3,none⟩ (.int .i64 0)=wa:=set_self HBY.out (i:=3) rfl
               have w4:wa.setCell ⟨wr.heap.size,4,none⟩ (.int .i64 0)=wa:=set_self HBY.out (i:=4) rfl
               go_wp2_with fail
               clear f0 w0 f1 w1 f2 w2 f3 w3 f4 w4
               refine wp_region_plan (S:=fun w'=>w'.cell? ⟨wr.heap.size,0,none⟩=some (.string (txt n k))∧w'.cell? ⟨wr.heap.size,1,none⟩=some (.slice none 0 0)∧w'.cell? ⟨wr.heap.size,2,none⟩=some (.slice none 0 0)∧w'.cell? ⟨wr.heap.size,3,none⟩=some (.int .i64 0)∧w'.cell? ⟨wr.heap.size,4,none⟩=some (.int .i64 0)) [(0,true),(1,true),(2,true),(3,true),(4,true),(5,true),(6,true),(7,false),(8,true),(9,true),(10,true),(11,true),(12,true),(13,true),(14,true),(15,true),(16,true),(17,true),(18,true),(19,true),(20,true),(21,true),(22,true)] (by kernel_rfl) (by kernel_rfl) (by kernel_rfl) (fun _ _ _ _ _ h=>h) ⟨z0,z1,z2,z3,z4⟩ ?_
               intro HS
               repeat ((first | (apply wpPlan_look;rfl;rfl;(intro wq hq;(try dsimp only at hq);go_split_ands;go_simp;(try rw [if_neg (by omega)]);(try rw [if_pos (by omega)]);try with_reducible rfl)) | (apply wpPlan_skip;rfl;rfl) | (apply wpPlan_pass;rfl;rfl;assumption));simp only [Act.put,List.setIfInBounds_toArray,List.set_cons_zero,List.set_cons_succ])
               apply wpPlan_call;rfl;rfl;rfl;rfl;kernel_rfl;exact btext_any n k (by omega) (by omega) _ (HPW.out _ HB2d.out);rfl;rintro e wb ⟨rfl,hbb⟩
               refine ⟨_,rfl,as_S ⟨cell_later hbb HS.1,cell_later hbb HS.2.1,cell_later hbb HS.2.2.1,cell_later hbb HS.2.2.2.1,cell_later hbb HS.2.2.2.2⟩ ?_⟩
               intro HS2
               simp only [Act.put,List.setIfInBounds_toArray,List.set_cons_zero,List.set_cons_succ]
               repeat ((first | (apply wpPlan_look;rfl;rfl;(intro wq hq;(try dsimp only at hq);go_split_ands;go_simp;(try rw [if_neg (by omega)]);(try rw [if_pos (by omega)]);try with_reducible rfl)) | (apply wpPlan_skip;rfl;rfl) | (apply wpPlan_pass;rfl;rfl;assumption));simp only [Act.put,List.setIfInBounds_toArray,List.set_cons_zero,List.set_cons_succ])
               apply wpPlan_done
               have hb3:Below wr.heap.size wr wb:=below_later hbb HB2L.out.drew
               have HQ2:=Lib.hid (HQ.out.later hb3)
               have HB2:Hid (Below B w wb):=Lib.hid (HB.out.trans (hb3.mono (Nat.le_trans hBw HB.out.size)))
               have HST2:=Lib.hid (HST.out.below hb3)
               clear HS HS2 hb3 hbb m1 HQ HB HST HQ1 HB1 HST1 HBX HBY HB1d HB2d HB2L s0 z0 s1 z1 s2 z2 s3 z3 s4 z4
               go_wp2_with fail
               go_roundw
               case rel=>exact ⟨k+1,by omega,by go_num,HQ2,HB2,HST2⟩
               case measure=>simp [intOf];omega
             · by_cases hk2:k=L n
               · have e4:(((k:Nat):Int)==((L n:Nat):Int))=true:=int_eq' hk2
                 have u0:(wr.alloc (.cells #[.string (txt n k),.slice none 0 0,.slice none 0 0,.int .i64 0,.int .i64 0] 88)).cell? ⟨gu,k*5,none⟩=some (.string (txt n k)):=BagS.own_mark (mk:=mkMd) mkMd_len (HQ1.out.us n _ HU.out).1 (by omega) (i:=0) rfl
                 have u1:(wr.alloc (.cells #[.string (txt n k),.slice none 0 0,.slice none 0 0,.int .i64 0,.int .i64 0] 88)).cell? ⟨gu,k*5+1,none⟩=some (.slice none 0 0):=BagS.own_mark (mk:=mkMd) mkMd_len (HQ1.out.us n _ HU.out).1 (by omega) (i:=1) rfl
                 have u2:(wr.alloc (.cells #[.string (txt n k),.slice none 0 0,.slice none 0 0,.int .i64 0,.int .i64 0] 88)).cell? ⟨gu,k*5+2,none⟩=some (.slice none 0 0):=BagS.own_mark (mk:=mkMd) mkMd_len (HQ1.out.us n _ HU.out).1 (by omega) (i:=2) rfl
                 have u3:(wr.alloc (.cells #[.string (txt n k),.slice none 0 0,.slice none 0 0,.int .i64 0,.int .i64 0] 88)).cell? ⟨gu,k*5+3,none⟩=some (.int .i64 0):=BagS.own_mark (mk:=mkMd) mkMd_len (HQ1.out.us n _ HU.out).1 (by omega) (i:=3) rfl
                 have u4:(wr.alloc (.cells #[.string (txt n k),.slice none 0 0,.slice none 0 0,.int .i64 0,.int .i64 0] 88)).cell? ⟨gu,k*5+4,none⟩=some (.int .i64 0):=BagS.own_mark (mk:=mkMd) mkMd_len (HQ1.out.us n _ HU.out).1 (by omega) (i:=4) rfl
                 have hk3:k < L n+1:=by omega
                 have e6:¬ ((k:Nat):Int) < ((L n:Nat):Int):=by omega
                 clear hk2
                 go_wp2_with fail
                 have z0:(wr.alloc (.cells #[.string (txt n k),.slice none 0 0,.slice none 0 0,.int .i64 0,.int .i64 0] 88)).cell? ⟨wr.heap.size,0,none⟩=some (.string (txt n k)):=cell_in HBX.out (i:=0) rfl
                 have z1:(wr.alloc (.cells #[.string (txt n k),.slice none 0 0,.slice none 0 0,.int .i64 0,.int .i64 0] 88)).cell? ⟨wr.heap.size,1,none⟩=some (.slice none 0 0):=cell_in HBX.out (i:=1) rfl
                 have z2:(wr.alloc (.cells #[.string (txt n k),.slice none 0 0,.slice none 0 0,.int .i64 0,.int .i64 0] 88)).cell? ⟨wr.heap.size,2,none⟩=some (.slice none 0 0):=cell_in HBX.out (i:=2) rfl
                 have z3:(wr.alloc (.cells #[.string (txt n k),.slice none 0 0,.slice none 0 0,.int .i64 0,.int .i64 0] 88)).cell? ⟨wr.heap.size,3,none⟩=some (.int .i64 0):=cell_in HBX.out (i:=3) rfl
                 have z4:(wr.alloc (.cells #[.string (txt n k),.slice none 0 0,.slice none 0 0,.int .i64 0,.int .i64 0] 88)).cell? ⟨wr.heap.size,4,none⟩=some (.int .i64 0):=cell_in HBX.out (i:=4) rfl
                 have HB1d:Hid (Below B w (wr.alloc (.cells #[.string (txt n k),.slice none 0 0,.slice none 0 0,.int .i64 0,.int .i64 0] 88)).drew):=Lib.hid HB1.out.drew
                 refine wp_region_plan (S:=fun w'=>w'.cell? ⟨wr.heap.size,0,none⟩=some (.string (txt n k))∧w'.cell? ⟨wr.heap.size,1,none⟩=some (.slice none 0 0)∧w'.cell? ⟨wr.heap.size,2,none⟩=some (.slice none 0 0)∧w'.cell? ⟨wr.heap.size,3,none⟩=some (.int .i64 0)∧w'.cell? ⟨wr.heap.size,4,none⟩=some (.int .i64 0)) [(0,true),(1,true),(2,true),(3,true),(4,false),(5,true),(6,true),(7,true),(8,true),(9,true),(10,true),(11,true),(12,true),(13,true),(14,true),(15,true),(16,true),(17,true),(18,true)] (by kernel_rfl) (by kernel_rfl) (by kernel_rfl) (fun _ _ _ _ _ h=>h) ⟨z0,z1,z2,z3,z4⟩ ?_
                 intro HS
                 repeat ((first | (apply wpPlan_look;rfl;rfl;(intro wq hq;(try dsimp only at hq);go_split_ands;go_simp;(try rw [if_neg (by omega)]);(try rw [if_pos (by omega)]);try with_reducible rfl)) | (apply wpPlan_skip;rfl;rfl) | (apply wpPlan_pass;rfl;rfl;assumption));simp only [Act.put,List.setIfInBounds_toArray,List.set_cons_zero,List.set_cons_succ])
                 apply wpPlan_call;rfl;rfl;rfl;rfl;kernel_rfl;exact btext_any n k (by omega) (by omega) _ (HPW.out _ HB1d.out);rfl;rintro e wa ⟨rfl,hba⟩
                 refine ⟨_,rfl,as_S ⟨cell_later hba HS.1,cell_later hba HS.2.1,cell_later hba HS.2.2.1,cell_later hba HS.2.2.2.1,cell_later hba HS.2.2.2.2⟩ ?_⟩
                 intro HS2
                 simp only [Act.put,List.setIfInBounds_toArray,List.set_cons_zero,List.set_cons_succ]
                 repeat ((first | (apply wpPlan_look;rfl;rfl;(intro wq hq;(try dsimp only at hq);go_split_ands;go_simp;(try rw [if_neg (by omega)]);(try rw [if_pos (by omega)]);try with_reducible rfl)) | (apply wpPlan_skip;rfl;rfl) | (apply wpPlan_pass;rfl;rfl;assumption));simp only [Act.put,List.setIfInBounds_toArray,List.set_cons_zero,List.set_cons_succ])
                 apply wpPlan_done
                 have hb2:Below wr.heap.size wr wa:=below_later hba (((Below.refl _ _).alloc (Nat.le_refl _) _).drew)
                 have HBY:Hid (wa.heap[wr.heap.size]? = some (.cells #[.string (txt n k),.slice none 0 0,.slice none 0 0,.int .i64 0,.int .i64 0] 88 (0,0))):=Lib.hid ((hba.block _ (by show wr.heap.size < (wr.alloc _).heap.size;rw [World.size_alloc];omega)).trans (MapKept.heap_alloc wr _).1)
                 have HB2d:Hid (Below B w wa.drew):=Lib.hid ((HB.out.trans (hb2.mono (Nat.le_trans hBw HB.out.size))).drew)
                 have HB2L:=Lib.hid hb2
                 have m1:=cell_later hb2 m0
                 have s0:=cell_later hb2 y0
                 have s1:=cell_later hb2 y1
                 have s2:=cell_later hb2 y2
                 have s3:=cell_later hb2 y3
                 have s4:=cell_later hb2 y4
                 clear HS HS2 hb2 hba m0 d1 q0 q1 q2 y0 z0 y1 z1 y2 z2 y3 z3 y4 z4 u0 u1 u2 u3 u4 e4 e6 hk3
                 have z0:wa.cell? ⟨wr.heap.size,0,none⟩=some (.string (txt n k)):=cell_in HBY.out (i:=0) rfl
                 have z1:wa.cell? ⟨wr.heap.size,1,none⟩=some (.slice none 0 0):=cell_in HBY.out (i:=1) rfl
                 have z2:wa.cell? ⟨wr.heap.size,2,none⟩=some (.slice none 0 0):=cell_in HBY.out (i:=2) rfl
                 have z3:wa.cell? ⟨wr.heap.size,3,none⟩=some (.int .i64 0):=cell_in HBY.out (i:=3) rfl
                 have z4:wa.cell? ⟨wr.heap.size,4,none⟩=some (.int .i64 0):=cell_in HBY.out (i:=4) rfl
                 have f0:wa.frozen? ⟨wr.heap.size,0,none⟩=false:=by simp [World.frozen?,HBY.out]
                 have f1:wa.frozen? ⟨wr.heap.size,1,none⟩=false:=by simp [World.frozen?,HBY.out]
                 have f2:wa.frozen? ⟨wr.heap.size,2,none⟩=false:=by simp [World.frozen?,HBY.out]
                 have f3:wa.frozen? ⟨wr.heap.size,3,none⟩=false:=by simp [World.frozen?,HBY.out]
                 have f4:wa.frozen? ⟨wr.heap.size,4,none⟩=false:=by simp [World.frozen?,HBY.out]
                 have w0:wa.setCell ⟨wr.heap.size,0,none⟩ (.string (txt n k))=wa:=set_self HBY.out (i:=0) rfl
                 have w1:wa.setCell ⟨wr.heap.size,1,none⟩ (.slice none 0 0)=wa:=set_self HBY.out (i:=1) rfl
                 have w2:wa.setCell ⟨wr.heap.size,2,none⟩ (.slice none 0 0)=wa:=set_self HBY.out (i:=2) rfl
                 have w3:wa.setCell ⟨wr.heap.size,3,none⟩ (.int .i64 0)=wa:=set_self HBY.out (i:=3) rfl
                 have w4:wa.setCell ⟨wr.heap.size,4,none⟩ (.int .i64 0)=wa:=set_self HBY.out (i:=4) rfl
                 go_wp2_with fail
                 clear f0 w0 f1 w1 f2 w2 f3 w3 f4 w4
                 refine wp_region_plan (S:=fun w'=>w'.cell? ⟨wr.heap.size,0,none⟩=some (.string (txt n k))∧w'.cell? ⟨wr.heap.size,1,none⟩=some (.slice none 0 0)∧w'.cell? ⟨wr.heap.size,2,none⟩=some (.slice none 0 0)∧w'.cell? ⟨wr.heap.size,3,none⟩=some (.int .i64 0)∧w'.cell? ⟨wr.heap.size,4,none⟩=some (.int .i64 0)) [(0,true),(1,true),(2,true),(3,true),(4,true),(5,true),(6,true),(7,false),(8,true),(9,true),(10,true),(11,true),(12,true),(13,true),(14,true),(15,true),(16,true),(17,true),(18,true),(19,true),(20,true),(21,true),(22,true)] (by kernel_rfl) (by kernel_rfl) (by kernel_rfl) (fun _ _ _ _ _ h=>h) ⟨z0,z1,z2,z3,z4⟩ ?_
                 intro HS
                 repeat ((first | (apply wpPlan_look;rfl;rfl;(intro wq hq;(try dsimp only at hq);go_split_ands;go_simp;(try rw [if_neg (by omega)]);(try rw [if_pos (by omega)]);try with_reducible rfl)) | (apply wpPlan_skip;rfl;rfl) | (apply wpPlan_pass;rfl;rfl;assumption));simp only [Act.put,List.setIfInBounds_toArray,List.set_cons_zero,List.set_cons_succ])
                 apply wpPlan_call;rfl;rfl;rfl;rfl;kernel_rfl;exact btext_any n k (by omega) (by omega) _ (HPW.out _ HB2d.out);rfl;rintro e wb ⟨rfl,hbb⟩
                 refine ⟨_,rfl,as_S ⟨cell_later hbb HS.1,cell_later hbb HS.2.1,cell_later hbb HS.2.2.1,cell_later hbb HS.2.2.2.1,cell_later hbb HS.2.2.2.2⟩ ?_⟩
                 intro HS2
                 simp only [Act.put,List.setIfInBounds_toArray,List.set_cons_zero,List.set_cons_succ]
                 repeat ((first | (apply wpPlan_look;rfl;rfl;(intro wq hq;(try dsimp only at hq);go_split_ands;go_simp;(try rw [if_neg (by omega)]);(try rw [if_pos (by omega)]);try with_reducible rfl)) | (apply wpPlan_skip;rfl;rfl) | (apply wpPlan_pass;rfl;rfl;assumption));simp only [Act.put,List.setIfInBounds_toArray,List.set_cons_zero,List.set_cons_succ])
                 apply wpPlan_done
                 have hb3:Below wr.heap.size wr wb:=below_later hbb HB2L.out.drew
                 have HQ2:=Lib.hid (HQ.out.later hb3)
                 have HB2:Hid (Below B w wb):=Lib.hid (HB.out.trans (hb3.mono (Nat.le_trans hBw HB.out.size)))
                 have HST2:=Lib.hid (HST.out.below hb3)
                 clear HS HS2 hb3 hbb m1 HQ HB HST HQ1 HB1 HST1 HBX HBY HB1d HB2d HB2L s0 z0 s1 z1 s2 z2 s3 z3 s4 z4
                 go_wp2_with fail
                 go_roundw
                 case rel=>exact ⟨k+1,by omega,by go_num,HQ2,HB2,HST2⟩
                 case measure=>simp [intOf];omega
               · have e4:(((k:Nat):Int)==((L n:Nat):Int))=false:=beq_no (by omega)
                 have e6:¬ ((k:Nat):Int) < ((L n:Nat):Int):=by omega
                 clear hk2
                 go_wp2_with fail
                 have z0:(wr.alloc (.cells #[.string (txt n k),.slice none 0 0,.slice none 0 0,.int .i64 0,.int .i64 0] 88)).cell? ⟨wr.heap.size,0,none⟩=some (.string (txt n k)):=cell_in HBX.out (i:=0) rfl
                 have z1:(wr.alloc (.cells #[.string (txt n k),.slice none 0 0,.slice none 0 0,.int .i64 0,.int .i64 0] 88)).cell? ⟨wr.heap.size,1,none⟩=some (.slice none 0 0):=cell_in HBX.out (i:=1) rfl
                 have z2:(wr.alloc (.cells #[.string (txt n k),.slice none 0 0,.slice none 0 0,.int .i64 0,.int .i64 0] 88)).cell? ⟨wr.heap.size,2,none⟩=some (.slice none 0 0):=cell_in HBX.out (i:=2) rfl
                 have z3:(wr.alloc (.cells #[.string (txt n k),.slice none 0 0,.slice none 0 0,.int .i64 0,.int .i64 0] 88)).cell? ⟨wr.heap.size,3,none⟩=some (.int .i64 0):=cell_in HBX.out (i:=3) rfl
                 have z4:(wr.alloc (.cells #[.string (txt n k),.slice none 0 0,.slice none 0 0,.int .i64 0,.int .i64 0] 88)).cell? ⟨wr.heap.size,4,none⟩=some (.int .i64 0):=cell_in HBX.out (i:=4) rfl
                 have HB1d:Hid (Below B w (wr.alloc (.cells #[.string (txt n k),.slice none 0 0,.slice none 0 0,.int .i64 0,.int .i64 0] 88)).drew):=Lib.hid HB1.out.drew
                 refine wp_region_plan (S:=fun w'=>w'.cell? ⟨wr.heap.size,0,none⟩=some (.string (txt n k))∧w'.cell? ⟨wr.heap.size,1,none⟩=some (.slice none 0 0)∧w'.cell? ⟨wr.heap.size,2,none⟩=some (.slice none 0 0)∧w'.cell? ⟨wr.heap.size,3,none⟩=some (.int .i64 0)∧w'.cell? ⟨wr.heap.size,4,none⟩=some (.int .i64 0)) [(0,true),(1,true),(2,true),(3,true),(4,false),(5,true),(6,true),(7,true),(8,true),(9,true),(10,true),(11,true),(12,true),(13,true),(14,true),(15,true),(16,true),(17,true),(18,true)] (by kernel_rfl) (by kernel_rfl) (by kernel_rfl) (fun _ _ _ _ _ h=>h) ⟨z0,z1,z2,z3,z4⟩ ?_
                 intro HS
                 repeat ((first | (apply wpPlan_look;rfl;rfl;(intro wq hq;(try dsimp only at hq);go_split_ands;go_simp;(try rw [if_neg (by omega)]);(try rw [if_pos (by omega)]);try with_reducible rfl)) | (apply wpPlan_skip;rfl;rfl) | (apply wpPlan_pass;rfl;rfl;assumption));simp only [Act.put,List.setIfInBounds_toArray,List.set_cons_zero,List.set_cons_succ])
                 apply wpPlan_call;rfl;rfl;rfl;rfl;kernel_rfl;exact btext_any n k (by omega) (by omega) _ (HPW.out _ HB1d.out);rfl;rintro e wa ⟨rfl,hba⟩
                 refine ⟨_,rfl,as_S ⟨cell_later hba HS.1,cell_later hba HS.2.1,cell_later hba HS.2.2.1,cell_later hba HS.2.2.2.1,cell_later hba HS.2.2.2.2⟩ ?_⟩
                 intro HS2
                 simp only [Act.put,List.setIfInBounds_toArray,List.set_cons_zero,List.set_cons_succ]
                 repeat ((first | (apply wpPlan_look;rfl;rfl;(intro wq hq;(try dsimp only at hq);go_split_ands;go_simp;(try rw [if_neg (by omega)]);(try rw [if_pos (by omega)]);try with_reducible rfl)) | (apply wpPlan_skip;rfl;rfl) | (apply wpPlan_pass;rfl;rfl;assumption));simp only [Act.put,List.setIfInBounds_toArray,List.set_cons_zero,List.set_cons_succ])
                 apply wpPlan_done
                 have hb2:Below wr.heap.size wr wa:=below_later hba (((Below.refl _ _).alloc (Nat.le_refl _) _).drew)
                 have HBY:Hid (wa.heap[wr.heap.size]? = some (.cells #[.string (txt n k),.slice none 0 0,.slice none 0 0,.int .i64 0,.int .i64 0] 88 (0,0))):=Lib.hid ((hba.block _ (by show wr.heap.size < (wr.alloc _).heap.size;rw [World.size_alloc];omega)).trans (MapKept.heap_alloc wr _).1)
                 have HB2d:Hid (Below B w wa.drew):=Lib.hid ((HB.out.trans (hb2.mono (Nat.le_trans hBw HB.out.size))).drew)
                 have HB2L:=Lib.hid hb2
                 have m1:=cell_later hb2 m0
                 have s0:=cell_later hb2 y0
                 have s1:=cell_later hb2 y1
                 have s2:=cell_later hb2 y2
                 have s3:=cell_later hb2 y3
                 have s4:=cell_later hb2 y4
                 clear HS HS2 hb2 hba m0 d1 q0 q1 q2 y0 z0 y1 z1 y2 z2 y3 z3 y4 z4 e4 e6
                 have z0:wa.cell? ⟨wr.heap.size,0,none⟩=some (.string (txt n k)):=cell_in HBY.out (i:=0) rfl
                 have z1:wa.cell? ⟨wr.heap.size,1,none⟩=some (.slice none 0 0):=cell_in HBY.out (i:=1) rfl
                 have z2:wa.cell? ⟨wr.heap.size,2,none⟩=some (.slice none 0 0):=cell_in HBY.out (i:=2) rfl
                 have z3:wa.cell? ⟨wr.heap.size,3,none⟩=some (.int .i64 0):=cell_in HBY.out (i:=3) rfl
                 have z4:wa.cell? ⟨wr.heap.size,4,none⟩=some (.int .i64 0):=cell_in HBY.out (i:=4) rfl
                 have f0:wa.frozen? ⟨wr.heap.size,0,none⟩=false:=by simp [World.frozen?,HBY.out]
                 have f1:wa.frozen? ⟨wr.heap.size,1,none⟩=false:=by simp [World.frozen?,HBY.out]
                 have f2:wa.frozen? ⟨wr.heap.size,2,none⟩=false:=by simp [World.frozen?,HBY.out]
                 have f3:wa.frozen? ⟨wr.heap.size,3,none⟩=false:=by simp [World.frozen?,HBY.out]
                 have f4:wa.frozen? ⟨wr.heap.size,4,none⟩=false:=by simp [World.frozen?,HBY.out]
                 have w0:wa.setCell ⟨wr.heap.size,0,none⟩ (.string (txt n k))=wa:=set_self HBY.out (i:=0) rfl
                 have w1:wa.setCell ⟨wr.heap.size,1,none⟩ (.slice none 0 0)=wa:=set_self HBY.out (i:=1) rfl
                 have w2:wa.setCell ⟨wr.heap.size,2,none⟩ (.slice none 0 0)=wa:=set_self HBY.out (i:=2) rfl
                 have w3:wa.setCell ⟨wr.heap.size,3,none⟩ (.int .i64 0)=wa:=set_self HBY.out (i:=3) rfl
                 have w4:wa.setCell ⟨wr.heap.size,4,none⟩ (.int .i64 0)=wa:=set_self HBY.out (i:=4) rfl
                 go_wp2_with fail
                 clear f0 w0 f1 w1 f2 w2 f3 w3 f4 w4
                 refine wp_region_plan (S:=fun w'=>w'.cell? ⟨wr.heap.size,0,none⟩=some (.string (txt n k))∧w'.cell? ⟨wr.heap.size,1,none⟩=some (.slice none 0 0)∧w'.cell? ⟨wr.heap.size,2,none⟩=some (.slice none 0 0)∧w'.cell? ⟨wr.heap.size,3,none⟩=some (.int .i64 0)∧w'.cell? ⟨wr.heap.size,4,none⟩=some (.int .i64 0)) [(0,true),(1,true),(2,true),(3,true),(4,true),(5,true),(6,true),(7,false),(8,true),(9,true),(10,true),(11,true),(12,true),(13,true),(14,true),(15,true),(16,true),(17,true),(18,true),(19,true),(20,true),(21,true),(22,true)] (by kernel_rfl) (by kernel_rfl) (by kernel_rfl) (fun _ _ _ _ _ h=>h) ⟨z0,z1,z2,z3,z4⟩ ?_
                 intro HS
                 repeat ((first | (apply wpPlan_look;rfl;rfl;(intro wq hq;(try dsimp only at hq);go_split_ands;go_simp;(try rw [if_neg (by omega)]);(try rw [if_pos (by omega)]);try with_reducible rfl)) | (apply wpPlan_skip;rfl;rfl) | (apply wpPlan_pass;rfl;rfl;assumption));simp only [Act.put,List.setIfInBounds_toArray,List.set_cons_zero,List.set_cons_succ])
                 apply wpPlan_call;rfl;rfl;rfl;rfl;kernel_rfl;exact btext_any n k (by omega) (by omega) _ (HPW.out _ HB2d.out);rfl;rintro e wb ⟨rfl,hbb⟩
                 refine ⟨_,rfl,as_S ⟨cell_later hbb HS.1,cell_later hbb HS.2.1,cell_later hbb HS.2.2.1,cell_later hbb HS.2.2.2.1,cell_later hbb HS.2.2.2.2⟩ ?_⟩
                 intro HS2
                 simp only [Act.put,List.setIfInBounds_toArray,List.set_cons_zero,List.set_cons_succ]
                 repeat ((first | (apply wpPlan_look;rfl;rfl;(intro wq hq;(try dsimp only at hq);go_split_ands;go_simp;(try rw [if_neg (by omega)]);(try rw [if_pos (by omega)]);try with_reducible rfl)) | (apply wpPlan_skip;rfl;rfl) | (apply wpPlan_pass;rfl;rfl;assumption));simp only [Act.put,List.setIfInBounds_toArray,List.set_cons_zero,List.set_cons_succ])
                 apply wpPlan_done
                 have hb3:Below wr.heap.size wr wb:=below_later hbb HB2L.out.drew
                 have HQ2:=Lib.hid (HQ.out.later hb3)
                 have HB2:Hid (Below B w wb):=Lib.hid (HB.out.trans (hb3.mono (Nat.le_trans hBw HB.out.size)))
                 have HST2:=Lib.hid (HST.out.below hb3)
                 clear HS HS2 hb3 hbb m1 HQ HB HST HQ1 HB1 HST1 HBX HBY HB1d HB2d HB2L s0 z0 s1 z1 s2 z2 s3 z3 s4 z4
                 go_wp2_with fail
                 go_roundw
                 case rel=>exact ⟨k+1,by omega,by go_num,HQ2,HB2,HST2⟩
                 case measure=>simp [intOf];omega
           · go_wp2_with fail
             go_roundw
             case rel=>exact ⟨n+1,by omega,by go_num,HQ,HB,HST⟩
             case measure=>simp [intOf];omega
        · go_wp2_with fail
          go_ret
          exact ⟨rfl,HB.out,HST.out⟩
end Go.Proofs.YtidholghbjljaaaGreatDoor
