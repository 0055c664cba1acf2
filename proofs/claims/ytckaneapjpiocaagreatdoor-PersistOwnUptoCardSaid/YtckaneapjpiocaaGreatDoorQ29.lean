/- The texts Tr9, Rf1, Rf2, Swp in one file. -/
import Derived.Test.YtckaneapjpiocaaGreatDoorQ25
import Derived.Test.YtckaneapjpiocaaGreatDoorQ28
set_option linter.unusedVariables false
set_option linter.unusedSimpArgs false
set_option maxHeartbeats 16000000
set_option maxRecDepth 100000
namespace Go.Proofs.YtckaneapjpiocaaGreatDoor
open Go.RowKit Go.Maps Go.Sort Go.Shelf
theorem ag6(w:World)(A:Option Addr)(n c:Nat)(xs:List Lin)(hn:n=xs.length)(hm:n≤9223372036854775807)(hr:Rd w 0 w.heap.size A (xs.flatMap Lin.cells))(p:Lin→Bool)(F:Value)(f:FuncId)(caps:Array Value)(hf:F= .func (.func f) #[] caps)(hcf: ∀args w,(callFunc f args).run Tryz.prog w= .ok (.enter f args) w)
 (hF: ∀x∈xs,∀w1,Ext w w1→Calls Tryz.prog f (#[.agg x.cells.toArray]++caps) w1 fun e w'=>e= .returned (.bool (p x))∧Ext w1 w'):
 Calls Tryz.prog 144 #[.slice A n c,F] w fun e w'=>e= .returned (.int .i64 (zC p xs))∧Ext w w':=by
 subst hf
 have Hn:=hiD hn
 have HF:=hiD hF
 have HAt:=hiD (abp p xs)
 have HNo:=hiD (aaL p xs)
 generalize zC p xs=V at *
 clear hn hF
 go_enter Tryz.func144,Tryz.ntmps144
 go_wp2_with fail
 go_loopw [8] (fun i wr=> ∃k:Nat,k≤n∧i= .int .i64 k∧Hid (∀x∈xs.take k,p x=false)∧Ext w wr) (fun i _=>n - (intOf i).toNat)
 case atStart=>exact⟨0,Nat.zero_le _,rfl,hiD (by simp),Ext.refl _⟩
 case round=>
  obtain⟨k,hk,rfl,HK,e1⟩:=hrel
  by_cases hlt:k < n
  ·have hl:k < xs.length:=by rw [←Hn.out];omega
   obtain⟨b1,o1,rfl,_,hb1,G0⟩:=zh (size:=4) (fun _=>rfl) (by omega) hr hl
   have HC:=hiD (HF.out xs[k] (List.getElem_mem _) wr e1)
   have HY:=hiD (HAt.out k hl HK.out)
   have HT:=hiD (List.take_succ_eq_append_getElem hl)
   have G: ∀j u,(Lin.cells xs[k])[j]?=some u→wr.cell? ⟨b1,o1+k * 4+j,none⟩=some u:=fun j u hu=>by rw [Below.cell e1 hb1];exact G0 j u hu
   generalize xs[k]=x at *
   have g0:=G 0 _ rfl;have g1:=G 1 _ rfl;have g2:=G 2 _ rfl;have g3:=G 3 _ rfl
   simp only [Nat.add_zero,Nat.mul_one]at g0
   clear G G0
   go_wp2_with fail
   refine HC.out.mono ?_
   rintro e w2 ⟨rfl,e2⟩
   cases ho:p x
   ·go_wp2_with fail
    go_roundw
    case rel=>
     refine⟨k+1,by omega,by go_num,hiD (fun z hz=>?_),blo⟩
     rw [HT.out]at hz
     rcases List.mem_append.1 hz with hz | hz
     ·exact HK.out z hz
     ·simp only [List.mem_singleton]at hz;subst hz;exact ho
    case measure=>simp [intOf];omega
   ·go_wp2_with fail
    go_ret
    exact⟨by rw [HY.out ho];rfl,blo⟩
  ·obtain rfl:k=n:=by omega
   have h1:=HK.out
   rw [List.take_of_length_le (by rw [←Hn.out];exact Nat.le_refl _)]at h1
   have HZ:=hiD (HNo.out h1)
   clear h1
   go_wp2_with fail
   go_ret
   exact⟨by rw [HZ.out];rfl,e1⟩
theorem ak0: ∀args w,(callFunc 85 args).run Tryz.prog w= .ok (.enter 85 args) w:=afd Tryz.func85 (by kernel_rfl) rfl
theorem af2(l:List Lin):decide (0≤zC (fun x:Lin=>!liB x) l)=!(l.all liB):=by
 by_cases h:0≤zC (fun x:Lin=>!liB x) l
 ·obtain⟨h1,h2⟩:=abX _ l h
  have h3:l.all liB=false:=aaf liB l _ h1 (by simpa using h2)
  rw [h3,decide_eq_true h];rfl
 ·rw [decide_eq_false h]
  have h3:l.all liB=true:=List.all_eq_true.2 fun x hx=>by
   cases hq:liB x with
   | true=>rfl
   | false=>
     exfalso
     obtain⟨k,hk,rfl⟩:=List.getElem_of_mem hx
     have h4: ∀(l:List Lin),zC (fun x:Lin=>!liB x) l < 0→ ∀x∈l,liB x=true:=by
      intro l
      induction l with
      | nil=>intro _ x hx;cases hx
      | cons y l ih=>
        intro hf x hx
        rw [zC]at hf
        by_cases hy:(!liB y)=true
        ·rw [if_pos hy]at hf;omega
        ·rw [if_neg hy]at hf
         by_cases h0:zC (fun x:Lin=>!liB x) l < 0
         ·rcases List.mem_cons.1 hx with rfl | hx
          ·simpa using hy
          ·exact ih h0 x hx
         ·rw [if_neg h0]at hf;omega
     have:=h4 l (by omega) _ (List.getElem_mem hk)
     rw [this]at hq;cases hq
  rw [h3];rfl
theorem am9(w:World)(s:Sl Lin)(hM:xf w)(h:Sl.At w 0 w.heap.size Lin.cells Lin.sm s):
 Calls Tryz.prog 84 #[s.val,.func (.func 85) #[] #[]] w fun e w'=>e= .returned (.bool (!(s.xs.all liB)))∧Ext w w':=by
 have HI:=hiD (ag6 w s.A s.n s.c s.xs h.len (Nat.le_trans (Nat.le_trans h.le h.cap) (by decide)) h.rd (fun x=>!liB x) (.func (.func 85) #[] #[]) 85 #[] rfl ak0
  (fun x hx w1 e1=>am3 w1 x (hM.ext e1) (h.all x hx)))
 have HV:=hiD (af2 s.xs)
 clear h hM
 generalize zC _ s.xs=fi at *
 generalize (!(s.xs.all liB))=V at *
 simp only [Sl.val]
 go_enter Tryz.func84,Tryz.ntmps84
 go_wp2_with fail
 refine HI.out.mono ?_
 rintro e w2 ⟨rfl,e2⟩
 go_wp2_with fail
 go_ret
 exact⟨aaP HV.out,e2⟩
theorem adv(w:World)(t:Tnt)(hM:xf w)(h:Tnt.At w 0 w.heap.size t):
 Calls Tryz.prog 36 #[.agg t.cells.toArray] w fun e w'=>e= .returned (.int .i64 (yt t))∧Ext w w':=by
 have HNm:=hiD (fun W=>qq t.name W (Nat.le_trans h.name (by decide)))
 have HAq:=hiD (fun W=>qh W t.quota 0 (zB h.quota).1 (zB h.quota).2)
 have HAx:=hiD (fun W=>qh W t.next 1 (zB h.next).1 (zB h.next).2)
 have HSs:=hiD (fun W (hW:Ext w W)=>amp W t (hM.ext hW) (yG h.sets hW (Nat.le_refl _) fun _ h=>Dst.At.on h hW (Nat.le_refl _)))
 have HGr:=hiD (fun W (hW:Ext w W)=>akV W t.grants (hM.ext hW) (yG h.grants hW (Nat.le_refl _) fun _ h=>h))
 have HSt:=hiD (fun W (hW:Ext w W)=>ai7 W t.stages (hM.ext hW) (yG h.stages hW (Nat.le_refl _) fun _ h=>Stg.At.on h hW (Nat.le_refl _)))
 have HLc:=hiD (fun W (hW:Ext w W)=>am9 W t.log (hM.ext hW) (yG h.log hW (Nat.le_refl _) fun _ h=>h))
 have HV:=hiD (show yt t=if(zd t.name && (zE t.quota 0 && (zE t.next 1 && (yV t.sets.xs && (grB t.grants.xs && (xM t.stages.xs && (decide (t.log.xs.length≤16) && t.log.xs.all liB)))))))=true then 0 else 9 from rfl)
 have Hln:=hiD (show t.log.n=t.log.xs.length from h.log.len)
 have hlm:t.log.n≤9223372036854775807:=Nat.le_trans (Nat.le_trans h.log.le h.log.cap) (by decide)
 rw [←Hln.out]at HV
 generalize yt t=V at *
 clear h hM Hln
 obtain⟨name,quota,next,⟨A,n,c,xs⟩,⟨gA,gn,gc,gs⟩,⟨aA,an,ac,ax⟩,⟨lA,ln,lc,ls⟩⟩:=t
 dsimp only at HNm HAq HAx HV hlm
 simp only [Tnt.cells,Sl.val]at HSs HGr HSt HLc ⊢
 generalize zd name=nb at *
 generalize zE quota 0=qb at *
 generalize zE next 1=xb at *
 generalize yV xs=sb at *
 generalize grB gs=gb at *
 generalize xM ax=tb at *
 generalize ls.all liB=lb at *
 go_enter Tryz.func36,Tryz.ntmps36
 go_upto_region 1 with fail
 generalize hwH:World.alloc w _=w1;have HH:=hiD (Heap.one hwH);clear hwH
 obtain⟨c0,c1,c2,c3,c4,c5,c6,-⟩:=za (HH.out.boxAt 0 rfl)
 cases nb with
 | false=>
   go_wp2_with (first | (go_at_call 44;with_reducible refine cX HH (HNm.out _) ?_;clear HH;intro wa HH;clear c0 c1 c2 c3 c4 c5 c6;obtain⟨c0,c1,c2,c3,c4,c5,c6,-⟩:=za (HH.out.boxAt 0 rfl)) | (go_at_call 80;with_reducible refine cX HH (HAq.out _) ?_;clear HH;intro wb HH;clear c0 c1 c2 c3 c4 c5 c6;obtain⟨c0,c1,c2,c3,c4,c5,c6,-⟩:=za (HH.out.boxAt 0 rfl)) | (go_at_call 80;with_reducible refine cX HH (HAx.out _) ?_;clear HH;intro wc HH;clear c0 c1 c2 c3 c4 c5 c6;obtain⟨c0,c1,c2,c3,c4,c5,c6,-⟩:=za (HH.out.boxAt 0 rfl)) | (go_at_call 81;refine cX HH (HSs.out _ HH.out.ext) ?_;clear HH;intro wd HH;clear c0 c1 c2 c3 c4 c5 c6;obtain⟨c0,c1,c2,c3,c4,c5,c6,-⟩:=za (HH.out.boxAt 0 rfl)) | (go_at_call 82;refine cX HH (HGr.out _ HH.out.ext) ?_;clear HH;intro wf HH;clear c0 c1 c2 c3 c4 c5 c6;obtain⟨c0,c1,c2,c3,c4,c5,c6,-⟩:=za (HH.out.boxAt 0 rfl)) | (go_at_call 83;refine cX HH (HSt.out _ HH.out.ext) ?_;clear HH;intro wg HH;clear c0 c1 c2 c3 c4 c5 c6;obtain⟨c0,c1,c2,c3,c4,c5,c6,-⟩:=za (HH.out.boxAt 0 rfl)) | (go_at_call 84;refine cX HH (HLc.out _ HH.out.ext) ?_;clear HH;intro wh HH;clear c0 c1 c2 c3 c4 c5 c6;obtain⟨c0,c1,c2,c3,c4,c5,c6,-⟩:=za (HH.out.boxAt 0 rfl)))
   go_ret
   exact⟨by rw [HV.out];rfl,HH.out.ext⟩
 | true=>
   cases qb with
   | false=>
     go_wp2_with (first | (go_at_call 44;with_reducible refine cX HH (HNm.out _) ?_;clear HH;intro wa HH;clear c0 c1 c2 c3 c4 c5 c6;obtain⟨c0,c1,c2,c3,c4,c5,c6,-⟩:=za (HH.out.boxAt 0 rfl)) | (go_at_call 80;with_reducible refine cX HH (HAq.out _) ?_;clear HH;intro wb HH;clear c0 c1 c2 c3 c4 c5 c6;obtain⟨c0,c1,c2,c3,c4,c5,c6,-⟩:=za (HH.out.boxAt 0 rfl)) | (go_at_call 80;with_reducible refine cX HH (HAx.out _) ?_;clear HH;intro wc HH;clear c0 c1 c2 c3 c4 c5 c6;obtain⟨c0,c1,c2,c3,c4,c5,c6,-⟩:=za (HH.out.boxAt 0 rfl)) | (go_at_call 81;refine cX HH (HSs.out _ HH.out.ext) ?_;clear HH;intro wd HH;clear c0 c1 c2 c3 c4 c5 c6;obtain⟨c0,c1,c2,c3,c4,c5,c6,-⟩:=za (HH.out.boxAt 0 rfl)) | (go_at_call 82;refine cX HH (HGr.out _ HH.out.ext) ?_;clear HH;intro wf HH;clear c0 c1 c2 c3 c4 c5 c6;obtain⟨c0,c1,c2,c3,c4,c5,c6,-⟩:=za (HH.out.boxAt 0 rfl)) | (go_at_call 83;refine cX HH (HSt.out _ HH.out.ext) ?_;clear HH;intro wg HH;clear c0 c1 c2 c3 c4 c5 c6;obtain⟨c0,c1,c2,c3,c4,c5,c6,-⟩:=za (HH.out.boxAt 0 rfl)) | (go_at_call 84;refine cX HH (HLc.out _ HH.out.ext) ?_;clear HH;intro wh HH;clear c0 c1 c2 c3 c4 c5 c6;obtain⟨c0,c1,c2,c3,c4,c5,c6,-⟩:=za (HH.out.boxAt 0 rfl)))
     go_ret
     exact⟨by rw [HV.out];rfl,HH.out.ext⟩
   | true=>
     cases xb with
     | false=>
       go_wp2_with (first | (go_at_call 44;with_reducible refine cX HH (HNm.out _) ?_;clear HH;intro wa HH;clear c0 c1 c2 c3 c4 c5 c6;obtain⟨c0,c1,c2,c3,c4,c5,c6,-⟩:=za (HH.out.boxAt 0 rfl)) | (go_at_call 80;with_reducible refine cX HH (HAq.out _) ?_;clear HH;intro wb HH;clear c0 c1 c2 c3 c4 c5 c6;obtain⟨c0,c1,c2,c3,c4,c5,c6,-⟩:=za (HH.out.boxAt 0 rfl)) | (go_at_call 80;with_reducible refine cX HH (HAx.out _) ?_;clear HH;intro wc HH;clear c0 c1 c2 c3 c4 c5 c6;obtain⟨c0,c1,c2,c3,c4,c5,c6,-⟩:=za (HH.out.boxAt 0 rfl)) | (go_at_call 81;refine cX HH (HSs.out _ HH.out.ext) ?_;clear HH;intro wd HH;clear c0 c1 c2 c3 c4 c5 c6;obtain⟨c0,c1,c2,c3,c4,c5,c6,-⟩:=za (HH.out.boxAt 0 rfl)) | (go_at_call 82;refine cX HH (HGr.out _ HH.out.ext) ?_;clear HH;intro wf HH;clear c0 c1 c2 c3 c4 c5 c6;obtain⟨c0,c1,c2,c3,c4,c5,c6,-⟩:=za (HH.out.boxAt 0 rfl)) | (go_at_call 83;refine cX HH (HSt.out _ HH.out.ext) ?_;clear HH;intro wg HH;clear c0 c1 c2 c3 c4 c5 c6;obtain⟨c0,c1,c2,c3,c4,c5,c6,-⟩:=za (HH.out.boxAt 0 rfl)) | (go_at_call 84;refine cX HH (HLc.out _ HH.out.ext) ?_;clear HH;intro wh HH;clear c0 c1 c2 c3 c4 c5 c6;obtain⟨c0,c1,c2,c3,c4,c5,c6,-⟩:=za (HH.out.boxAt 0 rfl)))
       go_ret
       exact⟨by rw [HV.out];rfl,HH.out.ext⟩
     | true=>
       cases sb with
       | false=>
         go_wp2_with (first | (go_at_call 44;with_reducible refine cX HH (HNm.out _) ?_;clear HH;intro wa HH;clear c0 c1 c2 c3 c4 c5 c6;obtain⟨c0,c1,c2,c3,c4,c5,c6,-⟩:=za (HH.out.boxAt 0 rfl)) | (go_at_call 80;with_reducible refine cX HH (HAq.out _) ?_;clear HH;intro wb HH;clear c0 c1 c2 c3 c4 c5 c6;obtain⟨c0,c1,c2,c3,c4,c5,c6,-⟩:=za (HH.out.boxAt 0 rfl)) | (go_at_call 80;with_reducible refine cX HH (HAx.out _) ?_;clear HH;intro wc HH;clear c0 c1 c2 c3 c4 c5 c6;obtain⟨c0,c1,c2,c3,c4,c5,c6,-⟩:=za (HH.out.boxAt 0 rfl)) | (go_at_call 81;refine cX HH (HSs.out _ HH.out.ext) ?_;clear HH;intro wd HH;clear c0 c1 c2 c3 c4 c5 c6;obtain⟨c0,c1,c2,c3,c4,c5,c6,-⟩:=za (HH.out.boxAt 0 rfl)) | (go_at_call 82;refine cX HH (HGr.out _ HH.out.ext) ?_;clear HH;intro wf HH;clear c0 c1 c2 c3 c4 c5 c6;obtain⟨c0,c1,c2,c3,c4,c5,c6,-⟩:=za (HH.out.boxAt 0 rfl)) | (go_at_call 83;refine cX HH (HSt.out _ HH.out.ext) ?_;clear HH;intro wg HH;clear c0 c1 c2 c3 c4 c5 c6;obtain⟨c0,c1,c2,c3,c4,c5,c6,-⟩:=za (HH.out.boxAt 0 rfl)) | (go_at_call 84;refine cX HH (HLc.out _ HH.out.ext) ?_;clear HH;intro wh HH;clear c0 c1 c2 c3 c4 c5 c6;obtain⟨c0,c1,c2,c3,c4,c5,c6,-⟩:=za (HH.out.boxAt 0 rfl)))
         go_ret
         exact⟨by rw [HV.out];rfl,HH.out.ext⟩
       | true=>
         cases gb with
         | false=>
           go_wp2_with (first | (go_at_call 44;with_reducible refine cX HH (HNm.out _) ?_;clear HH;intro wa HH;clear c0 c1 c2 c3 c4 c5 c6;obtain⟨c0,c1,c2,c3,c4,c5,c6,-⟩:=za (HH.out.boxAt 0 rfl)) | (go_at_call 80;with_reducible refine cX HH (HAq.out _) ?_;clear HH;intro wb HH;clear c0 c1 c2 c3 c4 c5 c6;obtain⟨c0,c1,c2,c3,c4,c5,c6,-⟩:=za (HH.out.boxAt 0 rfl)) | (go_at_call 80;with_reducible refine cX HH (HAx.out _) ?_;clear HH;intro wc HH;clear c0 c1 c2 c3 c4 c5 c6;obtain⟨c0,c1,c2,c3,c4,c5,c6,-⟩:=za (HH.out.boxAt 0 rfl)) | (go_at_call 81;refine cX HH (HSs.out _ HH.out.ext) ?_;clear HH;intro wd HH;clear c0 c1 c2 c3 c4 c5 c6;obtain⟨c0,c1,c2,c3,c4,c5,c6,-⟩:=za (HH.out.boxAt 0 rfl)) | (go_at_call 82;refine cX HH (HGr.out _ HH.out.ext) ?_;clear HH;intro wf HH;clear c0 c1 c2 c3 c4 c5 c6;obtain⟨c0,c1,c2,c3,c4,c5,c6,-⟩:=za (HH.out.boxAt 0 rfl)) | (go_at_call 83;refine cX HH (HSt.out _ HH.out.ext) ?_;clear HH;intro wg HH;clear c0 c1 c2 c3 c4 c5 c6;obtain⟨c0,c1,c2,c3,c4,c5,c6,-⟩:=za (HH.out.boxAt 0 rfl)) | (go_at_call 84;refine cX HH (HLc.out _ HH.out.ext) ?_;clear HH;intro wh HH;clear c0 c1 c2 c3 c4 c5 c6;obtain⟨c0,c1,c2,c3,c4,c5,c6,-⟩:=za (HH.out.boxAt 0 rfl)))
           go_ret
           exact⟨by rw [HV.out];rfl,HH.out.ext⟩
         | true=>
           cases tb with
           | false=>
             go_wp2_with (first | (go_at_call 44;with_reducible refine cX HH (HNm.out _) ?_;clear HH;intro wa HH;clear c0 c1 c2 c3 c4 c5 c6;obtain⟨c0,c1,c2,c3,c4,c5,c6,-⟩:=za (HH.out.boxAt 0 rfl)) | (go_at_call 80;with_reducible refine cX HH (HAq.out _) ?_;clear HH;intro wb HH;clear c0 c1 c2 c3 c4 c5 c6;obtain⟨c0,c1,c2,c3,c4,c5,c6,-⟩:=za (HH.out.boxAt 0 rfl)) | (go_at_call 80;with_reducible refine cX HH (HAx.out _) ?_;clear HH;intro wc HH;clear c0 c1 c2 c3 c4 c5 c6;obtain⟨c0,c1,c2,c3,c4,c5,c6,-⟩:=za (HH.out.boxAt 0 rfl)) | (go_at_call 81;refine cX HH (HSs.out _ HH.out.ext) ?_;clear HH;intro wd HH;clear c0 c1 c2 c3 c4 c5 c6;obtain⟨c0,c1,c2,c3,c4,c5,c6,-⟩:=za (HH.out.boxAt 0 rfl)) | (go_at_call 82;refine cX HH (HGr.out _ HH.out.ext) ?_;clear HH;intro wf HH;clear c0 c1 c2 c3 c4 c5 c6;obtain⟨c0,c1,c2,c3,c4,c5,c6,-⟩:=za (HH.out.boxAt 0 rfl)) | (go_at_call 83;refine cX HH (HSt.out _ HH.out.ext) ?_;clear HH;intro wg HH;clear c0 c1 c2 c3 c4 c5 c6;obtain⟨c0,c1,c2,c3,c4,c5,c6,-⟩:=za (HH.out.boxAt 0 rfl)) | (go_at_call 84;refine cX HH (HLc.out _ HH.out.ext) ?_;clear HH;intro wh HH;clear c0 c1 c2 c3 c4 c5 c6;obtain⟨c0,c1,c2,c3,c4,c5,c6,-⟩:=za (HH.out.boxAt 0 rfl)))
             go_ret
             exact⟨by rw [HV.out];rfl,HH.out.ext⟩
           | true=>
             by_cases hl:ln≤16
             ·have hl2:decide ((16:Int) < (ln:Int))=false:=decide_eq_false (by omega)
              have hl3:decide (ln≤16)=true:=decide_eq_true hl
              rw [hl3]at HV
              cases lb with
              | false=>
                go_wp2_with (first | (go_at_call 44;with_reducible refine cX HH (HNm.out _) ?_;clear HH;intro wa HH;clear c0 c1 c2 c3 c4 c5 c6;obtain⟨c0,c1,c2,c3,c4,c5,c6,-⟩:=za (HH.out.boxAt 0 rfl)) | (go_at_call 80;with_reducible refine cX HH (HAq.out _) ?_;clear HH;intro wb HH;clear c0 c1 c2 c3 c4 c5 c6;obtain⟨c0,c1,c2,c3,c4,c5,c6,-⟩:=za (HH.out.boxAt 0 rfl)) | (go_at_call 80;with_reducible refine cX HH (HAx.out _) ?_;clear HH;intro wc HH;clear c0 c1 c2 c3 c4 c5 c6;obtain⟨c0,c1,c2,c3,c4,c5,c6,-⟩:=za (HH.out.boxAt 0 rfl)) | (go_at_call 81;refine cX HH (HSs.out _ HH.out.ext) ?_;clear HH;intro wd HH;clear c0 c1 c2 c3 c4 c5 c6;obtain⟨c0,c1,c2,c3,c4,c5,c6,-⟩:=za (HH.out.boxAt 0 rfl)) | (go_at_call 82;refine cX HH (HGr.out _ HH.out.ext) ?_;clear HH;intro wf HH;clear c0 c1 c2 c3 c4 c5 c6;obtain⟨c0,c1,c2,c3,c4,c5,c6,-⟩:=za (HH.out.boxAt 0 rfl)) | (go_at_call 83;refine cX HH (HSt.out _ HH.out.ext) ?_;clear HH;intro wg HH;clear c0 c1 c2 c3 c4 c5 c6;obtain⟨c0,c1,c2,c3,c4,c5,c6,-⟩:=za (HH.out.boxAt 0 rfl)) | (go_at_call 84;refine cX HH (HLc.out _ HH.out.ext) ?_;clear HH;intro wh HH;clear c0 c1 c2 c3 c4 c5 c6;obtain⟨c0,c1,c2,c3,c4,c5,c6,-⟩:=za (HH.out.boxAt 0 rfl)))
                go_ret
                exact⟨by rw [HV.out];rfl,HH.out.ext⟩
              | true=>
                go_wp2_with (first | (go_at_call 44;with_reducible refine cX HH (HNm.out _) ?_;clear HH;intro wa HH;clear c0 c1 c2 c3 c4 c5 c6;obtain⟨c0,c1,c2,c3,c4,c5,c6,-⟩:=za (HH.out.boxAt 0 rfl)) | (go_at_call 80;with_reducible refine cX HH (HAq.out _) ?_;clear HH;intro wb HH;clear c0 c1 c2 c3 c4 c5 c6;obtain⟨c0,c1,c2,c3,c4,c5,c6,-⟩:=za (HH.out.boxAt 0 rfl)) | (go_at_call 80;with_reducible refine cX HH (HAx.out _) ?_;clear HH;intro wc HH;clear c0 c1 c2 c3 c4 c5 c6;obtain⟨c0,c1,c2,c3,c4,c5,c6,-⟩:=za (HH.out.boxAt 0 rfl)) | (go_at_call 81;refine cX HH (HSs.out _ HH.out.ext) ?_;clear HH;intro wd HH;clear c0 c1 c2 c3 c4 c5 c6;obtain⟨c0,c1,c2,c3,c4,c5,c6,-⟩:=za (HH.out.boxAt 0 rfl)) | (go_at_call 82;refine cX HH (HGr.out _ HH.out.ext) ?_;clear HH;intro wf HH;clear c0 c1 c2 c3 c4 c5 c6;obtain⟨c0,c1,c2,c3,c4,c5,c6,-⟩:=za (HH.out.boxAt 0 rfl)) | (go_at_call 83;refine cX HH (HSt.out _ HH.out.ext) ?_;clear HH;intro wg HH;clear c0 c1 c2 c3 c4 c5 c6;obtain⟨c0,c1,c2,c3,c4,c5,c6,-⟩:=za (HH.out.boxAt 0 rfl)) | (go_at_call 84;refine cX HH (HLc.out _ HH.out.ext) ?_;clear HH;intro wh HH;clear c0 c1 c2 c3 c4 c5 c6;obtain⟨c0,c1,c2,c3,c4,c5,c6,-⟩:=za (HH.out.boxAt 0 rfl)))
                go_ret
                exact⟨by rw [HV.out];rfl,HH.out.ext⟩
             ·have hl2:decide ((16:Int) < (ln:Int))=true:=decide_eq_true (by omega)
              have hl3:decide (ln≤16)=false:=decide_eq_false hl
              rw [hl3]at HV
              go_wp2_with (first | (go_at_call 44;with_reducible refine cX HH (HNm.out _) ?_;clear HH;intro wa HH;clear c0 c1 c2 c3 c4 c5 c6;obtain⟨c0,c1,c2,c3,c4,c5,c6,-⟩:=za (HH.out.boxAt 0 rfl)) | (go_at_call 80;with_reducible refine cX HH (HAq.out _) ?_;clear HH;intro wb HH;clear c0 c1 c2 c3 c4 c5 c6;obtain⟨c0,c1,c2,c3,c4,c5,c6,-⟩:=za (HH.out.boxAt 0 rfl)) | (go_at_call 80;with_reducible refine cX HH (HAx.out _) ?_;clear HH;intro wc HH;clear c0 c1 c2 c3 c4 c5 c6;obtain⟨c0,c1,c2,c3,c4,c5,c6,-⟩:=za (HH.out.boxAt 0 rfl)) | (go_at_call 81;refine cX HH (HSs.out _ HH.out.ext) ?_;clear HH;intro wd HH;clear c0 c1 c2 c3 c4 c5 c6;obtain⟨c0,c1,c2,c3,c4,c5,c6,-⟩:=za (HH.out.boxAt 0 rfl)) | (go_at_call 82;refine cX HH (HGr.out _ HH.out.ext) ?_;clear HH;intro wf HH;clear c0 c1 c2 c3 c4 c5 c6;obtain⟨c0,c1,c2,c3,c4,c5,c6,-⟩:=za (HH.out.boxAt 0 rfl)) | (go_at_call 83;refine cX HH (HSt.out _ HH.out.ext) ?_;clear HH;intro wg HH;clear c0 c1 c2 c3 c4 c5 c6;obtain⟨c0,c1,c2,c3,c4,c5,c6,-⟩:=za (HH.out.boxAt 0 rfl)) | (go_at_call 84;refine cX HH (HLc.out _ HH.out.ext) ?_;clear HH;intro wh HH;clear c0 c1 c2 c3 c4 c5 c6;obtain⟨c0,c1,c2,c3,c4,c5,c6,-⟩:=za (HH.out.boxAt 0 rfl)))
              go_ret
              exact⟨by rw [HV.out];rfl,HH.out.ext⟩
theorem afW(w:World)(t:Tnt)(s:ByteArray)(h:Sl.At w 0 w.heap.size Dst.cells (Dst.At w 0 w.heap.size) t.sets):
 Calls Tryz.prog 31 #[.agg t.cells.toArray,.string s] w fun e w'=>e= .returned (.int .i64 (zC (fun x:Dst=>decide (x.path=s)) t.sets.xs))∧Ext w w':=by
 have HA:=hiD h
 have HAt:=hiD (abp (fun x:Dst=>decide (x.path=s)) t.sets.xs)
 have HNo:=hiD (aaL (fun x:Dst=>decide (x.path=s)) t.sets.xs)
 generalize zC (fun x:Dst=>decide (x.path=s)) t.sets.xs=V at *
 clear h
 obtain⟨name,quota,next,⟨A,n,c,xs⟩,⟨gA,gn,gc,gs⟩,⟨aA,an,ac,ax⟩,⟨lA,ln,lc,ls⟩⟩:=t
 have Hn:=hiD (show n=xs.length from HA.out.len)
 have hm:n≤9223372036854775807:=Nat.le_trans (Nat.le_trans HA.out.le HA.out.cap) (by decide)
 dsimp only at HAt HNo
 simp only [Tnt.cells,Sl.val]
 go_enter Tryz.func31,Tryz.ntmps31
 go_upto_region 1 with fail
 generalize hwH:World.alloc w _=w1;have HH:=hiD (Heap.one hwH);clear hwH
 have c3:=(HH.out.boxAt 0 rfl).cell 3 _ rfl
 go_wp2_with fail
 go_loopw [5] (fun i wr=> ∃k:Nat,k≤n∧i= .int .i64 (k:Int)∧Hid (∀x∈xs.take k,decide (x.path=s)=false)∧wr=w1) (fun i _=>n - (intOf i).toNat)
 case atStart=>exact⟨0,Nat.zero_le _,rfl,hiD (by simp),rfl⟩
 case round=>
  obtain⟨k,hk,rfl,HK,rfl⟩:=hrel
  by_cases hlt:k < n
  ·have hl:k < xs.length:=by rw [←Hn.out];exact hlt
   obtain⟨b1,o1,hA1,_,hb1,G0⟩:=zh (size:=5) (fun _=>rfl) (by omega) (HA.out.rd.ext HH.out.ext (Nat.le_refl _)) hl
   dsimp only at hA1
   subst hA1
   have HY:=hiD (HAt.out k hl HK.out)
   have HT:=hiD (List.take_succ_eq_append_getElem hl)
   have HD:=hiD (yW xs[k].path s)
   have g0:=G0 0 _ rfl
   generalize xs[k]=x at *
   have HE:=hiD HH.out.ext
   simp only [Nat.add_zero]at g0
   obtain⟨y1,y2,y3,y4,y5⟩:=x
   dsimp only at HD HY g0
   clear G0
   by_cases he:y1=s
   ·have hd:(y1.toList == s.toList)=true:=by rw [HD.out];exact decide_eq_true he
    have HV:=hiD (HY.out (decide_eq_true he))
    clear he HY HD
    go_wp2_with fail
    go_ret
    exact⟨by rw [HV.out];rfl,HE.out⟩
   ·have hd:(y1.toList == s.toList)=false:=by rw [HD.out];exact decide_eq_false he
    have he2:=hiD he
    clear he HY HD
    go_wp2_with fail
    go_roundw
    case rel=>
     refine⟨k+1,by omega,by go_num,hiD (fun z hz=>?_),by first | rfl | trivial⟩
     rw [HT.out]at hz
     rcases List.mem_append.1 hz with hz | hz
     ·exact HK.out z hz
     ·simp only [List.mem_singleton]at hz;subst hz;exact decide_eq_false he2.out
    case measure=>(first | (simp [intOf];done) | (simp [intOf];omega))
  ·obtain rfl:k=n:=by omega
   have h1:=HK.out
   rw [List.take_of_length_le (by rw [←Hn.out];exact Nat.le_refl _)]at h1
   have HZ:=hiD (HNo.out h1)
   have HE:=hiD HH.out.ext
   clear h1
   go_wp2_with fail
   go_ret
   exact⟨by rw [HZ.out];rfl,HE.out⟩
theorem alC(w:World)(t:Dst)(s:ByteArray)(h:Sl.At w 0 w.heap.size Sna.cells (Sna.At w 0 w.heap.size) t.snaps):
 Calls Tryz.prog 78 #[.agg t.cells.toArray,.string s] w fun e w'=>e= .returned (.int .i64 (zC (fun x:Sna=>decide (x.name=s)) t.snaps.xs))∧Ext w w':=by
 have HA:=hiD h
 have HAt:=hiD (abp (fun x:Sna=>decide (x.name=s)) t.snaps.xs)
 have HNo:=hiD (aaL (fun x:Sna=>decide (x.name=s)) t.snaps.xs)
 generalize zC (fun x:Sna=>decide (x.name=s)) t.snaps.xs=V at *
 clear h
 obtain⟨path,orig,⟨bA,bn,bc,bd⟩,⟨A,n,c,xs⟩,⟨pA,pn,pc,ps⟩⟩:=t
 have Hn:=hiD (show n=xs.length from HA.out.len)
 have hm:n≤9223372036854775807:=Nat.le_trans (Nat.le_trans HA.out.le HA.out.cap) (by decide)
 dsimp only at HAt HNo
 simp only [Dst.cells,Sl.val]
 go_enter Tryz.func78,Tryz.ntmps78
 go_upto_region 1 with fail
 generalize hwH:World.alloc w _=w1;have HH:=hiD (Heap.one hwH);clear hwH
 have c3:=(HH.out.boxAt 0 rfl).cell 3 _ rfl
 go_wp2_with fail
 go_loopw [5] (fun i wr=> ∃k:Nat,k≤n∧i= .int .i64 (k:Int)∧Hid (∀x∈xs.take k,decide (x.name=s)=false)∧wr=w1) (fun i _=>n - (intOf i).toNat)
 case atStart=>exact⟨0,Nat.zero_le _,rfl,hiD (by simp),rfl⟩
 case round=>
  obtain⟨k,hk,rfl,HK,rfl⟩:=hrel
  by_cases hlt:k < n
  ·have hl:k < xs.length:=by rw [←Hn.out];exact hlt
   obtain⟨b1,o1,hA1,_,hb1,G0⟩:=zh (size:=5) (fun _=>rfl) (by omega) (HA.out.rd.ext HH.out.ext (Nat.le_refl _)) hl
   dsimp only at hA1
   subst hA1
   have HY:=hiD (HAt.out k hl HK.out)
   have HT:=hiD (List.take_succ_eq_append_getElem hl)
   have HD:=hiD (yW xs[k].name s)
   have g0:=G0 0 _ rfl
   generalize xs[k]=x at *
   have HE:=hiD HH.out.ext
   simp only [Nat.add_zero]at g0
   obtain⟨y1,y2,y3,y4,y5⟩:=x
   dsimp only at HD HY g0
   clear G0
   by_cases he:y1=s
   ·have hd:(y1.toList == s.toList)=true:=by rw [HD.out];exact decide_eq_true he
    have HV:=hiD (HY.out (decide_eq_true he))
    clear he HY HD
    go_wp2_with fail
    go_ret
    exact⟨by rw [HV.out];rfl,HE.out⟩
   ·have hd:(y1.toList == s.toList)=false:=by rw [HD.out];exact decide_eq_false he
    have he2:=hiD he
    clear he HY HD
    go_wp2_with fail
    go_roundw
    case rel=>
     refine⟨k+1,by omega,by go_num,hiD (fun z hz=>?_),by first | rfl | trivial⟩
     rw [HT.out]at hz
     rcases List.mem_append.1 hz with hz | hz
     ·exact HK.out z hz
     ·simp only [List.mem_singleton]at hz;subst hz;exact decide_eq_false he2.out
    case measure=>(first | (simp [intOf];done) | (simp [intOf];omega))
  ·obtain rfl:k=n:=by omega
   have h1:=HK.out
   rw [List.take_of_length_le (by rw [←Hn.out];exact Nat.le_refl _)]at h1
   have HZ:=hiD (HNo.out h1)
   have HE:=hiD HH.out.ext
   clear h1
   go_wp2_with fail
   go_ret
   exact⟨by rw [HZ.out];rfl,HE.out⟩
theorem amD(w:World)(x:Dst)(h:Dst.At w 0 w.heap.size x):
 Calls Tryz.prog 43 #[.agg x.cells.toArray] w fun e w'=>e= .returned (.int .i64 (chS x:Nat))∧Ext w w':=by
 have HA:=hiD h.snaps
 have HV:=hiD (show chS x=1+x.body.xs.length+(x.snaps.xs.map fun y:Sna=>1+y.body.xs.length).sum from rfl)
 have HSz:=hiD (fun k=>show((x.snaps.xs.take k).map fun y:Sna=>1+y.body.xs.length).sum≤1099512676352 by
  have h1:=qL ((x.snaps.xs.take k).map fun y:Sna=>1+y.body.xs.length) 1048577 fun z hz=>by
   obtain⟨y,hy,rfl⟩:=List.mem_map.1 hz
   have hy2:=h.snaps.all y (List.mem_of_mem_take hy)
   have:=hy2.bodyS
   rw [hy2.body.len]at this
   omega
  have h2:(x.snaps.xs.take k).length≤1048576:=by rw [List.length_take];have:=h.snapsS;rw [h.snaps.len]at this;omega
  rw [List.length_map]at h1
  exact Nat.le_trans h1 (Nat.le_trans (Nat.mul_le_mul_right 1048577 h2) (by decide)))
 have hbn:x.body.n=x.body.xs.length:=h.body.len
 have hbm:x.body.n≤1048576:=h.bodyS
 have hnm:x.snaps.n≤1048576:=h.snapsS
 rw [←hbn]at HV
 have HSt:=hiD (fun k (hk:k < x.snaps.xs.length)=>show((x.snaps.xs.take (k+1)).map fun y:Sna=>1+y.body.xs.length).sum=((x.snaps.xs.take k).map fun y:Sna=>1+y.body.xs.length).sum+(1+x.snaps.xs[k].body.n)by
  rw [List.take_succ_eq_append_getElem hk,List.map_append,List.sum_append,(h.snaps.all _ (List.getElem_mem hk)).body.len];simp)
 generalize chS x=V at *
 clear h hbn
 obtain⟨path,orig,⟨bA,bn,bc,bd⟩,⟨A,n,c,xs⟩,⟨pA,pn,pc,ps⟩⟩:=x
 have Hn:=hiD (show n=xs.length from HA.out.len)
 dsimp only at HV HSz HSt hbm hnm
 simp only [Dst.cells,Sl.val]
 go_enter Tryz.func43,Tryz.ntmps43
 go_upto_region 1 with fail
 generalize hwH:World.alloc w _=w1;have HH:=hiD (Heap.one hwH);clear hwH
 have c2:=(HH.out.boxAt 0 rfl).cell 2 _ rfl
 have c3:=(HH.out.boxAt 0 rfl).cell 3 _ rfl
 go_wp2_with fail
 go_loopw [3,4] (fun sv i wr=> ∃k sm:Nat,k≤n∧i= .int .i64 (k:Int)∧sv= .int .i64 (1+(bn:Int)+(sm:Int))∧Hid (sm=((xs.take k).map fun y:Sna=>1+y.body.xs.length).sum)∧wr=w1) (fun _ i _=>n - (intOf i).toNat)
 case atStart=>exact⟨0,0,Nat.zero_le _,rfl,by go_num,hiD rfl,rfl⟩
 case round=>
  obtain⟨k,sm,hk,rfl,rfl,HK,rfl⟩:=hrel
  have hsz:sm≤1099512676352:=by rw [HK.out];exact HSz.out k
  by_cases hlt:k < n
  ·have hl:k < xs.length:=by rw [←Hn.out];exact hlt
   obtain⟨b1,o1,hA1,_,hb1,G0⟩:=zh (size:=5) (fun _=>rfl) (by omega) (HA.out.rd.ext HH.out.ext (Nat.le_refl _)) hl
   dsimp only at hA1
   subst hA1
   have HT:=hiD (HSt.out k hl)
   have hyn:=(HA.out.all _ (List.getElem_mem hl)).bodyS
   have g2:=G0 2 _ rfl
   generalize xs[k]=x at *
   obtain⟨nm,gu,⟨dA,dn,dc,dd⟩,y4,y5⟩:=x
   simp only [Sl.val]at g2
   dsimp only at HT hyn
   clear G0
   have hw1:IntKind.i64.wrap (1+(bn:Int)+(sm:Int)+1)=1+(bn:Int)+(sm:Int)+1:=IntWalk.i64_in _ (by omega)
   have hw2:IntKind.i64.wrap (1+(bn:Int)+(sm:Int)+1+(dn:Int))=1+(bn:Int)+(sm:Int)+1+(dn:Int):=IntWalk.i64_in _ (by omega)
   go_wp2_with fail
   go_roundw
   case rel=>exact⟨k+1,sm+(1+dn),by omega,by go_num,by first | (go_num;done) | (simp [hw1,hw2];omega),hiD (by rw [HT.out,HK.out]),by first | rfl | trivial⟩
   case measure=>(first | (simp [intOf];done) | (simp [intOf];omega))
  ·obtain rfl:k=n:=by omega
   have h1:=HK.out
   rw [List.take_of_length_le (by rw [←Hn.out];exact Nat.le_refl _)]at h1
   have HZ:=hiD (show V=1+bn+sm by rw [HV.out,h1])
   have HE:=hiD HH.out.ext
   clear h1 HV
   go_wp2_with fail
   go_ret
   exact⟨al5 (by rw [HZ.out];omega),HE.out⟩
theorem afe{w:World}{lo hi:Nat}{x:Dst}(h:Dst.At w lo hi x):chS x≤1099513724929:=by
 have h1:=qL (x.snaps.xs.map fun y:Sna=>1+y.body.xs.length) 1048577 fun z hz=>by
  obtain⟨y,hy,rfl⟩:=List.mem_map.1 hz
  have hy2:=h.snaps.all y hy
  have:=hy2.bodyS
  rw [hy2.body.len]at this
  omega
 have h2:x.snaps.xs.length≤1048576:=by have:=h.snapsS;rw [h.snaps.len]at this;exact this
 rw [List.length_map]at h1
 have h3:=Nat.le_trans h1 (Nat.le_trans (Nat.mul_le_mul_right 1048577 h2) (show 1048576 * 1048577≤1099512676352 by decide))
 have h4:=h.bodyS
 rw [h.body.len]at h4
 rw [chS]
 omega
theorem ahE(w:World)(t:Tnt)(h:Tnt.At w 0 w.heap.size t)(hs:t.sets.n≤32)(hg:t.stages.n≤4):
 Calls Tryz.prog 16 #[.agg t.cells.toArray] w fun e w'=>e= .returned (.int .i64 (chT t:Nat))∧Ext w w':=by
 have HSa:=hiD h.sets
 have HTa:=hiD h.stages
 have HV:=hiD (show chT t=(t.sets.xs.map chS).sum+(t.stages.xs.map chG).sum from rfl)
 have HS1:=hiD (fun k (hk:k < t.sets.xs.length)=>show((t.sets.xs.take (k+1)).map chS).sum=((t.sets.xs.take k).map chS).sum+chS t.sets.xs[k]by
  rw [List.take_succ_eq_append_getElem hk,List.map_append,List.sum_append];simp)
 have HS2:=hiD (fun k (hk:k < t.stages.xs.length)=>show((t.stages.xs.take (k+1)).map chG).sum=((t.stages.xs.take k).map chG).sum+(1+t.stages.xs[k].bn)by
  rw [List.take_succ_eq_append_getElem hk,List.map_append,List.sum_append,(h.stages.all _ (List.getElem_mem hk)).bodyN];simp [chG])
 have HB1:=hiD (fun k=>show((t.sets.xs.take k).map chS).sum≤35184439197728 by
  have h1:=qL ((t.sets.xs.take k).map chS) 1099513724929 fun z hz=>by
   obtain⟨y,hy,rfl⟩:=List.mem_map.1 hz
   exact afe (h.sets.all y (List.mem_of_mem_take hy))
  have h2:(t.sets.xs.take k).length≤32:=by rw [List.length_take];rw [h.sets.len]at hs;omega
  rw [List.length_map]at h1
  exact Nat.le_trans h1 (Nat.le_trans (Nat.mul_le_mul_right 1099513724929 h2) (by decide)))
 have HB2:=hiD (fun k=>show((t.stages.xs.take k).map chG).sum≤4194308 by
  have h1:=qL ((t.stages.xs.take k).map chG) 1048577 fun z hz=>by
   obtain⟨y,hy,rfl⟩:=List.mem_map.1 hz
   have hy2:=h.stages.all y (List.mem_of_mem_take hy)
   have:=hy2.bodyM
   rw [hy2.bodyN]at this
   rw [chG];omega
  have h2:(t.stages.xs.take k).length≤4:=by rw [List.length_take];rw [h.stages.len]at hg;omega
  rw [List.length_map]at h1
  exact Nat.le_trans h1 (Nat.le_trans (Nat.mul_le_mul_right 1048577 h2) (by decide)))
 have HCa:=hiD (fun(k:Nat) (hk:k < t.sets.xs.length) W (hW:Ext w W)=>amD W t.sets.xs[k] (Dst.At.on (h.sets.all _ (List.getElem_mem hk)) hW (Nat.le_refl _)))
 generalize chT t=V at *
 clear h
 obtain⟨name,quota,next,⟨sA,sn,sc,ss⟩,⟨gA,gn,gc,gs⟩,⟨aA,an,ac,ax⟩,⟨lA,ln,lc,ls⟩⟩:=t
 have Hsn:=hiD (show sn=ss.length from HSa.out.len)
 have Han:=hiD (show an=ax.length from HTa.out.len)
 dsimp only at HV HS1 HS2 HB1 HB2 HCa hs hg
 simp only [Tnt.cells,Sl.val]
 go_enter Tryz.func16,Tryz.ntmps16
 go_upto_region 1 with fail
 generalize hwH:World.alloc w _=w1;have HH:=hiD (Heap.one hwH);clear hwH
 go_wp2_with fail
 go_loopw [3,4] (fun sv i wr=> ∃k sm:Nat,k≤sn∧i= .int .i64 (k:Int)∧sv= .int .i64 (sm:Int)∧Hid (sm=((ss.take k).map chS).sum)∧Hid (Heap w [.box w.heap.size [.string name,.int .i64 quota,.int .i64 next,.slice sA sn sc,.slice gA gn gc,.slice aA an ac,.slice lA ln lc]] wr)) (fun _ i _=>sn - (intOf i).toNat)
 case atStart=>exact⟨0,0,Nat.zero_le _,rfl,rfl,hiD rfl,HH⟩
 case round=>
  clear HH
  obtain⟨k,sm,hk,rfl,rfl,HK,HH⟩:=hrel
  have hsz:sm≤35184439197728:=by rw [HK.out];exact HB1.out k
  have c3:=(HH.out.boxAt 0 rfl).cell 3 _ rfl
  have c5:=(HH.out.boxAt 0 rfl).cell 5 _ rfl
  by_cases hlt:k < sn
  ·have hl:k < ss.length:=by rw [←Hsn.out];exact hlt
   obtain⟨b1,o1,hA1,_,hb1,G0⟩:=zh (size:=5) (fun _=>rfl) (by omega) (HSa.out.rd.ext HH.out.ext (Nat.le_refl _)) hl
   dsimp only at hA1
   subst hA1
   have HT:=hiD (HS1.out k hl)
   have HCk:=hiD (HCa.out k hl wr HH.out.ext)
   have hcx:=afe (HSa.out.all _ (List.getElem_mem hl))
   generalize ss[k]=x at *
   obtain⟨path,orig,⟨bA,bn,bc,bd⟩,⟨fA,fn,fc,fs⟩,⟨pA,pn,pc,ps⟩⟩:=x
   generalize chS _=cx at *
   simp only [Dst.cells,Sl.val]at HCk
   have g0:=G0 0 _ rfl
   have g1:=G0 1 _ rfl
   have g2:=G0 2 _ rfl
   have g3:=G0 3 _ rfl
   have g4:=G0 4 _ rfl
   simp only [Nat.add_zero,Sl.val]at g0 g1 g2 g3 g4
   clear G0
   have hkn:(k:Int) < (sn:Int):=by omega
   have hw1:IntKind.i64.wrap ((sm:Int)+(cx:Int))=(sm:Int)+(cx:Int):=IntWalk.i64_in _ (by omega)
   go_wp2_with fail
   refine HCk.out.mono ?_
   rintro e w2 ⟨rfl,e2⟩
   have HH2:=hiD (HH.out.later e2)
   go_wp2_with fail
   go_roundw
   case rel=>exact⟨k+1,sm+cx,by omega,by go_num,by first | (go_num;done) | (simp [hw1];done) | (simp [hw1];omega),hiD (by rw [HT.out,HK.out]),HH2⟩
   case measure=>(first | (simp [intOf];done) | (simp [intOf];omega))
  ·obtain rfl:k=sn:=by omega
   have h1:=HK.out
   rw [List.take_of_length_le (by rw [←Hsn.out];exact Nat.le_refl _)]at h1
   have HZ:=hiD (show V=sm+(ax.map chG).sum by rw [HV.out,h1])
   have HE:=hiD HH.out.ext
   clear h1 HV
   go_wp2_with fail
   go_loopw [3,5] (fun sv i wr2=> ∃j s2:Nat,j≤an∧i= .int .i64 (j:Int)∧sv= .int .i64 ((sm:Int)+(s2:Int))∧Hid (s2=((ax.take j).map chG).sum)∧wr2=wr) (fun _ i _=>an - (intOf i).toNat)
   case atStart=>exact⟨0,0,Nat.zero_le _,rfl,by go_num,hiD rfl,rfl⟩
   case round=>
    obtain⟨j,s2,hj,rfl,rfl,HK2,rfl⟩:=hrel
    have hsz2:s2≤4194308:=by rw [HK2.out];exact HB2.out j
    by_cases hlt2:j < an
    ·have hl2:j < ax.length:=by rw [←Han.out];exact hlt2
     obtain⟨b2,o2,hA2,_,hb2,G0⟩:=zh (size:=21) (fun _=>rfl) (by omega) (HTa.out.rd.ext HE.out (Nat.le_refl _)) hl2
     dsimp only at hA2
     subst hA2
     have HT:=hiD (HS2.out j hl2)
     have hyn:=(HTa.out.all _ (List.getElem_mem hl2)).bodyM
     have g13:=G0 13 (.slice ax[j].bA ax[j].bn ax[j].bc) rfl
     generalize ax[j].bn=dn at *
     generalize ax[j].bA=dA at *
     generalize ax[j].bc=dc at *
     clear G0
     have hjn:(j:Int) < (an:Int):=by omega
     have hw1:IntKind.i64.wrap ((sm:Int)+(s2:Int)+1)=(sm:Int)+(s2:Int)+1:=IntWalk.i64_in _ (by omega)
     have hw2:IntKind.i64.wrap ((sm:Int)+(s2:Int)+1+(dn:Int))=(sm:Int)+(s2:Int)+1+(dn:Int):=IntWalk.i64_in _ (by omega)
     go_wp2_with fail
     go_roundw
     case rel=>exact⟨j+1,s2+(1+dn),by omega,by go_num,by first | (go_num;done) | (simp [hw1,hw2];omega),hiD (by rw [HT.out,HK2.out]),by first | rfl | trivial⟩
     case measure=>(first | (simp [intOf];done) | (simp [intOf];omega))
    ·obtain rfl:j=an:=by omega
     have h1:=HK2.out
     rw [List.take_of_length_le (by rw [←Han.out];exact Nat.le_refl _)]at h1
     have HZ2:=hiD (show V=sm+s2 by rw [HZ.out,h1])
     clear h1
     go_wp2_with fail
     go_ret
     exact⟨al5 (by rw [HZ2.out];omega),HE.out⟩
theorem afi(w:World)(x:Lin)(hx:x.sm):
 Calls Tryz.prog 35 #[.agg x.cells.toArray] w fun e w'=>e= .returned (.bool (liB x))∧Ext w w':=by
 obtain⟨h1,h2,h3,h4⟩:=hx
 have HNm:=hiD (fun W=>qN x.user W (Nat.le_trans h1 (by decide)))
 have HPa:=hiD (fun W (_:Ext w W)=>aa8 x.path W (Nat.lt_of_le_of_lt h2 (by decide)))
 have HA1:=hiD (fun W=>show Calls Tryz.prog 30 #[.int .i64 x.kind,.int .i64 0] W fun e w'=>e= .returned (.bool (zE x.kind 0))∧Ext W w' from xI W x.kind 0 (zB h3).1 (zB h3).2)
 have HA2:=hiD (fun W=>show Calls Tryz.prog 30 #[.int .i64 x.err,.int .i64 0] W fun e w'=>e= .returned (.bool (zE x.err 0))∧Ext W w' from xI W x.err 0 (zB h4).1 (zB h4).2)
 have HV:=hiD (show liB x=((decide (x.user.size=0) || zd x.user) && (zF x.path && (zE x.kind 0 && zE x.err 0)))from rfl)
 have he:=abJ x.user
 clear h1 h2 h3 h4
 generalize liB x=V at *
 obtain⟨us,ki,pa,er⟩:=x
 dsimp only at *
 generalize decide (us.size=0)=b0 at *
 generalize zd us=b1 at *
 generalize zF pa=b2 at *
 generalize zE ki 0=b3 at *
 generalize zE er 0=b4 at *
 simp only [Lin.cells]
 cases b0 <;> cases b1 <;> cases b2 <;> cases b3 <;> cases b4 <;> (focus(go_enter Tryz.func35,Tryz.ntmps35;go_upto_region 1 with fail;generalize hwH:World.alloc w _=w1;have HH:=hiD (Heap.one hwH);clear hwH;go_wp2_with (first | (go_big_want;refine xG HH.out rfl rfl 0 rfl rfl (by decide+kernel) ?_) | (refine l1X HH 0 ?_) | (go_at_call 29;(with_reducible refine(HNm.out _).mono ?_);rintro e wC ⟨rfl,eC⟩;replace HH:=hiD (HH.out.later eC);clear eC) | (go_at_call 73;(with_reducible refine(HPa.out _ HH.out.ext).mono ?_);rintro e wC ⟨rfl,eC⟩;replace HH:=hiD (HH.out.later eC);clear eC) | (go_at_call 30;(with_reducible refine(HA1.out _).mono ?_);rintro e wC ⟨rfl,eC⟩;replace HH:=hiD (HH.out.later eC);clear eC) | (go_at_call 30;(with_reducible refine(HA2.out _).mono ?_);rintro e wC ⟨rfl,eC⟩;replace HH:=hiD (HH.out.later eC);clear eC));go_ret;exact⟨by rw [HV.out];rfl,HH.out.ext⟩))
theorem Heap.swap{w0 w:World}{a b:List It}(H:Heap w0 (a++b) w):Heap w0 (b++a) w:=by
 have e: ∀i y,(b++a)[i]?=some y→i < b.length+a.length:=fun i y h=>by
  have:=(List.getElem?_eq_some_iff.1 h).1
  rwa [List.length_append]at this
 refine H.sub' (fun i=>if i < b.length then i+a.length else if i < b.length+a.length then i - b.length else i) (fun i j h=>?_) fun i y hy=>?_
 ·(try dsimp only at h)
  split at h <;> split at h <;> (try split at h) <;> (try split at h) <;> omega
 ·have h9:=e i y hy
  by_cases h1:i < b.length
  ·rw [if_pos h1,List.getElem?_append_right (by omega),Nat.add_sub_cancel]
   rwa [List.getElem?_append_left h1]at hy
  ·rw [if_neg h1,if_pos h9,List.getElem?_append_left (by omega)]
   rwa [List.getElem?_append_right (by omega)]at hy
end Go.Proofs.YtckaneapjpiocaaGreatDoor
