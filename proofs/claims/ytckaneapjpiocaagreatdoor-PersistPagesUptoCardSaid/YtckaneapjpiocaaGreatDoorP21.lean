/- The texts Tr9 in one file. -/
import Derived.Test.YtckaneapjpiocaaGreatDoorP17
import Derived.Test.YtckaneapjpiocaaGreatDoorP20
set_option linter.unusedVariables false
set_option linter.unusedSimpArgs false
set_option maxHeartbeats 16000000
set_option maxRecDepth 100000
namespace Go.Proofs.YtckaneapjpiocaaGreatDoor
open Go.RowKit Go.Maps Go.Sort Go.Shelf
theorem acI(w:World)(A:Option Addr)(n c:Nat)(xs:List Lin)(hn:n=xs.length)(hm:n≤9223372036854775807)(hr:Rd w 0 w.heap.size A (xs.flatMap Lin.cells))(p:Lin→Bool)(F:Value)(f:FuncId)(caps:Array Value)(hf:F= .func (.func f) #[] caps)(hcf: ∀args w,(callFunc f args).run Tryz.prog w= .ok (.enter f args) w)
 (hF: ∀x∈xs,∀w1,Ext w w1→Calls Tryz.prog f (#[.agg x.cells.toArray]++caps) w1 fun e w'=>e= .returned (.bool (p x))∧Ext w1 w'):
 Calls Tryz.prog 144 #[.slice A n c,F] w fun e w'=>e= .returned (.int .i64 (zw p xs))∧Ext w w':=by
 subst hf
 have Hn:=Lib.hid hn
 have HF:=Lib.hid hF
 have HAt:=Lib.hid (qi p xs)
 have HNo:=Lib.hid (xM p xs)
 generalize zw p xs=V at *
 clear hn hF
 go_enter Tryz.func144,Tryz.ntmps144
 go_wp2_with fail
 go_loopw [8] (fun i wr=> ∃k:Nat,k≤n∧i= .int .i64 k∧Hid (∀x∈xs.take k,p x=false)∧Ext w wr) (fun i _=>n - (intOf i).toNat)
 case atStart=>exact⟨0,Nat.zero_le _,rfl,Lib.hid (by simp),Ext.refl _⟩
 case round=>
  obtain⟨k,hk,rfl,HK,e1⟩:=hrel
  by_cases hlt:k < n
  ·have hl:k < xs.length:=by rw [←Hn.out];omega
   obtain⟨b1,o1,rfl,_,hb1,G0⟩:=zk (size:=4) (fun _=>rfl) (by omega) hr hl
   have HC:=Lib.hid (HF.out xs[k] (List.getElem_mem _) wr e1)
   have HY:=Lib.hid (HAt.out k hl HK.out)
   have HT:=Lib.hid (List.take_succ_eq_append_getElem hl)
   have G: ∀j u,(Lin.cells xs[k])[j]?=some u→wr.cell? ⟨b1,o1+k * 4+j,none⟩=some u:=fun j u hu=>by rw [Below.cell e1 hb1];exact G0 j u hu
   generalize xs[k]=x at *
   have g0:=G 0 _ rfl;have g1:=G 1 _ rfl;have g2:=G 2 _ rfl;have g3:=G 3 _ rfl
   simp only [Nat.add_zero,Nat.mul_one]at g0
   clear G G0
   go_wp2_with fail
   refine HC.out.mono ?_
   rintro e w2 ⟨rfl,e2⟩
   cases ho:p x
   ·go_wp2_with fail
    go_roundw
    case rel=>
     refine⟨k+1,by omega,by go_num,Lib.hid (fun z hz=>?_),blo⟩
     rw [HT.out]at hz
     rcases List.mem_append.1 hz with hz | hz
     ·exact HK.out z hz
     ·simp only [List.mem_singleton]at hz;subst hz;exact ho
    case measure=>simp [intOf];omega
   ·go_wp2_with fail
    go_ret
    exact⟨by rw [HY.out ho];rfl,blo⟩
  ·obtain rfl:k=n:=by omega
   have h1:=HK.out
   rw [List.take_of_length_le (by rw [←Hn.out];exact Nat.le_refl _)]at h1
   have HZ:=Lib.hid (HNo.out h1)
   clear h1
   go_wp2_with fail
   go_ret
   exact⟨by rw [HZ.out];rfl,e1⟩
theorem afv: ∀args w,(callFunc 85 args).run Tryz.prog w= .ok (.enter 85 args) w:=abN Tryz.func85 (by kernel_rfl) rfl
theorem acm(l:List Lin):decide (0≤zw (fun x:Lin=>!liB x) l)=!(l.all liB):=by
 by_cases h:0≤zw (fun x:Lin=>!liB x) l
 ·obtain⟨h1,h2⟩:=qR _ l h
  have h3:l.all liB=false:=xt liB l _ h1 (by simpa using h2)
  rw [h3,decide_eq_true h];rfl
 ·rw [decide_eq_false h]
  have h3:l.all liB=true:=List.all_eq_true.2 fun x hx=>by
   cases hq:liB x with
   | true=>rfl
   | false=>
     exfalso
     obtain⟨k,hk,rfl⟩:=List.getElem_of_mem hx
     have h4: ∀(l:List Lin),zw (fun x:Lin=>!liB x) l < 0→ ∀x∈l,liB x=true:=by
      intro l
      induction l with
      | nil=>intro _ x hx;cases hx
      | cons y l ih=>
        intro hf x hx
        rw [zw]at hf
        by_cases hy:(!liB y)=true
        ·rw [if_pos hy]at hf;omega
        ·rw [if_neg hy]at hf
         by_cases h0:zw (fun x:Lin=>!liB x) l < 0
         ·rcases List.mem_cons.1 hx with rfl | hx
          ·simpa using hy
          ·exact ih h0 x hx
         ·rw [if_neg h0]at hf;omega
     have:=h4 l (by omega) _ (List.getElem_mem hk)
     rw [this]at hq;cases hq
  rw [h3];rfl
theorem afR(w:World)(s:Sl Lin)(hM:yJ w)(h:Sl.At w 0 w.heap.size Lin.cells Lin.sm s):
 Calls Tryz.prog 84 #[s.val,.func (.func 85) #[] #[]] w fun e w'=>e= .returned (.bool (!(s.xs.all liB)))∧Ext w w':=by
 have HI:=Lib.hid (acI w s.A s.n s.c s.xs h.len (Nat.le_trans (Nat.le_trans h.le h.cap) (by decide)) h.rd (fun x=>!liB x) (.func (.func 85) #[] #[]) 85 #[] rfl afv
  (fun x hx w1 e1=>agc w1 x (hM.ext e1) (h.all x hx)))
 have HV:=Lib.hid (acm s.xs)
 clear h hM
 generalize zw _ s.xs=fi at *
 generalize (!(s.xs.all liB))=V at *
 simp only [Sl.val]
 go_enter Tryz.func84,Tryz.ntmps84
 go_wp2_with fail
 refine HI.out.mono ?_
 rintro e w2 ⟨rfl,e2⟩
 go_wp2_with fail
 go_ret
 exact⟨x9 HV.out,e2⟩
theorem abF(w:World)(t:Tnt)(hM:yJ w)(h:Tnt.At w 0 w.heap.size t):
 Calls Tryz.prog 36 #[.agg t.cells.toArray] w fun e w'=>e= .returned (.int .i64 (zZ t))∧Ext w w':=by
 have HNm:=Lib.hid (fun W=>xf t.name W (Nat.le_trans h.name (by decide)))
 have HAq:=Lib.hid (fun W=>yE W t.quota 0 (zr h.quota).1 (zr h.quota).2)
 have HAx:=Lib.hid (fun W=>yE W t.next 1 (zr h.next).1 (zr h.next).2)
 have HSs:=Lib.hid (fun W (hW:Ext w W)=>af9 W t (hM.ext hW) (yD h.sets hW (Nat.le_refl _) fun _ h=>Dst.At.on h hW (Nat.le_refl _)))
 have HGr:=Lib.hid (fun W (hW:Ext w W)=>aeY W t.grants (hM.ext hW) (yD h.grants hW (Nat.le_refl _) fun _ h=>h))
 have HSt:=Lib.hid (fun W (hW:Ext w W)=>adD W t.stages (hM.ext hW) (yD h.stages hW (Nat.le_refl _) fun _ h=>Stg.At.on h hW (Nat.le_refl _)))
 have HLc:=Lib.hid (fun W (hW:Ext w W)=>afR W t.log (hM.ext hW) (yD h.log hW (Nat.le_refl _) fun _ h=>h))
 have HV:=Lib.hid (show zZ t=if(zi t.name && (zy t.quota 0 && (zy t.next 1 && (yv t.sets.xs && (grB t.grants.xs && (xo t.stages.xs && (decide (t.log.xs.length≤16) && t.log.xs.all liB)))))))=true then 0 else 9 from rfl)
 have Hln:=Lib.hid (show t.log.n=t.log.xs.length from h.log.len)
 have hlm:t.log.n≤9223372036854775807:=Nat.le_trans (Nat.le_trans h.log.le h.log.cap) (by decide)
 rw [←Hln.out]at HV
 generalize zZ t=V at *
 clear h hM Hln
 obtain⟨name,quota,next,⟨A,n,c,xs⟩,⟨gA,gn,gc,gs⟩,⟨aA,an,ac,ax⟩,⟨lA,ln,lc,ls⟩⟩:=t
 dsimp only at HNm HAq HAx HV hlm
 simp only [Tnt.cells,Sl.val]at HSs HGr HSt HLc ⊢
 generalize zi name=nb at *
 generalize zy quota 0=qb at *
 generalize zy next 1=xb at *
 generalize yv xs=sb at *
 generalize grB gs=gb at *
 generalize xo ax=tb at *
 generalize ls.all liB=lb at *
 go_enter Tryz.func36,Tryz.ntmps36
 go_upto_region 1 with fail
 generalize hwH:World.alloc w _=w1;have HH:=Lib.hid (Heap.one hwH);clear hwH
 obtain⟨c0,c1,c2,c3,c4,c5,c6,-⟩:=zb (HH.out.boxAt 0 rfl)
 cases nb with
 | false=>
   go_wp2_with (first | (go_at_call 44;with_reducible refine(HNm.out _).mono ?_;rintro e wa ⟨rfl,ea⟩;replace HH:=Lib.hid (HH.out.later ea);clear ea;clear c0 c1 c2 c3 c4 c5 c6;obtain⟨c0,c1,c2,c3,c4,c5,c6,-⟩:=zb (HH.out.boxAt 0 rfl)) | (go_at_call 80;with_reducible refine(HAq.out _).mono ?_;rintro e wb ⟨rfl,eb⟩;replace HH:=Lib.hid (HH.out.later eb);clear eb;clear c0 c1 c2 c3 c4 c5 c6;obtain⟨c0,c1,c2,c3,c4,c5,c6,-⟩:=zb (HH.out.boxAt 0 rfl)) | (go_at_call 80;with_reducible refine(HAx.out _).mono ?_;rintro e wc ⟨rfl,ec⟩;replace HH:=Lib.hid (HH.out.later ec);clear ec;clear c0 c1 c2 c3 c4 c5 c6;obtain⟨c0,c1,c2,c3,c4,c5,c6,-⟩:=zb (HH.out.boxAt 0 rfl)) | (go_at_call 81;refine(HSs.out _ HH.out.ext).mono ?_;rintro e wd ⟨rfl,ed⟩;replace HH:=Lib.hid (HH.out.later ed);clear ed;clear c0 c1 c2 c3 c4 c5 c6;obtain⟨c0,c1,c2,c3,c4,c5,c6,-⟩:=zb (HH.out.boxAt 0 rfl)) | (go_at_call 82;refine(HGr.out _ HH.out.ext).mono ?_;rintro e wf ⟨rfl,ef⟩;replace HH:=Lib.hid (HH.out.later ef);clear ef;clear c0 c1 c2 c3 c4 c5 c6;obtain⟨c0,c1,c2,c3,c4,c5,c6,-⟩:=zb (HH.out.boxAt 0 rfl)) | (go_at_call 83;refine(HSt.out _ HH.out.ext).mono ?_;rintro e wg ⟨rfl,eg⟩;replace HH:=Lib.hid (HH.out.later eg);clear eg;clear c0 c1 c2 c3 c4 c5 c6;obtain⟨c0,c1,c2,c3,c4,c5,c6,-⟩:=zb (HH.out.boxAt 0 rfl)) | (go_at_call 84;refine(HLc.out _ HH.out.ext).mono ?_;rintro e wh ⟨rfl,eh⟩;replace HH:=Lib.hid (HH.out.later eh);clear eh;clear c0 c1 c2 c3 c4 c5 c6;obtain⟨c0,c1,c2,c3,c4,c5,c6,-⟩:=zb (HH.out.boxAt 0 rfl)))
   go_ret
   exact⟨by rw [HV.out];rfl,HH.out.ext⟩
 | true=>
   cases qb with
   | false=>
     go_wp2_with (first | (go_at_call 44;with_reducible refine(HNm.out _).mono ?_;rintro e wa ⟨rfl,ea⟩;replace HH:=Lib.hid (HH.out.later ea);clear ea;clear c0 c1 c2 c3 c4 c5 c6;obtain⟨c0,c1,c2,c3,c4,c5,c6,-⟩:=zb (HH.out.boxAt 0 rfl)) | (go_at_call 80;with_reducible refine(HAq.out _).mono ?_;rintro e wb ⟨rfl,eb⟩;replace HH:=Lib.hid (HH.out.later eb);clear eb;clear c0 c1 c2 c3 c4 c5 c6;obtain⟨c0,c1,c2,c3,c4,c5,c6,-⟩:=zb (HH.out.boxAt 0 rfl)) | (go_at_call 80;with_reducible refine(HAx.out _).mono ?_;rintro e wc ⟨rfl,ec⟩;replace HH:=Lib.hid (HH.out.later ec);clear ec;clear c0 c1 c2 c3 c4 c5 c6;obtain⟨c0,c1,c2,c3,c4,c5,c6,-⟩:=zb (HH.out.boxAt 0 rfl)) | (go_at_call 81;refine(HSs.out _ HH.out.ext).mono ?_;rintro e wd ⟨rfl,ed⟩;replace HH:=Lib.hid (HH.out.later ed);clear ed;clear c0 c1 c2 c3 c4 c5 c6;obtain⟨c0,c1,c2,c3,c4,c5,c6,-⟩:=zb (HH.out.boxAt 0 rfl)) | (go_at_call 82;refine(HGr.out _ HH.out.ext).mono ?_;rintro e wf ⟨rfl,ef⟩;replace HH:=Lib.hid (HH.out.later ef);clear ef;clear c0 c1 c2 c3 c4 c5 c6;obtain⟨c0,c1,c2,c3,c4,c5,c6,-⟩:=zb (HH.out.boxAt 0 rfl)) | (go_at_call 83;refine(HSt.out _ HH.out.ext).mono ?_;rintro e wg ⟨rfl,eg⟩;replace HH:=Lib.hid (HH.out.later eg);clear eg;clear c0 c1 c2 c3 c4 c5 c6;obtain⟨c0,c1,c2,c3,c4,c5,c6,-⟩:=zb (HH.out.boxAt 0 rfl)) | (go_at_call 84;refine(HLc.out _ HH.out.ext).mono ?_;rintro e wh ⟨rfl,eh⟩;replace HH:=Lib.hid (HH.out.later eh);clear eh;clear c0 c1 c2 c3 c4 c5 c6;obtain⟨c0,c1,c2,c3,c4,c5,c6,-⟩:=zb (HH.out.boxAt 0 rfl)))
     go_ret
     exact⟨by rw [HV.out];rfl,HH.out.ext⟩
   | true=>
     cases xb with
     | false=>
       go_wp2_with (first | (go_at_call 44;with_reducible refine(HNm.out _).mono ?_;rintro e wa ⟨rfl,ea⟩;replace HH:=Lib.hid (HH.out.later ea);clear ea;clear c0 c1 c2 c3 c4 c5 c6;obtain⟨c0,c1,c2,c3,c4,c5,c6,-⟩:=zb (HH.out.boxAt 0 rfl)) | (go_at_call 80;with_reducible refine(HAq.out _).mono ?_;rintro e wb ⟨rfl,eb⟩;replace HH:=Lib.hid (HH.out.later eb);clear eb;clear c0 c1 c2 c3 c4 c5 c6;obtain⟨c0,c1,c2,c3,c4,c5,c6,-⟩:=zb (HH.out.boxAt 0 rfl)) | (go_at_call 80;with_reducible refine(HAx.out _).mono ?_;rintro e wc ⟨rfl,ec⟩;replace HH:=Lib.hid (HH.out.later ec);clear ec;clear c0 c1 c2 c3 c4 c5 c6;obtain⟨c0,c1,c2,c3,c4,c5,c6,-⟩:=zb (HH.out.boxAt 0 rfl)) | (go_at_call 81;refine(HSs.out _ HH.out.ext).mono ?_;rintro e wd ⟨rfl,ed⟩;replace HH:=Lib.hid (HH.out.later ed);clear ed;clear c0 c1 c2 c3 c4 c5 c6;obtain⟨c0,c1,c2,c3,c4,c5,c6,-⟩:=zb (HH.out.boxAt 0 rfl)) | (go_at_call 82;refine(HGr.out _ HH.out.ext).mono ?_;rintro e wf ⟨rfl,ef⟩;replace HH:=Lib.hid (HH.out.later ef);clear ef;clear c0 c1 c2 c3 c4 c5 c6;obtain⟨c0,c1,c2,c3,c4,c5,c6,-⟩:=zb (HH.out.boxAt 0 rfl)) | (go_at_call 83;refine(HSt.out _ HH.out.ext).mono ?_;rintro e wg ⟨rfl,eg⟩;replace HH:=Lib.hid (HH.out.later eg);clear eg;clear c0 c1 c2 c3 c4 c5 c6;obtain⟨c0,c1,c2,c3,c4,c5,c6,-⟩:=zb (HH.out.boxAt 0 rfl)) | (go_at_call 84;refine(HLc.out _ HH.out.ext).mono ?_;rintro e wh ⟨rfl,eh⟩;replace HH:=Lib.hid (HH.out.later eh);clear eh;clear c0 c1 c2 c3 c4 c5 c6;obtain⟨c0,c1,c2,c3,c4,c5,c6,-⟩:=zb (HH.out.boxAt 0 rfl)))
       go_ret
       exact⟨by rw [HV.out];rfl,HH.out.ext⟩
     | true=>
       cases sb with
       | false=>
         go_wp2_with (first | (go_at_call 44;with_reducible refine(HNm.out _).mono ?_;rintro e wa ⟨rfl,ea⟩;replace HH:=Lib.hid (HH.out.later ea);clear ea;clear c0 c1 c2 c3 c4 c5 c6;obtain⟨c0,c1,c2,c3,c4,c5,c6,-⟩:=zb (HH.out.boxAt 0 rfl)) | (go_at_call 80;with_reducible refine(HAq.out _).mono ?_;rintro e wb ⟨rfl,eb⟩;replace HH:=Lib.hid (HH.out.later eb);clear eb;clear c0 c1 c2 c3 c4 c5 c6;obtain⟨c0,c1,c2,c3,c4,c5,c6,-⟩:=zb (HH.out.boxAt 0 rfl)) | (go_at_call 80;with_reducible refine(HAx.out _).mono ?_;rintro e wc ⟨rfl,ec⟩;replace HH:=Lib.hid (HH.out.later ec);clear ec;clear c0 c1 c2 c3 c4 c5 c6;obtain⟨c0,c1,c2,c3,c4,c5,c6,-⟩:=zb (HH.out.boxAt 0 rfl)) | (go_at_call 81;refine(HSs.out _ HH.out.ext).mono ?_;rintro e wd ⟨rfl,ed⟩;replace HH:=Lib.hid (HH.out.later ed);clear ed;clear c0 c1 c2 c3 c4 c5 c6;obtain⟨c0,c1,c2,c3,c4,c5,c6,-⟩:=zb (HH.out.boxAt 0 rfl)) | (go_at_call 82;refine(HGr.out _ HH.out.ext).mono ?_;rintro e wf ⟨rfl,ef⟩;replace HH:=Lib.hid (HH.out.later ef);clear ef;clear c0 c1 c2 c3 c4 c5 c6;obtain⟨c0,c1,c2,c3,c4,c5,c6,-⟩:=zb (HH.out.boxAt 0 rfl)) | (go_at_call 83;refine(HSt.out _ HH.out.ext).mono ?_;rintro e wg ⟨rfl,eg⟩;replace HH:=Lib.hid (HH.out.later eg);clear eg;clear c0 c1 c2 c3 c4 c5 c6;obtain⟨c0,c1,c2,c3,c4,c5,c6,-⟩:=zb (HH.out.boxAt 0 rfl)) | (go_at_call 84;refine(HLc.out _ HH.out.ext).mono ?_;rintro e wh ⟨rfl,eh⟩;replace HH:=Lib.hid (HH.out.later eh);clear eh;clear c0 c1 c2 c3 c4 c5 c6;obtain⟨c0,c1,c2,c3,c4,c5,c6,-⟩:=zb (HH.out.boxAt 0 rfl)))
         go_ret
         exact⟨by rw [HV.out];rfl,HH.out.ext⟩
       | true=>
         cases gb with
         | false=>
           go_wp2_with (first | (go_at_call 44;with_reducible refine(HNm.out _).mono ?_;rintro e wa ⟨rfl,ea⟩;replace HH:=Lib.hid (HH.out.later ea);clear ea;clear c0 c1 c2 c3 c4 c5 c6;obtain⟨c0,c1,c2,c3,c4,c5,c6,-⟩:=zb (HH.out.boxAt 0 rfl)) | (go_at_call 80;with_reducible refine(HAq.out _).mono ?_;rintro e wb ⟨rfl,eb⟩;replace HH:=Lib.hid (HH.out.later eb);clear eb;clear c0 c1 c2 c3 c4 c5 c6;obtain⟨c0,c1,c2,c3,c4,c5,c6,-⟩:=zb (HH.out.boxAt 0 rfl)) | (go_at_call 80;with_reducible refine(HAx.out _).mono ?_;rintro e wc ⟨rfl,ec⟩;replace HH:=Lib.hid (HH.out.later ec);clear ec;clear c0 c1 c2 c3 c4 c5 c6;obtain⟨c0,c1,c2,c3,c4,c5,c6,-⟩:=zb (HH.out.boxAt 0 rfl)) | (go_at_call 81;refine(HSs.out _ HH.out.ext).mono ?_;rintro e wd ⟨rfl,ed⟩;replace HH:=Lib.hid (HH.out.later ed);clear ed;clear c0 c1 c2 c3 c4 c5 c6;obtain⟨c0,c1,c2,c3,c4,c5,c6,-⟩:=zb (HH.out.boxAt 0 rfl)) | (go_at_call 82;refine(HGr.out _ HH.out.ext).mono ?_;rintro e wf ⟨rfl,ef⟩;replace HH:=Lib.hid (HH.out.later ef);clear ef;clear c0 c1 c2 c3 c4 c5 c6;obtain⟨c0,c1,c2,c3,c4,c5,c6,-⟩:=zb (HH.out.boxAt 0 rfl)) | (go_at_call 83;refine(HSt.out _ HH.out.ext).mono ?_;rintro e wg ⟨rfl,eg⟩;replace HH:=Lib.hid (HH.out.later eg);clear eg;clear c0 c1 c2 c3 c4 c5 c6;obtain⟨c0,c1,c2,c3,c4,c5,c6,-⟩:=zb (HH.out.boxAt 0 rfl)) | (go_at_call 84;refine(HLc.out _ HH.out.ext).mono ?_;rintro e wh ⟨rfl,eh⟩;replace HH:=Lib.hid (HH.out.later eh);clear eh;clear c0 c1 c2 c3 c4 c5 c6;obtain⟨c0,c1,c2,c3,c4,c5,c6,-⟩:=zb (HH.out.boxAt 0 rfl)))
           go_ret
           exact⟨by rw [HV.out];rfl,HH.out.ext⟩
         | true=>
           cases tb with
           | false=>
             go_wp2_with (first | (go_at_call 44;with_reducible refine(HNm.out _).mono ?_;rintro e wa ⟨rfl,ea⟩;replace HH:=Lib.hid (HH.out.later ea);clear ea;clear c0 c1 c2 c3 c4 c5 c6;obtain⟨c0,c1,c2,c3,c4,c5,c6,-⟩:=zb (HH.out.boxAt 0 rfl)) | (go_at_call 80;with_reducible refine(HAq.out _).mono ?_;rintro e wb ⟨rfl,eb⟩;replace HH:=Lib.hid (HH.out.later eb);clear eb;clear c0 c1 c2 c3 c4 c5 c6;obtain⟨c0,c1,c2,c3,c4,c5,c6,-⟩:=zb (HH.out.boxAt 0 rfl)) | (go_at_call 80;with_reducible refine(HAx.out _).mono ?_;rintro e wc ⟨rfl,ec⟩;replace HH:=Lib.hid (HH.out.later ec);clear ec;clear c0 c1 c2 c3 c4 c5 c6;obtain⟨c0,c1,c2,c3,c4,c5,c6,-⟩:=zb (HH.out.boxAt 0 rfl)) | (go_at_call 81;refine(HSs.out _ HH.out.ext).mono ?_;rintro e wd ⟨rfl,ed⟩;replace HH:=Lib.hid (HH.out.later ed);clear ed;clear c0 c1 c2 c3 c4 c5 c6;obtain⟨c0,c1,c2,c3,c4,c5,c6,-⟩:=zb (HH.out.boxAt 0 rfl)) | (go_at_call 82;refine(HGr.out _ HH.out.ext).mono ?_;rintro e wf ⟨rfl,ef⟩;replace HH:=Lib.hid (HH.out.later ef);clear ef;clear c0 c1 c2 c3 c4 c5 c6;obtain⟨c0,c1,c2,c3,c4,c5,c6,-⟩:=zb (HH.out.boxAt 0 rfl)) | (go_at_call 83;refine(HSt.out _ HH.out.ext).mono ?_;rintro e wg ⟨rfl,eg⟩;replace HH:=Lib.hid (HH.out.later eg);clear eg;clear c0 c1 c2 c3 c4 c5 c6;obtain⟨c0,c1,c2,c3,c4,c5,c6,-⟩:=zb (HH.out.boxAt 0 rfl)) | (go_at_call 84;refine(HLc.out _ HH.out.ext).mono ?_;rintro e wh ⟨rfl,eh⟩;replace HH:=Lib.hid (HH.out.later eh);clear eh;clear c0 c1 c2 c3 c4 c5 c6;obtain⟨c0,c1,c2,c3,c4,c5,c6,-⟩:=zb (HH.out.boxAt 0 rfl)))
             go_ret
             exact⟨by rw [HV.out];rfl,HH.out.ext⟩
           | true=>
             by_cases hl:ln≤16
             ·have hl2:decide ((16:Int) < (ln:Int))=false:=decide_eq_false (by omega)
              have hl3:decide (ln≤16)=true:=decide_eq_true hl
              rw [hl3]at HV
              cases lb with
              | false=>
                go_wp2_with (first | (go_at_call 44;with_reducible refine(HNm.out _).mono ?_;rintro e wa ⟨rfl,ea⟩;replace HH:=Lib.hid (HH.out.later ea);clear ea;clear c0 c1 c2 c3 c4 c5 c6;obtain⟨c0,c1,c2,c3,c4,c5,c6,-⟩:=zb (HH.out.boxAt 0 rfl)) | (go_at_call 80;with_reducible refine(HAq.out _).mono ?_;rintro e wb ⟨rfl,eb⟩;replace HH:=Lib.hid (HH.out.later eb);clear eb;clear c0 c1 c2 c3 c4 c5 c6;obtain⟨c0,c1,c2,c3,c4,c5,c6,-⟩:=zb (HH.out.boxAt 0 rfl)) | (go_at_call 80;with_reducible refine(HAx.out _).mono ?_;rintro e wc ⟨rfl,ec⟩;replace HH:=Lib.hid (HH.out.later ec);clear ec;clear c0 c1 c2 c3 c4 c5 c6;obtain⟨c0,c1,c2,c3,c4,c5,c6,-⟩:=zb (HH.out.boxAt 0 rfl)) | (go_at_call 81;refine(HSs.out _ HH.out.ext).mono ?_;rintro e wd ⟨rfl,ed⟩;replace HH:=Lib.hid (HH.out.later ed);clear ed;clear c0 c1 c2 c3 c4 c5 c6;obtain⟨c0,c1,c2,c3,c4,c5,c6,-⟩:=zb (HH.out.boxAt 0 rfl)) | (go_at_call 82;refine(HGr.out _ HH.out.ext).mono ?_;rintro e wf ⟨rfl,ef⟩;replace HH:=Lib.hid (HH.out.later ef);clear ef;clear c0 c1 c2 c3 c4 c5 c6;obtain⟨c0,c1,c2,c3,c4,c5,c6,-⟩:=zb (HH.out.boxAt 0 rfl)) | (go_at_call 83;refine(HSt.out _ HH.out.ext).mono ?_;rintro e wg ⟨rfl,eg⟩;replace HH:=Lib.hid (HH.out.later eg);clear eg;clear c0 c1 c2 c3 c4 c5 c6;obtain⟨c0,c1,c2,c3,c4,c5,c6,-⟩:=zb (HH.out.boxAt 0 rfl)) | (go_at_call 84;refine(HLc.out _ HH.out.ext).mono ?_;rintro e wh ⟨rfl,eh⟩;replace HH:=Lib.hid (HH.out.later eh);clear eh;clear c0 c1 c2 c3 c4 c5 c6;obtain⟨c0,c1,c2,c3,c4,c5,c6,-⟩:=zb (HH.out.boxAt 0 rfl)))
                go_ret
                exact⟨by rw [HV.out];rfl,HH.out.ext⟩
              | true=>
                go_wp2_with (first | (go_at_call 44;with_reducible refine(HNm.out _).mono ?_;rintro e wa ⟨rfl,ea⟩;replace HH:=Lib.hid (HH.out.later ea);clear ea;clear c0 c1 c2 c3 c4 c5 c6;obtain⟨c0,c1,c2,c3,c4,c5,c6,-⟩:=zb (HH.out.boxAt 0 rfl)) | (go_at_call 80;with_reducible refine(HAq.out _).mono ?_;rintro e wb ⟨rfl,eb⟩;replace HH:=Lib.hid (HH.out.later eb);clear eb;clear c0 c1 c2 c3 c4 c5 c6;obtain⟨c0,c1,c2,c3,c4,c5,c6,-⟩:=zb (HH.out.boxAt 0 rfl)) | (go_at_call 80;with_reducible refine(HAx.out _).mono ?_;rintro e wc ⟨rfl,ec⟩;replace HH:=Lib.hid (HH.out.later ec);clear ec;clear c0 c1 c2 c3 c4 c5 c6;obtain⟨c0,c1,c2,c3,c4,c5,c6,-⟩:=zb (HH.out.boxAt 0 rfl)) | (go_at_call 81;refine(HSs.out _ HH.out.ext).mono ?_;rintro e wd ⟨rfl,ed⟩;replace HH:=Lib.hid (HH.out.later ed);clear ed;clear c0 c1 c2 c3 c4 c5 c6;obtain⟨c0,c1,c2,c3,c4,c5,c6,-⟩:=zb (HH.out.boxAt 0 rfl)) | (go_at_call 82;refine(HGr.out _ HH.out.ext).mono ?_;rintro e wf ⟨rfl,ef⟩;replace HH:=Lib.hid (HH.out.later ef);clear ef;clear c0 c1 c2 c3 c4 c5 c6;obtain⟨c0,c1,c2,c3,c4,c5,c6,-⟩:=zb (HH.out.boxAt 0 rfl)) | (go_at_call 83;refine(HSt.out _ HH.out.ext).mono ?_;rintro e wg ⟨rfl,eg⟩;replace HH:=Lib.hid (HH.out.later eg);clear eg;clear c0 c1 c2 c3 c4 c5 c6;obtain⟨c0,c1,c2,c3,c4,c5,c6,-⟩:=zb (HH.out.boxAt 0 rfl)) | (go_at_call 84;refine(HLc.out _ HH.out.ext).mono ?_;rintro e wh ⟨rfl,eh⟩;replace HH:=Lib.hid (HH.out.later eh);clear eh;clear c0 c1 c2 c3 c4 c5 c6;obtain⟨c0,c1,c2,c3,c4,c5,c6,-⟩:=zb (HH.out.boxAt 0 rfl)))
                go_ret
                exact⟨by rw [HV.out];rfl,HH.out.ext⟩
             ·have hl2:decide ((16:Int) < (ln:Int))=true:=decide_eq_true (by omega)
              have hl3:decide (ln≤16)=false:=decide_eq_false hl
              rw [hl3]at HV
              go_wp2_with (first | (go_at_call 44;with_reducible refine(HNm.out _).mono ?_;rintro e wa ⟨rfl,ea⟩;replace HH:=Lib.hid (HH.out.later ea);clear ea;clear c0 c1 c2 c3 c4 c5 c6;obtain⟨c0,c1,c2,c3,c4,c5,c6,-⟩:=zb (HH.out.boxAt 0 rfl)) | (go_at_call 80;with_reducible refine(HAq.out _).mono ?_;rintro e wb ⟨rfl,eb⟩;replace HH:=Lib.hid (HH.out.later eb);clear eb;clear c0 c1 c2 c3 c4 c5 c6;obtain⟨c0,c1,c2,c3,c4,c5,c6,-⟩:=zb (HH.out.boxAt 0 rfl)) | (go_at_call 80;with_reducible refine(HAx.out _).mono ?_;rintro e wc ⟨rfl,ec⟩;replace HH:=Lib.hid (HH.out.later ec);clear ec;clear c0 c1 c2 c3 c4 c5 c6;obtain⟨c0,c1,c2,c3,c4,c5,c6,-⟩:=zb (HH.out.boxAt 0 rfl)) | (go_at_call 81;refine(HSs.out _ HH.out.ext).mono ?_;rintro e wd ⟨rfl,ed⟩;replace HH:=Lib.hid (HH.out.later ed);clear ed;clear c0 c1 c2 c3 c4 c5 c6;obtain⟨c0,c1,c2,c3,c4,c5,c6,-⟩:=zb (HH.out.boxAt 0 rfl)) | (go_at_call 82;refine(HGr.out _ HH.out.ext).mono ?_;rintro e wf ⟨rfl,ef⟩;replace HH:=Lib.hid (HH.out.later ef);clear ef;clear c0 c1 c2 c3 c4 c5 c6;obtain⟨c0,c1,c2,c3,c4,c5,c6,-⟩:=zb (HH.out.boxAt 0 rfl)) | (go_at_call 83;refine(HSt.out _ HH.out.ext).mono ?_;rintro e wg ⟨rfl,eg⟩;replace HH:=Lib.hid (HH.out.later eg);clear eg;clear c0 c1 c2 c3 c4 c5 c6;obtain⟨c0,c1,c2,c3,c4,c5,c6,-⟩:=zb (HH.out.boxAt 0 rfl)) | (go_at_call 84;refine(HLc.out _ HH.out.ext).mono ?_;rintro e wh ⟨rfl,eh⟩;replace HH:=Lib.hid (HH.out.later eh);clear eh;clear c0 c1 c2 c3 c4 c5 c6;obtain⟨c0,c1,c2,c3,c4,c5,c6,-⟩:=zb (HH.out.boxAt 0 rfl)))
              go_ret
              exact⟨by rw [HV.out];rfl,HH.out.ext⟩
end Go.Proofs.YtckaneapjpiocaaGreatDoor
