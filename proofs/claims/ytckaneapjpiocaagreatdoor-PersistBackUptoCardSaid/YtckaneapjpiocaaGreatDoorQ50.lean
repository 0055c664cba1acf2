/- The texts Pbk in one file. -/
import Derived.Test.YtckaneapjpiocaaGreatDoorQ46
import Derived.Test.YtckaneapjpiocaaGreatDoorQ49
set_option linter.unusedVariables false
set_option linter.unusedSimpArgs false
set_option maxHeartbeats 16000000
set_option maxRecDepth 100000
namespace Go.Proofs.YtckaneapjpiocaaGreatDoor
open Go.RowKit Go.Maps Go.Sort Go.Shelf
theorem agL(w:World)(p:Pol)(hM:xf w)(h:Pol.At w 0 w.heap.size p):
 Calls Tryz.prog 8 #[.agg p.cells.toArray] w fun e w'=>e= .returned (.bool true)∧Ext w w':=by
 have HMx:=hiD hM
 have HAl:=hiD (fun W (hW:Ext w W)=>acK W (hM.ext hW))
 have HRc:=hiD (fun W (hW:Ext w W)=>af1 W p (h.on hW (Nat.le_refl _)))
 have HO:=hiD (fun W (hW:Ext w W)=>adl W p (hM.ext hW) (h.on hW (Nat.le_refl _)))
 cases hb:yf p with
 | false=>
   have HO2:=hiD (fun W (hW:Ext w W)=>(HO.out W hW).mono (R':=fun e w'=>e= .returned (.tuple #[.slice none 0 0,.int .i64 9])∧Ext W w') fun e w' q=>by
    rcases q with⟨_,q⟩ | ⟨q,_⟩
    ·exact q
    ·rw [hb]at q;cases q)
   rw [abe hb]at HRc
   clear HO h hM hb
   obtain⟨cap,⟨tA,tn,tc,tx⟩,⟨fA,fn,fc,fx⟩,⟨lA,ln,lc,lx⟩⟩:=p
   simp only [Pol.cells,Sl.val]at *
   go_enter Tryz.func8,Tryz.ntmps8
   go_upto_region 1 with fail
   generalize hwH:World.alloc w _=w1;have HH:=hiD (Heap.one hwH);clear hwH
   go_wp2_with fail
   refine cX HH (HAl.out _ HH.out.ext) ?_
   clear HH
   intro w2 HH
   go_wp2_with (refine lSX HH zD 0 ?_)
   refine cX HH (HO2.out _ HH.out.ext) ?_
   clear HH
   intro w3 HH
   go_wp2_with (refine lSX HH zD 0 ?_)
   refine cX HH (HRc.out _ HH.out.ext) ?_
   clear HH
   intro w4 HH
   go_wp2_with fail
   go_ret
   exact⟨rfl,HH.out.ext⟩
 | true=>
   have HO2:=hiD (fun W (hW:Ext w W)=>(HO.out W hW).mono (R':=fun e w'=> ∃(A:Option Addr) (c:Nat) (os:List Ob),e= .returned (.tuple #[.slice A os.length c,.int .i64 0])∧PobR w' p A c os∧Ext W w') fun e w' q=>by
    rcases q with⟨q,_⟩ | ⟨_,A,c,os,q1,q2,q3,q4⟩
    ·rw [hb]at q;cases q
    ·exact⟨A,c,os,q1,ae2 h hb q2 q3 q4,q4.ext⟩)
   rw [show xW p=0 by rw [xW,if_pos hb]]at HRc
   have HSm:=hiD (fun W (hW:Ext w W) (u:Pol) (hu:Pol.At W 0 W.heap.size u) (hq:p.bare=u.bare)=>acQ W p u (h.on hW (Nat.le_refl _)) hu hq)
   have HTn:=hiD h.ten
   have hT4:p.ten.n≤4:=by
    rw [h.ten.len]
    simp only [yf,Bool.and_eq_true,decide_eq_true_eq]at hb
    exact hb.1
   clear HO h hM hb
   obtain⟨pb,hpb⟩: ∃pb,pb=p.bare:=⟨_,rfl⟩
   have HPb:=hiD hpb
   clear hpb
   have HRd:=hiD (fun W0 W (A:Option Addr) (c:Nat) (os:List Ob) (hW:Ext w W) (hX:Ext W0 W) (q:PobR W0 p A c os)=>(abG W ⟨A,os.length,c,os⟩ (HMx.out.ext hW) (yG q.at_ hX (Nat.le_refl _) (fun x hx=>Ob.At.on hx hX (Nat.le_refl _))) (Nat.le_trans q.max (by decide)) q.small).mono (R':=fun e w'=> ∃(u:Pol) (S:Nat→Prop) (L:RdL),e= .returned (.tuple #[.agg u.cells.toArray,.int .i64 0])∧Pol.At w' 0 w'.heap.size u∧p.bare=u.bare∧Heap W [It.bag S L] w') fun e w' t=>by
    rcases t with⟨t,_⟩ | ⟨u,S,L,t1,t2,t3,t4,t5⟩
    ·rw [q.read]at t;cases t
    ·rw [q.read]at t1
     exact⟨u,S,L,t2,t3.at_ t5 (j:=0) rfl t4,Option.some.inj t1,t5⟩)
   have HTc:=hiD (show p.cells= [.int .i64 p.cap,p.ten.val,p.forced.val,p.log.val]from rfl)
   have HPo:=hiD (fun(W:World) (A:Option Addr) (c:Nat) (os:List Ob) (q:PobR W p A c os)=>q.len)
   obtain⟨P,hP⟩: ∃P:World→Option Addr→Nat→List Ob→Prop,P=fun W A c os=>PobR W p A c os:=⟨_,rfl⟩
   rw [HTc.out]at HO2 HRc HSm ⊢
   clear hP P HTc
   obtain⟨cap,⟨tA,tn,tc,tx⟩,⟨fA,fn,fc,fx⟩,⟨lA,ln,lc,lx⟩⟩:=p
   have hTn:=hiD (show tn=tx.length from HTn.out.len)
   simp only [Sl.val]at HO2 HRc HSm ⊢
   dsimp only at hT4 HPo
   go_enter Tryz.func8,Tryz.ntmps8
   go_upto_region 1 with fail
   generalize hwH:World.alloc w _=w1;have HH:=hiD (Heap.one hwH);clear hwH
   obtain⟨tb,htb⟩: ∃b,b=w.heap.size:=⟨_,rfl⟩
   rw [←htb]at HH ⊢
   clear htb
   go_wp2_with fail
   refine cX HH (HAl.out _ HH.out.ext) ?_
   clear HH
   intro w2 HH
   clear HAl
   go_wp2_with (refine lSX HH zD 0 ?_)
   refine(HO2.out _ HH.out.ext).mono ?_
   rintro e w3 ⟨A,c,os,rfl,hq,e3⟩
   replace HH:=hiD (HH.out.later e3)
   have HQ:=hiD hq
   have hmx:os.length≤149:=hq.max
   have HLn:=hiD (HPo.out _ _ _ _ hq)
   clear e3 HO2 hq HPo
   go_wp2_with (refine lSX HH zD 0 ?_)
   refine(HRc.out _ HH.out.ext).mono ?_
   rintro e w4 ⟨rfl,e4⟩
   replace HH:=hiD (HH.out.later e4)
   have E4:=hiD e4
   clear e4 HRc
   go_wp2_with fail
   refine(HRd.out w3 _ A c os HH.out.ext E4.out HQ.out).mono ?_
   rintro e w5 ⟨u,S,L,rfl,hua,hub,h5⟩
   have HS5:=hiD (fun W (hW:Ext w5 W) (hX:Ext w W)=>HSm.out W hX u (hua.on hW (Nat.le_refl _)) hub)
   replace HH:=hiD (HH.out.later h5.ext)
   have E5:=hiD (E4.out.trans h5.ext)
   clear hua hub h5 HSm HRd
   obtain⟨ucap,⟨uA,un,uc,ux⟩,⟨vA,vn,vc,vx⟩,⟨xA,xn,xc,xx⟩⟩:=u
   simp only [Pol.cells,Sl.val]at HS5 ⊢
   go_upto_region 7 with(refine aeh ((Heap.start _).alloc _ _) zD rfl rfl rfl rfl 0 rfl rfl rfl rfl ?_;intro wS HHS;have HSE:=hiD HHS.ext;replace HH:=hiD (HH.out.joinR HHS);clear HHS)
   obtain⟨ub,hub⟩: ∃b,b=w5.heap.size:=⟨_,rfl⟩
   rw [←hub]at HH ⊢
   clear hub
   have hdn:((os.length:Int) == 1+((lenP tx:Nat):Int))=true:=by
    have:=HLn.out
    (try dsimp only at this)
    simp;omega
   have Hdn:=hiD hdn
   have hlm:lenP tx≤148:=by have:=HLn.out;(try dsimp only at this);omega
   have HRi:=hiD HQ.out.ris
   have HRr:=hiD HQ.out.at_.rd
   have E6:=hiD (HH.out.ext)
   have E36:=hiD (show Ext w3 wS from E5.out.trans HSE.out)
   clear hdn HLn
   have HH0:=HH
   clear HH
   go_wp2_with fail
   go_loopw [7,8] (fun m i wr=> ∃k:Nat,k≤tn∧i= .int .i64 (k:Int)∧m= .int .i64 (1+((lenP (tx.take k):Nat):Int))∧Hid (Heap w [.box tb [.int .i64 cap,.slice tA tn tc,.slice fA fn fc,.slice lA ln lc],.box ub [.int .i64 ucap,.slice uA un uc,.slice vA vn vc,.slice xA xn xc]] wr)∧Hid (Ext wS wr)) (fun _ i _=>tn - (intOf i).toNat)
   case atStart=>exact⟨0,Nat.zero_le _,rfl,rfl,HH0,hiD (Ext.refl _)⟩
   case round=>
    clear HH0
    obtain⟨k,hk,rfl,rfl,HH,EW⟩:=hrel
    by_cases hlt:k < tn
    ·have l1:k < tx.length:=by rw [←hTn.out];exact hlt
     have hkk:(k:Int) < (tn:Int):=by omega
     obtain⟨b1,o1,hA1,_,hb1,G1⟩:=zh (size:=7) (fun _=>rfl) (by omega) HTn.out.rd l1
     dsimp only at hA1
     subst hA1
     have G3:=G1 3 _ rfl
     have G5:=G1 5 _ rfl
     have HSt:=hiD (agh tx k l1)
     have hle:=anB tx (k+1)
     have hq:=agh tx k l1
     have hq2:lenP (tx.take k)+(1+tx[k].sets.n+tx[k].stages.n)≤148:=by omega
     clear G1 hle hq
     generalize tx[k]=t at *
     obtain⟨_,_,_,⟨sA,sn,sc,ss⟩,_,⟨aA,an,ac,ax⟩,_⟩:=t
     dsimp only at HSt hq2
     simp only [Sl.val]at G3 G5
     have g3:wr.cell? ⟨b1,o1+k * 7+3,none⟩=some (.slice sA sn sc):=(Below.cell (p:=⟨b1,o1+k * 7+3,none⟩) HH.out.ext hb1).trans G3
     have g5:wr.cell? ⟨b1,o1+k * 7+5,none⟩=some (.slice aA an ac):=(Below.cell (p:=⟨b1,o1+k * 7+5,none⟩) HH.out.ext hb1).trans G5
     have c1:=(HH.out.boxAt 0 rfl).cell 1 _ rfl
     generalize lenP (tx.take k)=q at *
     clear G3 G5 hb1 l1
     have w1_:IntKind.i64.wrap (1+(q:Int)+1)=1+(q:Int)+1:=IntWalk.i64_in _ (by omega)
     have w2_:IntKind.i64.wrap (1+(q:Int)+1+(sn:Int))=1+(q:Int)+1+(sn:Int):=IntWalk.i64_in _ (by omega)
     have w3_:IntKind.i64.wrap (1+(q:Int)+1+(sn:Int)+(an:Int))=1+(q:Int)+1+(sn:Int)+(an:Int):=IntWalk.i64_in _ (by omega)
     go_wp2_with fail
     refine wp_region_held_drew (S:=fun w'=>w'=(wr).drew) (by kernel_rfl) rfl (fun hHeld=>?_)
     refine tW 0 19 ?_
     refine dnX ?_
     clear hHeld w1_ w2_ w3_ g3 g5 c1
     go_wp2_with fail
     go_roundw
     case rel=>exact⟨k+1,by omega,by go_num,by rw [HSt.out];go_num,hiD HH.out.drew,hiD (EW.out.drew)⟩
     case measure=>simp [intOf];omega
    ·have hkt:tn=k:=by omega
     subst hkt
     have hT:tx.take tn=tx:=List.take_of_length_le (by rw [←hTn.out];exact Nat.le_refl _)
     rw [hT]
     clear hT hlt
     generalize lenP tx=q at *
     have c1:=(HH.out.boxAt 0 rfl).cell 1 _ rfl
     go_wp2_with fail
     clear c1
     have HH0:=HH
     have E0:=EW
     clear HH EW
     have h1:1≤os.length:=by have:=Hdn.out;simp at this;omega
     go_loopw [9] (fun i wr=> ∃k:Nat,1≤k∧k≤os.length∧i= .int .i64 (k:Int)∧Hid (Heap w [.box tb [.int .i64 cap,.slice tA tn tc,.slice fA fn fc,.slice lA ln lc],.box ub [.int .i64 ucap,.slice uA un uc,.slice vA vn vc,.slice xA xn xc]] wr)∧Hid (Ext wS wr)) (fun i _=>os.length - (intOf i).toNat)
     case atStart=>exact⟨1,Nat.le_refl _,h1,rfl,HH0,E0⟩
     case round=>
      clear HH0 E0
      obtain⟨k,hk1,hk,rfl,HH,EW⟩:=hrel
      by_cases hlt:k < os.length
      ·obtain⟨j,rfl⟩: ∃j,k=j+1:=⟨k - 1,by omega⟩
       have hkk:((j+1:Nat):Int) < (os.length:Int):=by omega
       obtain⟨b2,o2,hA2,hb2,f0,_,_⟩:=aaJ HRr.out hlt
       obtain⟨b3,o3,hA3,hb3,p0,_,_⟩:=aaJ HRr.out (show j < os.length by omega)
       (try dsimp only at hA2 hA3)
       subst hA2
       simp only [Option.some.injEq,Addr.mk.injEq,and_true]at hA3
       obtain⟨rfl,rfl⟩:=hA3
       have hris:=HRi.out j hlt
       have g0:wr.cell? ⟨b2,o2+(j+1) * 3,none⟩=some (.string os[j+1].key):=(Below.cell (p:=⟨b2,o2+(j+1) * 3,none⟩) (E36.out.trans EW.out) hb2).trans f0
       have g1:wr.cell? ⟨b2,o2+j * 3,none⟩=some (.string os[j].key):=(Below.cell (p:=⟨b2,o2+j * 3,none⟩) (E36.out.trans EW.out) hb2).trans p0
       clear f0 p0 hb2 hb3
       have hl2:Op.bytesLess os[j].key.toList os[j+1].key.toList=true:=hris
       clear hris
       generalize os[j].key=ky at *
       generalize os[j+1].key=kz at *
       have he:((j+1:Nat):Int) - 1=(j:Int):=by omega
       have hwj:IntKind.i64.wrap (j:Int)=(j:Int):=IntWalk.i64_in _ (by omega)
       have hj2:(j:Int) < (os.length:Int):=by omega
       have hj3:(j:Int)+1 < (os.length:Int):=by omega
       have hj4: ¬((j:Int)+1 < 0):=by omega
       have hj5:((j:Int)+1).toNat=j+1:=by omega
       go_wp2_with fail
       refine wp_region_held_drew (S:=fun w'=>w'=(wr).drew) (by kernel_rfl) rfl (fun hHeld=>?_)
       refine tW 0 12 ?_
       refine dnX ?_
       clear hHeld g0 g1
       go_wp2_with fail
       go_roundw
       case rel=>exact⟨j+1+1,by omega,by omega,by go_num,hiD HH.out.drew,hiD EW.out.drew⟩
       case measure=>simp [intOf];omega
      ·obtain rfl:k=os.length:=by omega
       have hdn:=Hdn.out
       obtain⟨c0,c1,c2,c3,-⟩:=zY (HH.out.boxAt 0 rfl)
       obtain⟨d0,d1,d2,d3,-⟩:=zY (HH.out.boxAt 1 rfl)
       go_wp2_with fail
       clear c0 c1 c2 c3 d0 d1 d2 d3
       refine(HS5.out _ (HSE.out.trans EW.out) HH.out.ext).mono ?_
       rintro e w6 ⟨rfl,e6⟩
       have E9:=hiD (HH.out.ext.trans e6)
       clear e6
       go_wp2_with fail
       go_ret
       exact⟨rfl,E9.out⟩
end Go.Proofs.YtckaneapjpiocaaGreatDoor
