/- The texts Pow in one file. -/
import Derived.Test.YtckaneapjpiocaaGreatDoorQ46
import Derived.Test.YtckaneapjpiocaaGreatDoorQ51
set_option linter.unusedVariables false
set_option linter.unusedSimpArgs false
set_option maxHeartbeats 16000000
set_option maxRecDepth 100000
namespace Go.Proofs.YtckaneapjpiocaaGreatDoor
open Go.RowKit Go.Maps Go.Sort Go.Shelf
theorem Heap.dropN{w0 w:World}: ∀(n:Nat) {its:List It},Heap w0 its w→Heap w0 (its.drop n) w
 | 0,_,h=>h
 | n+1, [],h=>h
 | n+1,x::its,h=>Heap.dropN n h.tail
theorem alA{α:Type}{D D0:List α}{n:Nat}(h: ∀i,n≤i→D[i]?=D0[i]?):D.drop n=D0.drop n:=
 List.ext_getElem? fun i=>by rw [List.getElem?_drop,List.getElem?_drop];exact h _ (by omega)
theorem aot{a b c:It}{X Y:List It}:(a::b::c::(X++Y)).Perm ((c::X)++Y++ [b]++ [a]):=by
 have h:((c::X)++Y++ [b]++ [a])=(c::(X++Y))++ [b,a]:=by simp
 rw [h]
 exact(List.Perm.swap b a _).trans (List.perm_append_comm (l₁:= [b,a]))
theorem aiI{w W:World}(hM:xf w)(hW:Ext w W):Calls Tryz.prog 25 #[.slice none 0 0] W fun e w'=>e= .returned (.tuple #[.agg adK.toArray,.int .i64 21])∧Ext W w':=
 (abG W ⟨none,0,0, []⟩ (hM.ext hW) (ace ..) (Nat.zero_le _) (fun x hx=>by cases hx)).mono fun e w' q=>by
   rcases q with⟨_,q⟩ | ⟨u,S,L,q,_⟩
   ·exact q
   ·cases q
theorem ahy(w:World)(p:Pol)(hM:xf w)(h:Pol.At w 0 w.heap.size p):
 Calls Tryz.prog 10 #[.agg p.cells.toArray] w fun e w'=>e= .returned (.bool true)∧Ext w w':=by
 have HMx:=hiD hM
 have HAl:=hiD (fun W (hW:Ext w W)=>acK W (hM.ext hW))
 have HO:=hiD (fun W (hW:Ext w W)=>adl W p (hM.ext hW) (h.on hW (Nat.le_refl _)))
 cases hb:yf p with
 | false=>
   have HO2:=hiD (fun W (hW:Ext w W)=>(HO.out W hW).mono (R':=fun e w'=>e= .returned (.tuple #[.slice none 0 0,.int .i64 9])∧Ext W w') fun e w' q=>by
    rcases q with⟨_,q⟩ | ⟨q,_⟩
    ·exact q
    ·rw [hb]at q;cases q)
   have HRn:=hiD (fun W (hW:Ext w W)=>aiI hM hW)
   clear HO h hM hb
   obtain⟨cap,⟨tA,tn,tc,tx⟩,⟨fA,fn,fc,fx⟩,⟨lA,ln,lc,lx⟩⟩:=p
   simp only [Pol.cells,Sl.val]at *
   go_enter Tryz.func10,Tryz.ntmps10
   go_upto_region 1 with fail
   generalize hwH:World.alloc w _=w1;have HH:=hiD (Heap.one hwH);clear hwH
   go_wp2_with fail
   refine cX HH (HAl.out _ HH.out.ext) ?_
   clear HH
   intro w2 HH
   go_wp2_with (refine lSX HH zD 0 ?_)
   refine cX HH (HO2.out _ HH.out.ext) ?_
   clear HH
   intro w3 HH
   go_wp2_with (refine lSX HH zD 0 ?_)
   refine cX HH (HO2.out _ HH.out.ext) ?_
   clear HH
   intro w4 HH
   go_wp2_with fail
   refine cX HH (HRn.out _ HH.out.ext) ?_
   clear HH
   intro w5 HH
   go_upto_region 7 with(refine sSX (hiD (HH.out.alloc _ _)) zD 0 ?_;clear HH;intro wS HH)
   go_wp2_with fail
   go_loopw [9] (fun v wr=>v= .int .i64 0∧Hid (Ext w wr)) (fun v _=>0)
   case atStart=>exact⟨rfl,hiD HH.out.ext⟩
   case round=>
    clear HH
    obtain⟨rfl,E⟩:=hrel
    go_wp2_with fail
    refine(HRn.out _ E.out).mono ?_
    rintro e w6 ⟨rfl,e6⟩
    have HH:=hiD ((Heap.start wr).later e6)
    clear e6
    go_upto_region 11 with(refine sSX (hiD (HH.out.alloc _ _)) zD 0 ?_;clear HH;intro wS HH)
    go_wp2_with fail
    refine wp_region_held_drew (S:=fun w'=>w'=(wS).drew) (by kernel_rfl) rfl (fun hHeld=>?_)
    refine tW 0 8 ?_
    refine sW 8 37 ?_
    refine tW 45 2 ?_
    refine dnX ?_
    clear hHeld
    go_wp2_with fail
    go_ret
    exact⟨rfl,(E.out.trans HH.out.ext).drew⟩
 | true=>
   have HO2:=hiD (fun W (hW:Ext w W)=>(HO.out W hW).mono (R':=fun e w'=> ∃(A:Option Addr) (c:Nat) (os:List Ob),e= .returned (.tuple #[.slice A os.length c,.int .i64 0])∧os.length≤149∧((os.map obk).Perm (obP p)∧aa9 os)∧Heap W (.row 56 3 (.slice A os.length c) os.length (os.flatMap Ob.cells)::os.map yg) w') fun e w' q=>by
    rcases q with⟨q,_⟩ | ⟨_,A,c,os,q1,q2,q3,q4⟩
    ·rw [hb]at q;cases q
    ·exact⟨A,c,os,q1,(ae2 h hb q2 q3 q4).max,⟨q2,q3⟩,q4⟩)
   have HRd:=hiD (fun W0 W (A:Option Addr) (c:Nat) (os:List Ob) (hW:Ext w W) (ho:(os.map obk).Perm (obP p)∧aa9 os) (H:Heap W0 (.row 56 3 (.slice A os.length c) os.length (os.flatMap Ob.cells)::os.map yg) W)=>(abG W ⟨A,os.length,c,os⟩ (hM.ext hW) (ae2 h hb ho.1 ho.2 H).at_ (Nat.le_trans (ae2 h hb ho.1 ho.2 H).max (by decide)) (ae2 h hb ho.1 ho.2 H).small).mono (R':=fun e w'=> ∃(u:Pol) (S:Nat→Prop) (L:RdL),e= .returned (.tuple #[.agg u.cells.toArray,.int .i64 0])∧(u.bare=p.bare∧PolIn L u∧u.fit)∧Heap W [It.bag S L] w') fun e w' t=>by
    have q:=ae2 h hb ho.1 ho.2 H
    rcases t with⟨t,_⟩ | ⟨u,S,L,t1,t2,t3,t4,t5⟩
    ·rw [q.read]at t;cases t
    ·rw [q.read]at t1
     exact⟨u,S,L,t2,⟨(Option.some.inj t1).symm,t3,t4⟩,t5⟩)
   have HDt:=hiD (fun w0 w1 (A:Option Addr) (c:Nat) (os:List Ob) (ho:(os.map obk).Perm (obP p)∧aa9 os) (H:Heap w0 (.row 56 3 (.slice A os.length c) os.length (os.flatMap Ob.cells)::os.map yg) w1)=>fun x hx=>((ae2 h hb ho.1 ho.2 H).small x hx).1)
   have HSm:=hiD (fun W (hW:Ext w W) (u:Pol) (hu:Pol.At W 0 W.heap.size u) (hq:u.bare=p.bare)=>acQ W u p hu (h.on hW (Nat.le_refl _)) hq)
   have HTn:=hiD h.ten
   clear HO h hM hb
   have HTc:=hiD (show p.cells= [.int .i64 p.cap,p.ten.val,p.forced.val,p.log.val]from rfl)
   rw [HTc.out]at HO2 HSm ⊢
   clear HTc
   obtain⟨pc,hpc⟩: ∃P:List Ob→Prop,P=fun os=>(os.map obk).Perm (obP p)∧aa9 os:=⟨_,rfl⟩
   obtain⟨pb,hpb⟩: ∃P:Pol→RdL→Prop,P=fun u L=>u.bare=p.bare∧PolIn L u∧u.fit:=⟨_,rfl⟩
   have HPb:=hiD (show∀u L,pb u L→u.bare=p.bare∧PolIn L u∧u.fit from fun u L q=>by rw [hpb]at q;exact q)
   have HO3:=hiD (show∀W (hW:Ext w W),Calls Tryz.prog 23 #[.agg (#[.int .i64 p.cap,p.ten.val,p.forced.val,p.log.val]:Array Value)] W fun e w'=> ∃(A:Option Addr) (c:Nat) (os:List Ob),e= .returned (.tuple #[.slice A os.length c,.int .i64 0])∧os.length≤149∧pc os∧Heap W (.row 56 3 (.slice A os.length c) os.length (os.flatMap Ob.cells)::os.map yg) w' from by rw [hpc];exact HO2.out)
   have HRb:=hiD (show∀W0 W (A:Option Addr) (c:Nat) (os:List Ob) (hW:Ext w W) (ho:pc os) (H:Heap W0 (.row 56 3 (.slice A os.length c) os.length (os.flatMap Ob.cells)::os.map yg) W),Calls Tryz.prog 25 #[.slice A os.length c] W fun e w'=> ∃(u:Pol) (S:Nat→Prop) (L:RdL),e= .returned (.tuple #[.agg u.cells.toArray,.int .i64 0])∧pb u L∧Heap W [It.bag S L] w' from by rw [hpc,hpb];exact HRd.out)
   have HDo:=hiD (show∀w0 w1 (A:Option Addr) (c:Nat) (os:List Ob) (ho:pc os) (H:Heap w0 (.row 56 3 (.slice A os.length c) os.length (os.flatMap Ob.cells)::os.map yg) w1),∀x∈os,x.data.n≤100000000 from by rw [hpc];exact HDt.out)
   have HTt:=hiD (show∀(u:Pol) (hq:u.bare=p.bare),u.ten.xs.map Tnt.bare=p.ten.xs.map Tnt.bare from fun u hq=>congrArg (fun x:Pol=>x.ten.xs) hq)
   clear HO2 HRd HDt hpc hpb
   obtain⟨cap,⟨tA,tn,tc,tx⟩,⟨fA,fn,fc,fx⟩,⟨lA,ln,lc,lx⟩⟩:=p
   have hTn:=hiD (show tn=tx.length from HTn.out.len)
   simp only [Sl.val]at HO3 HSm ⊢
   go_enter Tryz.func10,Tryz.ntmps10
   go_upto_region 1 with fail
   generalize hwH:World.alloc w _=w1;have HH:=hiD (Heap.one hwH);clear hwH
   obtain⟨tb,htb⟩: ∃b,b=w.heap.size:=⟨_,rfl⟩
   rw [←htb]at HH ⊢
   clear htb
   go_wp2_with fail
   refine cX HH (HAl.out _ HH.out.ext) ?_
   clear HH
   intro w2 HH
   go_wp2_with (refine lSX HH zD 0 ?_)
   refine(HO3.out _ HH.out.ext).mono ?_
   rintro e w3 ⟨A,c,os,rfl,hol,ho,h3⟩
   have HH2:=HH
   have HH3:=hiD h3
   have HO:=hiD ho
   have HD3:=hiD (HDo.out _ _ A c os ho h3)
   replace HH:=hiD (HH.out.later h3.ext)
   clear h3 ho
   go_wp2_with (refine lSX HH zD 0 ?_)
   refine(HO3.out _ HH.out.ext).mono ?_
   rintro e w4 ⟨A2,c2,os2,rfl,hol2,ho,h4⟩
   have HQ:=hiD ho
   have HJ:=hiD (HH3.out.joinR h4)
   replace HH:=hiD (HH.out.later h4.ext)
   have H34:=hiD (HH3.out.later h4.ext)
   clear h4 ho HO3 HDo
   go_wp2_with fail
   refine(HRb.out _ _ A c os HH.out.ext HO.out H34.out).mono ?_
   rintro e w5 ⟨u,S,L,rfl,hu,h5⟩
   have HU:=hiD hu
   replace HJ:=hiD ((HJ.out.joinR h5))
   clear hu h5 HH H34 HO
   have HUc:=hiD (show u.cells= [.int .i64 u.cap,.slice u.ten.A u.ten.n u.ten.c,.slice u.forced.A u.forced.n u.forced.c,.slice u.log.A u.log.n u.log.c]from rfl)
   rw [HUc.out]
   go_upto_region 7 with(refine aeh ((Heap.start _).alloc _ _) zD rfl rfl rfl rfl 0 rfl rfl rfl rfl ?_;intro wS HHS;have HJ2:=hiD (HJ.out.joinR HHS);clear HHS)
   obtain⟨ub,hub⟩: ∃b,b=w5.heap.size:=⟨_,rfl⟩
   rw [←hub]at HJ2 ⊢
   clear hub HJ
   obtain⟨uv,huv⟩: ∃uv:List Value,uv= [.int .i64 u.cap,.slice u.ten.A u.ten.n u.ten.c,.slice u.forced.A u.forced.n u.forced.c,.slice u.log.A u.log.n u.log.c]:=⟨_,rfl⟩
   have Huv:=hiD huv
   obtain⟨E,hE⟩: ∃E,E=It.row 56 3 (.slice A2 os2.length c2) os2.length (os2.flatMap Ob.cells)::os2.map yg:=⟨_,rfl⟩
   have HE:=hiD hE
   obtain⟨D0,hD0⟩: ∃D0,D0=os.map yg++E:=⟨_,rfl⟩
   have HD0:=hiD hD0
   have HJ:=hiD (show Heap w2 (.box ub uv::It.bag S L:: .row 56 3 (.slice A os.length c) os.length (os.flatMap Ob.cells)::D0) wS by
    rw [huv,hD0,hE]
    have h9:Heap w2 ((It.row 56 3 (.slice A os.length c) os.length (os.flatMap Ob.cells)::os.map yg)++(It.row 56 3 (.slice A2 os2.length c2) os2.length (os2.flatMap Ob.cells)::os2.map yg)++ [It.bag S L]++ [.box ub [.int .i64 u.cap,.slice u.ten.A u.ten.n u.ten.c,.slice u.forced.A u.forced.n u.forced.c,.slice u.log.A u.log.n u.log.c]]) wS:=HJ2.out
    exact h9.perm aot)
   clear HJ2 huv hE hD0
   go_wp2_with fail
   go_loopw [9] (fun v wr=> ∃(j:Nat) (D:List It),j≤os.length∧v= .int .i64 (j:Int)∧Hid (∀i,j≤i→D[i]?=D0[i]?)∧Hid (Heap w2 (.box ub uv::It.bag S L:: .row 56 3 (.slice A os.length c) os.length (os.flatMap Ob.cells)::D) wr)) (fun v _=>os.length - (intOf v).toNat)
   case atStart=>exact⟨0,D0,Nat.zero_le _,rfl,hiD (fun _ _=>rfl),HJ⟩
   case round=>
    clear HJ
    obtain⟨j,D,hj,rfl,HD,HH⟩:=hrel
    by_cases hlt:j < os.length
    ·obtain⟨b1,o1,hlA,hb1,f0,f1,f2⟩:=aaJ (HH.out.rowRd 2 rfl) hlt
     subst hlA
     have HDj:=hiD (show D[j]?=some (yg os[j])by
      rw [HD.out j (Nat.le_refl _),HD0.out,List.getElem?_append_left (by rw [List.length_map];exact hlt)]
      simp [hlt])
     have hdn:(os[j]).data.n≤maxLen:=Nat.le_trans (HD3.out _ (List.getElem_mem hlt)) (by decide)
     generalize os[j]=x at *
     obtain⟨key,⟨dA,dn,dc,dx⟩,⟨qA,qn,qc,qx⟩⟩:=x
     simp only [Sl.val]at f1 f2
     have hjk:(j:Int) < (os.length:Int):=by omega
     clear f0 f2
     go_wp2_with fail
     refine(akY HH.out (j+3) dA dn dc dx HDj.out hdn).mono ?_
     rintro e w8 ⟨⟨v,rfl⟩,zs,h8⟩
     replace HH:=hiD h8
     clear h8 f1
     simp only [List.set_cons_succ]at HH
     go_wp2_with fail
     go_roundw
     case rel=>
      refine⟨j+1,D.set j _,by omega,by go_num,hiD (fun i hi=>?_),HH⟩
      rw [List.getElem?_set_ne (by omega)]
      exact HD.out i (by omega)
     case measure=>(first | (simp [intOf];done) | (simp [intOf];omega))
    ·obtain rfl:j=os.length:=by omega
     have HM:=hiD (show Heap w2 (It.row 56 3 (.slice A2 os2.length c2) os2.length (os2.flatMap Ob.cells)::os2.map yg) wr by
      have h1:=HH.out.tail.tail.tail.dropN os.length
      rw [alA HD.out,HD0.out,List.drop_left' (by rw [List.length_map]),HE.out]at h1
      exact h1)
     have K0:=hiD (HH.out.pair 0 1 rfl rfl rfl)
     have hEx:=HH2.out.ext.trans HH.out.ext
     have HRm:=hiD (HRb.out _ _ A2 c2 os2 hEx HQ.out HM.out)
     clear HH HM HD HRb hEx hlt HE HD0 HQ HD3 HH3
     go_wp2_with fail
     refine HRm.out.mono ?_
     rintro e w6 ⟨v,S9,L9,rfl,hv,h6⟩
     have HH:=hiD (show Heap w [.box tb [.int .i64 cap,.slice tA tn tc,.slice fA fn fc,.slice lA ln lc],.box ub uv,It.bag S L,It.bag S9 L9] w6 from HH2.out.joinR (K0.out.joinR h6))
     rw [Huv.out]at HH
     have HU1:=hiD (HPb.out _ _ HU.out)
     have HV1:=hiD (HPb.out _ _ hv)
     clear hv h6 K0 HH2 HRm HU HPb HUc Huv
     obtain⟨ucap,⟨uA,un,uc,ux⟩,⟨vA,vn,vc,vx⟩,⟨xA,xn,xc,xx⟩⟩:=u
     obtain⟨qcap,⟨qA,qn,qc,qx⟩,⟨yA,yn,yc,yx⟩,⟨zA,zn,zc,zx⟩⟩:=v
     simp only [Pol.cells,Sl.val]at HH ⊢
     go_upto_region 11 with(refine sSX (hiD (HH.out.alloc _ _)) zD 0 ?_;clear HH;intro wS HH)
     obtain⟨vb,hvb⟩: ∃b,b=w6.heap.size:=⟨_,rfl⟩
     rw [←hvb]at HH ⊢
     clear hvb
     have HS1:=hiD (fun W (hW:Heap w [.box vb [.int .i64 qcap,.slice qA qn qc,.slice yA yn yc,.slice zA zn zc],.box tb [.int .i64 cap,.slice tA tn tc,.slice fA fn fc,.slice lA ln lc],.box ub [.int .i64 ucap,.slice uA un uc,.slice vA vn vc,.slice xA xn xc],It.bag S L,It.bag S9 L9] W)=>HSm.out W hW.ext _ (HU1.out.2.1.at_ hW (j:=3) rfl HU1.out.2.2) HU1.out.1)
     have HS2:=hiD (fun W (hW:Heap w [.box vb [.int .i64 qcap,.slice qA qn qc,.slice yA yn yc,.slice zA zn zc],.box tb [.int .i64 cap,.slice tA tn tc,.slice fA fn fc,.slice lA ln lc],.box ub [.int .i64 ucap,.slice uA un uc,.slice vA vn vc,.slice xA xn xc],It.bag S L,It.bag S9 L9] W)=>HSm.out W hW.ext _ (HV1.out.2.1.at_ hW (j:=4) rfl HV1.out.2.2) HV1.out.1)
     simp only [Pol.cells,Sl.val]at HS1 HS2
     have HBt:=hiD (HTt.out _ HU1.out.1)
     have Hun:=hiD (show un=ux.length from HU1.out.2.1.ten.len)
     have HL1:=hiD (show(uA,ux.flatMap Tnt.cells)∈L from HU1.out.2.1.ten.mem)
     have HA1:=hiD (fun W (hW:Heap w [.box vb [.int .i64 qcap,.slice qA qn qc,.slice yA yn yc,.slice zA zn zc],.box tb [.int .i64 cap,.slice tA tn tc,.slice fA fn fc,.slice lA ln lc],.box ub [.int .i64 ucap,.slice uA un uc,.slice vA vn vc,.slice xA xn xc],It.bag S L,It.bag S9 L9] W)=>show∀t∈ux,Tnt.At W 0 W.heap.size t from(HU1.out.2.1.at_ hW (j:=3) rfl HU1.out.2.2).ten.all)
     have hun2:un≤1048576:=by rw [Hun.out];exact HU1.out.2.2.tenS
     clear HSm HTt HU1 HV1
     by_cases h0:tn=0
     ·have h0b:((tn:Int) == 0)=true:=by rw [h0];rfl
      clear h0
      have HHd:=hiD HH.out.drew
      clear HH HA1 HL1 HBt
      refine wp_region_held_drew (S:=Heap w [.box vb [.int .i64 qcap,.slice qA qn qc,.slice yA yn yc,.slice zA zn zc],.box tb [.int .i64 cap,.slice tA tn tc,.slice fA fn fc,.slice lA ln lc],.box ub [.int .i64 ucap,.slice uA un uc,.slice vA vn vc,.slice xA xn xc],It.bag S L,It.bag S9 L9]) (by kernel_rfl) HHd.out (fun hHeld=>?_)
      generalize World.drew _=wd at *
      refine tW 0 3 ?_
      refine sW 3 3 ?_
      refine tW 6 13 ?_
      refine tG 19 rfl (fun wT hST=>zj hST zD (by kernel_rfl) rfl rfl 2 rfl (Nat.le_of_ble_eq_true rfl)) hHeld ?_
      refine lyX ?_
      refine tG 20 rfl (fun wT hST=>zj hST zD (by kernel_rfl) rfl rfl 1 rfl (Nat.le_of_ble_eq_true rfl)) hHeld ?_
      refine lyX ?_
      clear hHeld
      refine oS 21 (fun K hK=>?_)
      (try go_simp)
      refine(HS1.out _ HHd.out).mono ?_
      rintro e w7 ⟨rfl,e7⟩
      replace HHd:=hiD (HHd.out.later e7)
      clear e7
      go_wp2_with fail
      refine hK.out _ _ HHd.out (fun hHeld=>?_)
      clear hK K
      refine lyX ?_
      refine tW 22 2 ?_
      refine tG 24 rfl (fun wT hST=>zj hST zD (by kernel_rfl) rfl rfl 0 rfl (Nat.le_of_ble_eq_true rfl)) hHeld ?_
      refine lyX ?_
      refine tG 25 rfl (fun wT hST=>zj hST zD (by kernel_rfl) rfl rfl 1 rfl (Nat.le_of_ble_eq_true rfl)) hHeld ?_
      refine lyX ?_
      clear hHeld
      refine oS 26 (fun K hK=>?_)
      (try go_simp)
      refine(HS2.out _ HHd.out).mono ?_
      rintro e w8 ⟨rfl,e8⟩
      replace HHd:=hiD (HHd.out.later e8)
      clear e8
      go_wp2_with fail
      refine hK.out _ _ HHd.out (fun hHeld=>?_)
      clear hK K
      refine lyX ?_
      refine tW 27 3 ?_
      refine tH 30 1 ?_
      refine tW 31 3 ?_
      refine sW 34 9 ?_
      refine tW 43 4 ?_
      refine dnX ?_
      clear hHeld
      go_wp2_with fail
      go_ret
      exact⟨rfl,HHd.out.ext⟩
     ·have l2:0 < tx.length:=by have:=hTn.out;omega
      have l1:0 < ux.length:=by rw [ac6 HBt.out];exact l2
      have hne:((tn:Int) == 0)=false:=by rw [beq_eq_false_iff_ne];omega
      have hp1:(0:Int) < (tn:Int):=by omega
      have hp2:(0:Int) < (un:Int):=by rw [Hun.out];omega
      have hp3:0 < tn:=by omega
      have hp4:0 < un:=by omega
      have hp5:decide (0 < tn)=true:=by simpa using hp3
      have hp6:decide (0 < un)=true:=by simpa using hp4
      obtain⟨b2,o2,hA2,_,hb2,G2⟩:=zh (size:=7) (fun _=>rfl) (by omega) HTn.out.rd l2
      obtain⟨b1,o1,hA1,_,_,_⟩:=zh (size:=7) (fun _=>rfl) (by omega) (HH.out.bagRd (j:=3) rfl HL1.out) l1
      dsimp only at hA2
      subst hA1 hA2
      have HF:=hiD (fun W (hW:Heap w [.box vb [.int .i64 qcap,.slice qA qn qc,.slice yA yn yc,.slice zA zn zc],.box tb [.int .i64 cap,.slice (some ⟨b2,o2,none⟩) tn tc,.slice fA fn fc,.slice lA ln lc],.box ub [.int .i64 ucap,.slice (some ⟨b1,o1,none⟩) un uc,.slice vA vn vc,.slice xA xn xc],It.bag S L,It.bag S9 L9] W) i z (hz:(ux[0].cells)[i]?=some z)=>show W.cell? ⟨b1,o1+i,none⟩=some z from by
       obtain⟨b',o',he,_,_,G⟩:=zh (size:=7) (fun _=>rfl) (by omega) (hW.bagRd (j:=3) rfl HL1.out) l1
       simp only [Option.some.injEq,Addr.mk.injEq,and_true]at he
       obtain⟨rfl,rfl⟩:=he
       have:=G i z hz
       rwa [Nat.zero_mul,Nat.add_zero]at this)
      have HG:=hiD (fun W (hW:Heap w [.box vb [.int .i64 qcap,.slice qA qn qc,.slice yA yn yc,.slice zA zn zc],.box tb [.int .i64 cap,.slice (some ⟨b2,o2,none⟩) tn tc,.slice fA fn fc,.slice lA ln lc],.box ub [.int .i64 ucap,.slice (some ⟨b1,o1,none⟩) un uc,.slice vA vn vc,.slice xA xn xc],It.bag S L,It.bag S9 L9] W) i z (hz:(tx[0].cells)[i]?=some z)=>show W.cell? ⟨b2,o2+i,none⟩=some z from by
       have:=(Below.cell hW.ext hb2).trans (G2 i z hz)
       rwa [Nat.zero_mul,Nat.add_zero]at this)
      have HS3:=hiD (fun W (hW:Heap w [.box vb [.int .i64 qcap,.slice qA qn qc,.slice yA yn yc,.slice zA zn zc],.box tb [.int .i64 cap,.slice (some ⟨b2,o2,none⟩) tn tc,.slice fA fn fc,.slice lA ln lc],.box ub [.int .i64 ucap,.slice (some ⟨b1,o1,none⟩) un uc,.slice vA vn vc,.slice xA xn xc],It.bag S L,It.bag S9 L9] W)=>show Calls Tryz.prog 18 #[.agg ux[0].cells.toArray,.agg tx[0].cells.toArray] W fun e w'=>e= .returned (.bool true)∧Ext W w' from by
       have h1:=HA1.out W hW _ (List.getElem_mem l1)
       have h2:=Tnt.At.on (HTn.out.all _ (List.getElem_mem l2)) hW.ext (Nat.le_refl _)
       have:=aeC W ux[0] tx[0] h1 h2
       rwa [afY h1 h2 (ac3 HBt.out 0 l1 l2)]at this)
      clear G2 hb2 HA1 HL1 HBt HTn
      generalize ux[0]=xu at *
      generalize tx[0]=xt at *
      have HHd:=hiD HH.out.drew
      clear HH
      refine wp_region_held_drew (S:=Heap w [.box vb [.int .i64 qcap,.slice qA qn qc,.slice yA yn yc,.slice zA zn zc],.box tb [.int .i64 cap,.slice (some ⟨b2,o2,none⟩) tn tc,.slice fA fn fc,.slice lA ln lc],.box ub [.int .i64 ucap,.slice (some ⟨b1,o1,none⟩) un uc,.slice vA vn vc,.slice xA xn xc],It.bag S L,It.bag S9 L9]) (by kernel_rfl) HHd.out (fun hHeld=>?_)
      generalize World.drew _=wd at *
      refine tW 0 3 ?_
      refine sW 3 3 ?_
      refine tW 6 13 ?_
      refine tG 19 rfl (fun wT hST=>zj hST zD (by kernel_rfl) rfl rfl 2 rfl (Nat.le_of_ble_eq_true rfl)) hHeld ?_
      refine lyX ?_
      refine tG 20 rfl (fun wT hST=>zj hST zD (by kernel_rfl) rfl rfl 1 rfl (Nat.le_of_ble_eq_true rfl)) hHeld ?_
      refine lyX ?_
      clear hHeld
      refine oS 21 (fun K hK=>?_)
      (try go_simp)
      refine(HS1.out _ HHd.out).mono ?_
      rintro e w7 ⟨rfl,e7⟩
      replace HHd:=hiD (HHd.out.later e7)
      clear e7
      go_wp2_with fail
      refine hK.out _ _ HHd.out (fun hHeld=>?_)
      clear hK K
      refine lyX ?_
      refine tW 22 2 ?_
      refine tG 24 rfl (fun wT hST=>zj hST zD (by kernel_rfl) rfl rfl 0 rfl (Nat.le_of_ble_eq_true rfl)) hHeld ?_
      refine lyX ?_
      refine tG 25 rfl (fun wT hST=>zj hST zD (by kernel_rfl) rfl rfl 1 rfl (Nat.le_of_ble_eq_true rfl)) hHeld ?_
      refine lyX ?_
      clear hHeld
      refine oS 26 (fun K hK=>?_)
      (try go_simp)
      refine(HS2.out _ HHd.out).mono ?_
      rintro e w8 ⟨rfl,e8⟩
      replace HHd:=hiD (HHd.out.later e8)
      clear e8
      go_wp2_with fail
      refine hK.out _ _ HHd.out (fun hHeld=>?_)
      clear hK K
      refine lyX ?_
      refine tW 27 3 ?_
      refine tH 30 1 ?_
      refine tW 31 4 ?_
      refine tH 35 2 ?_
      refine tW 36 1 ?_
      refine tG 37 rfl (fun wT hST=>qm (HF.out wT hST) rfl zt (by kernel_rfl) rfl rfl) hHeld ?_
      refine lyX ?_
      refine tW 38 1 ?_
      refine tH 39 1 ?_
      refine tW 40 1 ?_
      refine tG 41 rfl (fun wT hST=>qm (HG.out wT hST) rfl zt (by kernel_rfl) rfl rfl) hHeld ?_
      refine lyX ?_
      clear hHeld
      refine oS 42 (fun K hK=>?_)
      (try go_simp)
      refine(HS3.out _ HHd.out).mono ?_
      rintro e w9 ⟨rfl,e9⟩
      replace HHd:=hiD (HHd.out.later e9)
      clear e9
      go_wp2_with fail
      refine hK.out _ _ HHd.out (fun hHeld=>?_)
      clear hK K
      refine lyX ?_
      refine tW 43 4 ?_
      refine dnX ?_
      clear hHeld
      go_wp2_with fail
      go_ret
      exact⟨rfl,HHd.out.ext⟩
end Go.Proofs.YtckaneapjpiocaaGreatDoor
