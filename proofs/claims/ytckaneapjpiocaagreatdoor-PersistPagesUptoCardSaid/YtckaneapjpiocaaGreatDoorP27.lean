/- The texts Se in one file. -/
import Derived.Test.YtckaneapjpiocaaGreatDoorP25
import Derived.Test.YtckaneapjpiocaaGreatDoorP26
set_option linter.unusedVariables false
set_option linter.unusedSimpArgs false
set_option maxHeartbeats 8000000
set_option maxRecDepth 100000
namespace Go.Proofs.YtckaneapjpiocaaGreatDoor
open Go.RowKit Go.Maps Go.Sort Go.Shelf
theorem ag3(w:World)(name:ByteArray)(x:Dst)(h:Dst.At w 0 w.heap.size x)(hb:bkE x.body.xs=0)(hs: ∀y∈x.snaps.xs,bkE y.body.xs=0)(hE:wE (yI x)=0)(hnm:sml name):
 Calls Tryz.prog 39 #[.string name,.agg x.cells.toArray] w fun e w'=>aaj w w' (zF [kS,name,x.path]) (zM (yI x)) e:=by
 have HLe:=Lib.hid (ahu hE)
 have HSn:=Lib.hid h.snaps
 have HNm:=Lib.hid hnm
 have HPa:=Lib.hid h.path
 have HEs:=Lib.hid hE
 have HBs:=Lib.hid hs
 have HOw:=Lib.hid h.own
 have HOn:=Lib.hid (Nat.le_trans h.ownS (show 1048576≤10000000 by decide))
 have HBo:=Lib.hid (fun W (hW:Ext w W)=>aaN W x.body.A x.body.n x.body.c x.body.xs h.body.len (Rd.at h.body.rd hW (Nat.le_refl _)) h.body.all hb)
 have HBl:=Lib.hid (show(yt x.body.xs).length≤100000000 by
  obtain⟨q1,q2⟩:=xX _ hb
  have:=xT _ q2
  omega)
 have Hsn:=Lib.hid (show x.snaps.n=x.snaps.xs.length from h.snaps.len)
 have hS9:x.snaps.n≤1048576:=h.snapsS
 clear h hb hs hnm hE
 obtain⟨path,orig,⟨bA,bn,bc,bd⟩,⟨sA,sn,sc,ss⟩,⟨pA,pn,pc,ps⟩⟩:=x
 simp only [yI]at HLe HEs ⊢
 dsimp only at HSn HPa HLe HEs HBs HOw HOn HBo HBl Hsn hS9 ⊢
 rw [←Hsn.out]at HLe HEs ⊢
 simp only [Dst.cells,Sl.val]
 go_enter Tryz.func39,Tryz.ntmps39
 go_upto_region 1 with fail
 generalize hwH:World.alloc (World.alloc w _) _=w1;have HH:=Lib.hid (Heap.two hwH);clear hwH
 go_upto_region 2 with fail
 generalize hwA:World.alloc w1 _=w2
 have HH2:=Lib.hid (afB (HH.out.allocE hwA))
 clear hwA HH
 generalize w1.heap.size=wb at *
 have HH:=HH2
 clear HH2
 have HLen:=Lib.hid (show ps.length * 2≤1024 by have:=HLe.out;simp only [List.length_append,List.length_cons,zD]at this;omega)
 go_wp2_with (refine zc HH.out rfl rfl rfl 3 rfl rfl (by decide+kernel) ?_)
 generalize hwA:World.alloc _ _=w3a;have HHa:=Lib.hid (HH.out.allocE hwA);clear hwA HH;refine(qU _ _ _ _ [orig] HHa.out.tail _ _ _ rfl ((HHa.out.boxRd 0 rfl).m0) (by have q0:=HLen.out;(try simp only [List.length_append,List.length_cons,List.length_nil,List.length_map,zD]);omega)).mono ?_;rintro e w3 ⟨rfl,Aw3,cw3,hw3⟩;have HH:=Lib.hid hw3;clear hw3 HHa
 go_wp2_with (refine zc HH.out rfl rfl rfl 3 rfl rfl (by decide+kernel) ?_)
 refine(aft _ _ _ _ ps HH.out _ _ _ HOw.out.len HOn.out HOw.out.rd (by have q0:=HLen.out;(try simp only [List.length_append,List.length_cons,List.length_nil,List.length_map,zD]);omega)).mono ?_;rintro e w4 ⟨rfl,Aw4,cw4,hw4⟩;clear HH;have HH:=Lib.hid hw4;clear hw4
 go_wp2_with (refine zc HH.out rfl rfl rfl 3 rfl rfl (by decide+kernel) ?_)
 refine(HBo.out w4 HH.out.ext).mono ?_;rintro e w5o ⟨vw5,rfl,hown,ew5⟩;obtain⟨Aow5,cow5,rfl,_,_,_⟩:=zo hown;have HHa:=Lib.hid (HH.out.addRow ew5 hown);clear HH hown ew5;go_wp2_with fail;refine(qF _ _ _ _ (yt bd) HHa.out.tail _ _ _ rfl HBl.out ((HHa.out.rowRd 0 rfl).m0) (by have q0:=HLen.out;(try simp only [List.length_append,List.length_cons,List.length_nil,List.length_map,zD]);omega)).mono ?_;rintro e w5 ⟨rfl,Aw5,cw5,hw5⟩;have HH:=Lib.hid hw5;clear hw5 HHa
 go_wp2_with (refine zc HH.out rfl rfl rfl 3 rfl rfl (by decide+kernel) ?_)
 generalize hwA:World.alloc _ _=w6a;have HHa:=Lib.hid (HH.out.allocE hwA);clear hwA HH;refine(yF _ _ _ _ [(sn:Int)] HHa.out.tail _ _ _ rfl ((HHa.out.boxRd 0 rfl).m0) (by have q0:=HLen.out;(try simp only [List.length_append,List.length_cons,List.length_nil,List.length_map,zD]);omega) (by intro z hz;simp only [List.mem_cons,List.not_mem_nil,or_false]at hz;omega)).mono ?_;rintro e w6 ⟨rfl,Aw6,cw6,hw6⟩;have HH:=Lib.hid hw6;clear hw6 HHa
 obtain⟨X0,hX0⟩: ∃X0,X0=orig::(yC ps++ [qr (yt bd),zl (sn:Int)]):=⟨_,rfl⟩
 have HX0:=Lib.hid hX0
 have HLe2:=Lib.hid (show X0.length+(ss.flatMap yz).length≤1024 by
  have:=HLe.out
  rw [hX0]
  simp only [List.length_append,List.length_cons,List.length_nil]at this ⊢
  omega)
 have HH2:=Lib.hid (show Heap w (wtr wb Aw6 cw6 (X0++(ss.take 0).flatMap yz) _) w6 by rw [hX0];simpa using HH.out)
 clear HH hX0 HLen
 have HH:=HH2
 clear HH2
 go_upto_region 7 with(refine zc HH.out rfl rfl rfl 3 rfl rfl (by decide+kernel) ?_)
 generalize hob:(It.box (w.heap.size+1) _)=ob at HH
 generalize htb:(It.box w.heap.size [_,_,_,_,_])=tb at HH
 have Hob:=Lib.hid hob
 have Htb:=Lib.hid htb
 clear hob htb
 go_loopw [7,35] (fun _ i wr=> ∃k:Nat,k≤sn∧i= .int .i64 k∧ ∃A c,Hid (Heap w (wtr wb A c (X0++(ss.take k).flatMap yz) [ob,tb]) wr)) (fun _ i _=>sn - (intOf i).toNat)
 case atStart=>exact⟨0,Nat.zero_le _,rfl,_,_,HH⟩
 case round=>
  clear HH
  obtain⟨k,hk,rfl,A,c,HH⟩:=hrel
  by_cases hlt:k < sn
  ·have l1:k < ss.length:=by rw [←Hsn.out];exact hlt
   obtain⟨b1,o1,hA1,_,hb1,G⟩:=zk (size:=5) (fun _=>rfl) (by omega) HSn.out.rd l1
   dsimp only at hA1
   subst hA1
   have HSm:=Lib.hid (HSn.out.all _ (List.getElem_mem l1))
   have HS:=Lib.hid (aae yz ss k l1)
   have HYl:=Lib.hid (show X0.length+((ss.take k).flatMap yz).length+(yz ss[k]).length≤1024 by have:=agW yz ss k l1;have:=HLe2.out;omega)
   have hbk:=HBs.out _ (List.getElem_mem l1)
   have HGw:=Lib.hid (fun j u hu=>(Below.cell HH.out.ext hb1).trans (G j u hu))
   have HOw1:=Lib.hid HSm.out.own
   have HOn1:=Lib.hid (Nat.le_trans HSm.out.ownS (show 1048576≤10000000 by decide))
   have HBo1:=Lib.hid (fun W (hW:Ext w W)=>aaN W ss[k].body.A ss[k].body.n ss[k].body.c ss[k].body.xs HSm.out.body.len (Rd.at HSm.out.body.rd hW (Nat.le_refl _)) HSm.out.body.all hbk)
   have HBl1:=Lib.hid (show(yt ss[k].body.xs).length≤100000000 by
    obtain⟨q1,q2⟩:=xX _ hbk
    have:=xT _ q2
    omega)
   have HTg:=Lib.hid (fun W (hW:Ext w W)=>show Rd W 0 W.heap.size ss[k].tags.A (ss[k].tags.xs.map Value.string)from by rw [←acp];exact Rd.at HSm.out.tags.rd hW (Nat.le_refl _))
   have HTn:=Lib.hid (show ss[k].tags.n=ss[k].tags.xs.length from HSm.out.tags.len)
   have HGu:=Lib.hid (zr HSm.out.guid)
   clear G hbk HSm
   generalize (ss.take k).flatMap yz=Y at *
   generalize ss[k]=x at *
   obtain⟨nm,gu,⟨dA,dn,dc,dd⟩,⟨tA,tn,tc,td⟩,⟨qA,qn,qc,qs⟩⟩:=x
   dsimp only at HYl HOw1 HOn1 HBo1 HBl1 HTg HTn HGu
   simp only [yz]at HYl HS
   rw [←HTn.out]at HYl HS
   have HGc:=Lib.hid (show∀j u,([.string nm,.int .i64 gu,.slice dA dn dc,.slice tA tn tc,.slice qA qn qc]:List Value)[j]?=some u→wr.cell? ⟨b1,o1+k * 5+j,none⟩=some u from HGw.out)
   clear HGw
   have hkn:(k:Int) < (sn:Int):=by omega
   have HLen:=Lib.hid (show X0.length+Y.length+qs.length * 2+tn+td.length≤3000 by
    have:=HYl.out
    have q:=HTn.out
    simp only [List.length_append,List.length_cons,List.length_nil,zD]at this
    omega)
   go_upto_region 9 with(first | (refine zV HGc.out rfl x0 (by kernel_rfl) rfl rfl rfl ?_) | (refine zt (HH.out.alloc _ _) x0 rfl rfl rfl rfl 0 rfl rfl rfl rfl ?_;clear HH;intro wS HHS;have HH:=Lib.hid HHS;clear HHS))
   have HH2:=Lib.hid (abl (show Heap w (.box wr.heap.size [.string nm,.int .i64 gu,.slice dA dn dc,.slice tA tn tc,.slice qA qn qc]::wtr wb A c (X0++Y) [ob,tb]) wS from HH.out))
   clear HH HGc
   have HH:=HH2
   clear HH2
   go_wp2_with (refine zc HH.out rfl rfl rfl 2 rfl rfl (by decide+kernel) ?_)
   generalize hwA:World.alloc _ _=w21a;have HHa:=Lib.hid (HH.out.allocE hwA);clear hwA HH;refine(qU _ _ _ _ [nm] HHa.out.tail _ _ _ rfl ((HHa.out.boxRd 0 rfl).m0) (by have q0:=HLen.out;(try simp only [List.length_append,List.length_cons,List.length_nil,List.length_map,zD]);omega)).mono ?_;rintro e w21 ⟨rfl,Aw21,cw21,hw21⟩;have HH:=Lib.hid hw21;clear hw21 HHa
   go_wp2_with (refine zc HH.out rfl rfl rfl 2 rfl rfl (by decide+kernel) ?_)
   generalize hwA:World.alloc _ _=w22a;have HHa:=Lib.hid (HH.out.allocE hwA);clear hwA HH;refine(yF _ _ _ _ [gu] HHa.out.tail _ _ _ rfl ((HHa.out.boxRd 0 rfl).m0) (by have q0:=HLen.out;(try simp only [List.length_append,List.length_cons,List.length_nil,List.length_map,zD]);omega) (by intro z hz;simp only [List.mem_cons,List.not_mem_nil,or_false]at hz;have q1:=HGu.out;omega)).mono ?_;rintro e w22 ⟨rfl,Aw22,cw22,hw22⟩;have HH:=Lib.hid hw22;clear hw22 HHa
   go_wp2_with (refine zc HH.out rfl rfl rfl 2 rfl rfl (by decide+kernel) ?_)
   refine(aft _ _ _ _ qs HH.out _ _ _ HOw1.out.len HOn1.out HOw1.out.rd (by have q0:=HLen.out;(try simp only [List.length_append,List.length_cons,List.length_nil,List.length_map,zD]);omega)).mono ?_;rintro e w23 ⟨rfl,Aw23,cw23,hw23⟩;clear HH;have HH:=Lib.hid hw23;clear hw23
   go_wp2_with (refine zc HH.out rfl rfl rfl 2 rfl rfl (by decide+kernel) ?_)
   generalize hwA:World.alloc _ _=w24a;have HHa:=Lib.hid (HH.out.allocE hwA);clear hwA HH;refine(yF _ _ _ _ [(tn:Int)] HHa.out.tail _ _ _ rfl ((HHa.out.boxRd 0 rfl).m0) (by have q0:=HLen.out;(try simp only [List.length_append,List.length_cons,List.length_nil,List.length_map,zD]);omega) (by intro z hz;simp only [List.mem_cons,List.not_mem_nil,or_false]at hz;have q1:=HLen.out;omega)).mono ?_;rintro e w24 ⟨rfl,Aw24,cw24,hw24⟩;have HH:=Lib.hid hw24;clear hw24 HHa
   go_wp2_with (refine zc HH.out rfl rfl rfl 2 rfl rfl (by decide+kernel) ?_)
   refine(qU _ _ _ _ td HH.out _ _ _ HTn.out (HTg.out _ HH.out.ext) (by have q0:=HLen.out;(try simp only [List.length_append,List.length_cons,List.length_nil,List.length_map,zD]);omega)).mono ?_
   rintro e w25 ⟨rfl,Aw25,cw25,h25⟩
   clear HH
   have HH:=Lib.hid h25
   clear h25
   go_wp2_with (refine zc HH.out rfl rfl rfl 2 rfl rfl (by decide+kernel) ?_)
   refine(HBo1.out w25 HH.out.ext).mono ?_;rintro e w26o ⟨vw26,rfl,hown,ew26⟩;obtain⟨Aow26,cow26,rfl,_,_,_⟩:=zo hown;have HHa:=Lib.hid (HH.out.addRow ew26 hown);clear HH hown ew26;go_wp2_with fail;refine(qF _ _ _ _ (yt dd) HHa.out.tail _ _ _ rfl HBl1.out ((HHa.out.rowRd 0 rfl).m0) (by have q0:=HLen.out;(try simp only [List.length_append,List.length_cons,List.length_nil,List.length_map,zD]);omega)).mono ?_;rintro e w26 ⟨rfl,Aw26,cw26,hw26⟩;have HH:=Lib.hid hw26;clear hw26 HHa
   have HH2:=Lib.hid (show Heap w (wtr wb Aw26 cw26 (X0++(ss.take (k+1)).flatMap yz) [ob,tb]) w26 by
    have h:=abi HH.out
    rw [HS.out,←List.append_assoc]
    simpa using h)
   clear HH
   go_wp2_with fail
   go_roundw
   case rel=>exact⟨k+1,by omega,by go_num,_,_,HH2⟩
   case measure=>simp [intOf];omega
  ·obtain rfl:k=sn:=by omega
   have ht:ss.take k=ss:=List.take_of_length_le (by rw [←Hsn.out];exact Nat.le_refl _)
   rw [ht]at HH
   clear ht
   obtain⟨T,hT⟩: ∃T,T=orig::(yC ps++(qr (yt bd)::zl (k:Int)::ss.flatMap yz)):=⟨_,rfl⟩
   have HT:=Lib.hid hT
   have HE2:=Lib.hid (show wE T=0 by rw [hT];exact HEs.out)
   rw [show X0++ss.flatMap yz=T by rw [HX0.out,hT];simp]at HH
   clear hT HX0 HEs
   rw [←Hob.out,←Htb.out]at HH
   clear Hob Htb
   go_wp2_with (refine zc HH.out rfl rfl rfl 3 rfl rfl (by decide+kernel) ?_)
   generalize hwA:World.alloc _ _=w9
   have HHa:=Lib.hid (HH.out.allocE hwA)
   clear hwA HH
   refine(aaQ _ _ _ _ [kS,name,path] HHa.out.tail _ 3 3 rfl (Nat.le_refl _) (by decide) ((HHa.out.boxRd 0 rfl).m0) HE2.out (by
    have q1:=xr [kS,name,path]
    have q2:kS.size=1:=rfl
    have q3:name.size≤1048576:=HNm.out
    have q4:path.size≤1048576:=HPa.out
    simp only [List.map_cons,List.map_nil,List.sum_cons,List.sum_nil]at q1
    omega)).mono ?_
   rintro e w10 ⟨Ao,mo,co,rfl,hown,hmo,e10⟩
   have Hmo:=Lib.hid hmo
   have HH:=Lib.hid (HHa.out.tail.addRow e10 hown)
   clear hown hmo e10 HHa
   go_wp2_with (refine zt HH.out xZ rfl rfl rfl rfl 3 rfl rfl rfl rfl ?_;clear HH;intro wS HHS;have HH:=Lib.hid HHS;clear HHS)
   refine aaB xZ (by kernel_rfl) HH.out rfl rfl 3 rfl rfl rfl ?_
   rw [←HT.out]
   exact⟨Ao,mo,co,rfl,HH.out.rowAt 0 rfl,Hmo.out,HH.out.ext⟩
end Go.Proofs.YtckaneapjpiocaaGreatDoor
