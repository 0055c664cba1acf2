/- The texts He in one file. -/
import Derived.Test.YtckaneapjpiocaaGreatDoorP24
import Derived.Test.YtckaneapjpiocaaGreatDoorP14
set_option linter.unusedVariables false
set_option linter.unusedSimpArgs false
set_option maxHeartbeats 8000000
set_option maxRecDepth 100000
namespace Go.Proofs.YtckaneapjpiocaaGreatDoor
open Go.RowKit Go.Maps Go.Sort Go.Shelf
theorem ql:(Tryz.prog.info? 116).map (·.size)=some 3:=by kernel_rfl
theorem aax:(Tryz.prog.info? 81).map (·.size)=some 4:=by kernel_rfl
theorem aae{α:Type}(f:α→List ByteArray)(l:List α)(k:Nat)(h:k < l.length):(l.take (k+1)).flatMap f=(l.take k).flatMap f++f l[k]:=by
 rw [List.take_succ_eq_append_getElem h,List.flatMap_append];simp
theorem age(w:World)(t:Tnt)(h:Tnt.At w 0 w.heap.size t)(hG:t.grants.n≤16)(hL:t.log.n≤16)(hE:wE (yZ t)=0):
 Calls Tryz.prog 38 #[.agg t.cells.toArray] w fun e w'=>aaj w w' (zF [kT,t.name]) (zM (yZ t)) e:=by
 have HQ:=Lib.hid (zr h.quota)
 have HNx:=Lib.hid (zr h.next)
 have HGa:=Lib.hid h.grants
 have HLi:=Lib.hid h.log
 have HNm:=Lib.hid h.name
 have HEs:=Lib.hid hE
 obtain⟨name,quota,next,⟨sA,sn,sc,ss⟩,⟨gA,gn,gc,gs⟩,⟨aA,an,ac,ax⟩,⟨lA,ln,lc,ls⟩⟩:=t
 have Hgn:=Lib.hid (show gn=gs.length from HGa.out.len)
 have Hln:=Lib.hid (show ln=ls.length from HLi.out.len)
 simp only [yZ]at HEs ⊢
 dsimp only at hG hL HQ HNx HNm HEs ⊢
 rw [←Hgn.out,←Hln.out]at HEs ⊢
 clear h hE
 simp only [Tnt.cells,Sl.val]
 go_enter Tryz.func38,Tryz.ntmps38
 go_upto_region 1 with fail
 generalize hwH:World.alloc (World.alloc w _) _=w1;have HH:=Lib.hid (Heap.two hwH);clear hwH
 go_upto_region 2 with fail
 generalize hwA:World.alloc w1 _=w2
 have HH2:=Lib.hid (afB (HH.out.allocE hwA))
 clear hwA HH
 generalize w1.heap.size=wb at *
 have HH:=HH2
 clear HH2
 have HLen:=Lib.hid (show gn≤16∧ln≤16 from⟨hG,hL⟩)
 go_wp2_with (refine zc HH.out rfl rfl rfl 3 rfl rfl (by decide+kernel) ?_)
 generalize hwA:World.alloc _ _=w3a;have HHa:=Lib.hid (HH.out.allocE hwA);clear hwA HH;refine(yF _ _ _ _ [quota,next,(gn:Int)] HHa.out.tail _ _ _ rfl ((HHa.out.boxRd 0 rfl).m0) (by have q0:=HLen.out;(try simp only [List.length_append,List.length_cons,List.length_nil,List.length_map,zD]);omega) (by intro z hz;simp only [List.mem_cons,List.not_mem_nil,or_false]at hz;have q1:=HQ.out;have q2:=HNx.out;omega)).mono ?_;rintro e w3 ⟨rfl,Aw3,cw3,hw3⟩;have HH:=Lib.hid hw3;clear hw3 HHa
 generalize hob:(It.box (w.heap.size+1) _)=ob at HH
 generalize htb:(It.box w.heap.size [_,_,_,_,_,_,_])=tb at HH
 obtain⟨X0,hX0⟩: ∃X0,X0= [zl quota,zl next,zl (gn:Int)]:=⟨_,rfl⟩
 have HX0:=Lib.hid hX0
 have HH2:=Lib.hid (show Heap w (wtr wb Aw3 cw3 (X0++(gs.take 0).flatMap xe) [ob,tb]) w3 by rw [hX0];exact HH.out)
 clear HH hX0
 have Hob:=Lib.hid hob
 have Htb:=Lib.hid htb
 clear hob htb
 have HH:=HH2
 clear HH2
 have HXl:=Lib.hid (show X0.length=3 by rw [HX0.out];rfl)
 go_upto_region 4 with(rw [←Htb.out]at HH;(refine zc HH.out rfl rfl rfl 3 rfl rfl (by decide+kernel) ?_);rw [Htb.out]at HH)
 go_loopw [5,23] (fun _ i wr=> ∃k:Nat,k≤gn∧i= .int .i64 k∧ ∃A c,Hid (Heap w (wtr wb A c (X0++(gs.take k).flatMap xe) [ob,tb]) wr)) (fun _ i _=>gn - (intOf i).toNat)
 case atStart=>exact⟨0,Nat.zero_le _,rfl,_,_,HH⟩
 case round=>
  clear HH
  obtain⟨k,hk,rfl,A,c,HH⟩:=hrel
  by_cases hlt:k < gn
  ·have l1:k < gs.length:=by rw [←Hgn.out];exact hlt
   obtain⟨b1,o1,hA1,_,hb1,G⟩:=zk (size:=3) (fun _=>rfl) (by omega) HGa.out.rd l1
   dsimp only at hA1
   subst hA1
   have HSm:=Lib.hid (HGa.out.all _ (List.getElem_mem l1))
   have HS:=Lib.hid (aae xe gs k l1)
   have HYl:=Lib.hid (show((gs.take k).flatMap xe).length≤48 from Nat.le_trans (xV xe (gs.take k) 3 fun x _=>by simp [xe]) (by rw [List.length_take];omega))
   have HGw:=Lib.hid (fun j u hu=>(Below.cell HH.out.ext hb1).trans (G j u hu))
   clear G
   generalize (gs.take k).flatMap xe=Y at *
   generalize gs[k]=x at *
   obtain⟨us,pa,pe⟩:=x
   have HGc:=Lib.hid (show∀j u,([.string us,.string pa,.int .i64 pe]:List Value)[j]?=some u→wr.cell? ⟨b1,o1+k * 3+j,none⟩=some u from HGw.out)
   have HPe:=Lib.hid (zr HSm.out.2.2)
   clear HGw HSm
   have hkn:(k:Int) < (gn:Int):=by omega
   go_upto_region 6 with(first | (refine zV HGc.out rfl ql (by kernel_rfl) rfl rfl rfl ?_) | (refine zt (HH.out.alloc _ _) ql rfl rfl rfl rfl 0 rfl rfl rfl rfl ?_;clear HH;intro wS HHS;have HH:=Lib.hid HHS;clear HHS))
   have HH2:=Lib.hid (abl (show Heap w (.box wr.heap.size [.string us,.string pa,.int .i64 pe]::wtr wb A c (X0++Y) [ob,tb]) wS from HH.out))
   clear HH HGc
   have HH:=HH2
   clear HH2
   have HLen:=Lib.hid (show X0.length+Y.length≤51 by rw [HXl.out];have:=HYl.out;omega)
   go_wp2_with (refine zc HH.out rfl rfl rfl 2 rfl rfl (by decide+kernel) ?_)
   generalize hwA:World.alloc _ _=w6a;have HHa:=Lib.hid (HH.out.allocE hwA);clear hwA HH;refine(qU _ _ _ _ [us,pa] HHa.out.tail _ _ _ rfl ((HHa.out.boxRd 0 rfl).m0) (by have q0:=HLen.out;(try simp only [List.length_append,List.length_cons,List.length_nil,List.length_map,zD]);omega)).mono ?_;rintro e w6 ⟨rfl,Aw6,cw6,hw6⟩;have HH:=Lib.hid hw6;clear hw6 HHa
   go_wp2_with (refine zc HH.out rfl rfl rfl 2 rfl rfl (by decide+kernel) ?_)
   generalize hwA:World.alloc _ _=w7a;have HHa:=Lib.hid (HH.out.allocE hwA);clear hwA HH;refine(yF _ _ _ _ [pe] HHa.out.tail _ _ _ rfl ((HHa.out.boxRd 0 rfl).m0) (by have q0:=HLen.out;(try simp only [List.length_append,List.length_cons,List.length_nil,List.length_map,zD]);omega) (by intro z hz;simp only [List.mem_cons,List.not_mem_nil,or_false]at hz;have q1:=HPe.out;(try dsimp only at q1);omega)).mono ?_;rintro e w7 ⟨rfl,Aw7,cw7,hw7⟩;have HH:=Lib.hid hw7;clear hw7 HHa
   have HH2:=Lib.hid (show Heap w (wtr wb Aw7 cw7 (X0++(gs.take (k+1)).flatMap xe) [ob,tb]) w7 by
    have h:=abi HH.out
    rw [HS.out,←List.append_assoc]
    simpa [xe]using h)
   clear HH
   go_wp2_with fail
   go_roundw
   case rel=>exact⟨k+1,by omega,by go_num,_,_,HH2⟩
   case measure=>simp [intOf];omega
  ·obtain rfl:k=gn:=by omega
   have ht:gs.take k=gs:=List.take_of_length_le (by rw [←Hgn.out];exact Nat.le_refl _)
   rw [ht]at HH
   clear ht
   have HYl:=Lib.hid (show(gs.flatMap xe).length≤48 from Nat.le_trans (xV xe gs 3 fun x _=>by simp [xe]) (by have:=Hgn.out;omega))
   clear HLen
   have HLen:=Lib.hid (show X0.length+(gs.flatMap xe).length≤51 by rw [HXl.out];have:=HYl.out;omega)
   generalize hGX:gs.flatMap xe=GX at *
   have HGX:=Lib.hid hGX
   clear hGX HYl
   go_wp2_with (rw [←Htb.out]at HH;(refine zc HH.out rfl rfl rfl 3 rfl rfl (by decide+kernel) ?_);rw [Htb.out]at HH)
   generalize hwA:World.alloc _ _=w8a;have HHa:=Lib.hid (HH.out.allocE hwA);clear hwA HH;refine(yF _ _ _ _ [(ln:Int)] HHa.out.tail _ _ _ rfl ((HHa.out.boxRd 0 rfl).m0) (by have q0:=HLen.out;(try simp only [List.length_append,List.length_cons,List.length_nil,List.length_map,zD]);omega) (by intro z hz;simp only [List.mem_cons,List.not_mem_nil,or_false]at hz;have q1:=HLi.out.len;have q2:=hL;omega)).mono ?_;rintro e w8 ⟨rfl,Aw8,cw8,hw8⟩;have HH:=Lib.hid hw8;clear hw8 HHa
   obtain⟨X1,hX1⟩: ∃X1,X1=X0++GX++ [zl (ln:Int)]:=⟨_,rfl⟩
   have HX1:=Lib.hid hX1
   have HH2:=Lib.hid (show Heap w (wtr wb Aw8 cw8 (X1++(ls.take 0).flatMap zO) [ob,tb]) w8 by rw [hX1];simpa using HH.out)
   clear HH
   have HH:=HH2
   clear HH2
   have HXl1:=Lib.hid (show X1.length≤52 by have:=HLen.out;simp only [hX1,List.length_append,List.length_cons,List.length_nil];omega)
   clear hX1 HLen HXl
   go_upto_region 11 with(rw [←Htb.out]at HH;(refine zc HH.out rfl rfl rfl 3 rfl rfl (by decide+kernel) ?_);rw [Htb.out]at HH)
   go_loopw [7,49] (fun _ i wr=> ∃k:Nat,k≤ln∧i= .int .i64 k∧ ∃A c,Hid (Heap w (wtr wb A c (X1++(ls.take k).flatMap zO) [ob,tb]) wr)) (fun _ i _=>ln - (intOf i).toNat)
   case atStart=>exact⟨0,Nat.zero_le _,rfl,_,_,HH⟩
   case round=>
    clear HH
    obtain⟨j,hj,rfl,A,c,HH⟩:=hrel
    by_cases hlt:j < ln
    ·have l1:j < ls.length:=by rw [←Hln.out];exact hlt
     obtain⟨b1,o1,hA1,_,hb1,G⟩:=zk (size:=4) (fun _=>rfl) (by omega) HLi.out.rd l1
     dsimp only at hA1
     subst hA1
     have HSm:=Lib.hid (HLi.out.all _ (List.getElem_mem l1))
     have HS:=Lib.hid (aae zO ls j l1)
     have HYl:=Lib.hid (show((ls.take j).flatMap zO).length≤64 from Nat.le_trans (xV zO (ls.take j) 4 fun x _=>by simp [zO]) (by rw [List.length_take];omega))
     have HGw:=Lib.hid (fun i u hu=>(Below.cell HH.out.ext hb1).trans (G i u hu))
     clear G
     generalize (ls.take j).flatMap zO=Y at *
     generalize ls[j]=x at *
     obtain⟨us,ki,pa,er⟩:=x
     have HGc:=Lib.hid (show∀i u,([.string us,.int .i64 ki,.string pa,.int .i64 er]:List Value)[i]?=some u→wr.cell? ⟨b1,o1+j * 4+i,none⟩=some u from HGw.out)
     have HKi:=Lib.hid (zr HSm.out.2.2.1)
     have HEr:=Lib.hid (zr HSm.out.2.2.2)
     clear HGw HSm
     have hkn:(j:Int) < (ln:Int):=by omega
     go_upto_region 13 with(first | (refine zV HGc.out rfl aax (by kernel_rfl) rfl rfl rfl ?_) | (refine zt (HH.out.alloc _ _) aax rfl rfl rfl rfl 0 rfl rfl rfl rfl ?_;clear HH;intro wS HHS;have HH:=Lib.hid HHS;clear HHS))
     have HH2:=Lib.hid (abl (show Heap w (.box wr.heap.size [.string us,.int .i64 ki,.string pa,.int .i64 er]::wtr wb A c (X1++Y) [ob,tb]) wS from HH.out))
     clear HH HGc
     have HH:=HH2
     clear HH2
     have HLen:=Lib.hid (show X1.length+Y.length≤116 by have:=HYl.out;have:=HXl1.out;omega)
     go_wp2_with (refine zc HH.out rfl rfl rfl 2 rfl rfl (by decide+kernel) ?_)
     generalize hwA:World.alloc _ _=w21a;have HHa:=Lib.hid (HH.out.allocE hwA);clear hwA HH;refine(qU _ _ _ _ [us] HHa.out.tail _ _ _ rfl ((HHa.out.boxRd 0 rfl).m0) (by have q0:=HLen.out;(try simp only [List.length_append,List.length_cons,List.length_nil,List.length_map,zD]);omega)).mono ?_;rintro e w21 ⟨rfl,Aw21,cw21,hw21⟩;have HH:=Lib.hid hw21;clear hw21 HHa
     go_wp2_with (refine zc HH.out rfl rfl rfl 2 rfl rfl (by decide+kernel) ?_)
     generalize hwA:World.alloc _ _=w22a;have HHa:=Lib.hid (HH.out.allocE hwA);clear hwA HH;refine(yF _ _ _ _ [ki] HHa.out.tail _ _ _ rfl ((HHa.out.boxRd 0 rfl).m0) (by have q0:=HLen.out;(try simp only [List.length_append,List.length_cons,List.length_nil,List.length_map,zD]);omega) (by intro z hz;simp only [List.mem_cons,List.not_mem_nil,or_false]at hz;have q1:=HKi.out;(try dsimp only at q1);omega)).mono ?_;rintro e w22 ⟨rfl,Aw22,cw22,hw22⟩;have HH:=Lib.hid hw22;clear hw22 HHa
     go_wp2_with (refine zc HH.out rfl rfl rfl 2 rfl rfl (by decide+kernel) ?_)
     generalize hwA:World.alloc _ _=w23a;have HHa:=Lib.hid (HH.out.allocE hwA);clear hwA HH;refine(qU _ _ _ _ [pa] HHa.out.tail _ _ _ rfl ((HHa.out.boxRd 0 rfl).m0) (by have q0:=HLen.out;(try simp only [List.length_append,List.length_cons,List.length_nil,List.length_map,zD]);omega)).mono ?_;rintro e w23 ⟨rfl,Aw23,cw23,hw23⟩;have HH:=Lib.hid hw23;clear hw23 HHa
     go_wp2_with (refine zc HH.out rfl rfl rfl 2 rfl rfl (by decide+kernel) ?_)
     generalize hwA:World.alloc _ _=w24a;have HHa:=Lib.hid (HH.out.allocE hwA);clear hwA HH;refine(yF _ _ _ _ [er] HHa.out.tail _ _ _ rfl ((HHa.out.boxRd 0 rfl).m0) (by have q0:=HLen.out;(try simp only [List.length_append,List.length_cons,List.length_nil,List.length_map,zD]);omega) (by intro z hz;simp only [List.mem_cons,List.not_mem_nil,or_false]at hz;have q1:=HEr.out;(try dsimp only at q1);omega)).mono ?_;rintro e w24 ⟨rfl,Aw24,cw24,hw24⟩;have HH:=Lib.hid hw24;clear hw24 HHa
     have HH2:=Lib.hid (show Heap w (wtr wb Aw24 cw24 (X1++(ls.take (j+1)).flatMap zO) [ob,tb]) w24 by
      have h:=abi HH.out
      rw [HS.out,←List.append_assoc]
      simpa [zO]using h)
     clear HH
     go_wp2_with fail
     go_roundw
     case rel=>exact⟨j+1,by omega,by go_num,_,_,HH2⟩
     case measure=>simp [intOf];omega
    ·obtain rfl:j=ln:=by omega
     have ht:ls.take j=ls:=List.take_of_length_le (by rw [←Hln.out];exact Nat.le_refl _)
     rw [ht]at HH
     clear ht
     obtain⟨T,hT⟩: ∃T,T=zl quota::zl next::zl (k:Int)::(gs.flatMap xe++zl (j:Int)::ls.flatMap zO):=⟨_,rfl⟩
     have HT:=Lib.hid hT
     have HE2:=Lib.hid (show wE T=0 by rw [hT,HGX.out];exact HEs.out)
     rw [show X1++ls.flatMap zO=T by rw [HX1.out,HX0.out,hT,HGX.out];simp]at HH
     clear hT HX1 HX0 HEs
     rw [←Hob.out,←Htb.out]at HH
     clear Hob Htb
     go_wp2_with (refine zc HH.out rfl rfl rfl 3 rfl rfl (by decide+kernel) ?_)
     generalize hwA:World.alloc _ _=w9
     have HHa:=Lib.hid (HH.out.allocE hwA)
     clear hwA HH
     refine(aaQ _ _ _ _ [kT,name] HHa.out.tail _ 2 2 rfl (Nat.le_refl _) (by decide) ((HHa.out.boxRd 0 rfl).m0) HE2.out (by
      have q1:=xr [kT,name]
      have q2:kT.size=1:=rfl
      have q3:name.size≤1048576:=HNm.out
      simp only [List.map_cons,List.map_nil,List.sum_cons,List.sum_nil]at q1
      omega)).mono ?_
     rintro e w10 ⟨Ao,mo,co,rfl,hown,hmo,e10⟩
     have HO:=Lib.hid (yo hown HHa.out.ext.size)
     have Hmo:=Lib.hid hmo
     have HH:=Lib.hid (HHa.out.tail.addRow e10 hown)
     clear hown hmo e10 HHa
     go_wp2_with (refine zt HH.out xZ rfl rfl rfl rfl 3 rfl rfl rfl rfl ?_;clear HH;intro wS HHS;have HH:=Lib.hid HHS;clear HHS)
     refine aaB xZ (by kernel_rfl) HH.out rfl rfl 3 rfl rfl rfl ?_
     rw [←HT.out]
     exact⟨Ao,mo,co,rfl,HH.out.rowAt 0 rfl,Hmo.out,HH.out.ext⟩
end Go.Proofs.YtckaneapjpiocaaGreatDoor
