/- The texts He, Bko, Se, Sg, Ob1 in one file. -/
import Derived.Test.YtckaneapjpiocaaGreatDoorQ11
set_option linter.unusedVariables false
set_option linter.unusedSimpArgs false
set_option maxHeartbeats 8000000
set_option maxRecDepth 100000
namespace Go.Proofs.YtckaneapjpiocaaGreatDoor
open Go.RowKit Go.Maps Go.Sort Go.Shelf
theorem abx:(Tryz.prog.info? 116).map (·.size)=some 3:=by kernel_rfl
theorem ac0:(Tryz.prog.info? 81).map (·.size)=some 4:=by kernel_rfl
theorem acG{α:Type}(f:α→List ByteArray)(l:List α)(k:Nat)(h:k < l.length):(l.take (k+1)).flatMap f=(l.take k).flatMap f++f l[k]:=by
 rw [List.take_succ_eq_append_getElem h,List.flatMap_append];simp
theorem amo(w:World)(t:Tnt)(h:Tnt.At w 0 w.heap.size t)(hG:t.grants.n≤16)(hL:t.log.n≤16)(hE:wE (xK t)=0):
 Calls Tryz.prog 38 #[.agg t.cells.toArray] w fun e w'=>acE w w' (zJ [kT,t.name]) (zu (xK t)) e:=by
 have HQ:=hiD (zB h.quota)
 have HNx:=hiD (zB h.next)
 have HGa:=hiD h.grants
 have HLi:=hiD h.log
 have HNm:=hiD h.name
 have HEs:=hiD hE
 obtain⟨name,quota,next,⟨sA,sn,sc,ss⟩,⟨gA,gn,gc,gs⟩,⟨aA,an,ac,ax⟩,⟨lA,ln,lc,ls⟩⟩:=t
 have Hgn:=hiD (show gn=gs.length from HGa.out.len)
 have Hln:=hiD (show ln=ls.length from HLi.out.len)
 simp only [xK]at HEs ⊢
 dsimp only at hG hL HQ HNx HNm HEs ⊢
 rw [←Hgn.out,←Hln.out]at HEs ⊢
 clear h hE
 simp only [Tnt.cells,Sl.val]
 go_enter Tryz.func38,Tryz.ntmps38
 go_upto_region 1 with fail
 generalize hwH:World.alloc (World.alloc w _) _=w1;have HH:=hiD (Heap.two hwH);clear hwH
 go_upto_region 2 with fail
 generalize hwA:World.alloc w1 _=w2
 have HH2:=hiD (alW (HH.out.allocE hwA))
 clear hwA HH
 generalize w1.heap.size=wb at *
 have HH:=HH2
 clear HH2
 have HLen:=hiD (show gn≤16∧ln≤16 from⟨hG,hL⟩)
 go_wp2_with (refine l1X HH 3 ?_)
 generalize hwA:World.alloc _ _=w3a;have HHa:=hiD (HH.out.allocE hwA);clear hwA HH;refine(qj _ _ _ _ [quota,next,(gn:Int)] HHa.out.tail _ _ _ rfl ((HHa.out.boxRd 0 rfl).m0) (by have q0:=HLen.out;(try simp only [List.length_append,List.length_cons,List.length_nil,List.length_map,zQ]);omega) (by intro z hz;simp only [List.mem_cons,List.not_mem_nil,or_false]at hz;have q1:=HQ.out;have q2:=HNx.out;omega)).mono ?_;rintro e w3 ⟨rfl,Aw3,cw3,hw3⟩;have HH:=hiD hw3;clear hw3 HHa
 generalize hob:(It.box (w.heap.size+1) _)=ob at HH
 generalize htb:(It.box w.heap.size [_,_,_,_,_,_,_])=tb at HH
 obtain⟨X0,hX0⟩: ∃X0,X0= [zm quota,zm next,zm (gn:Int)]:=⟨_,rfl⟩
 have HX0:=hiD hX0
 have HH2:=hiD (show Heap w (wtr wb Aw3 cw3 (X0++(gs.take 0).flatMap xV) [ob,tb]) w3 by rw [hX0];exact HH.out)
 clear HH hX0
 have Hob:=hiD hob
 have Htb:=hiD htb
 clear hob htb
 have HH:=HH2
 clear HH2
 have HXl:=hiD (show X0.length=3 by rw [HX0.out];rfl)
 go_upto_region 4 with(rw [←Htb.out]at HH;(refine l1X HH 3 ?_);rw [Htb.out]at HH)
 go_loopw [5,23] (fun _ i wr=> ∃k:Nat,k≤gn∧i= .int .i64 k∧ ∃A c,Hid (Heap w (wtr wb A c (X0++(gs.take k).flatMap xV) [ob,tb]) wr)) (fun _ i _=>gn - (intOf i).toNat)
 case atStart=>exact⟨0,Nat.zero_le _,rfl,_,_,HH⟩
 case round=>
  clear HH
  obtain⟨k,hk,rfl,A,c,HH⟩:=hrel
  by_cases hlt:k < gn
  ·have l1:k < gs.length:=by rw [←Hgn.out];exact hlt
   obtain⟨b1,o1,hA1,_,hb1,G⟩:=zh (size:=3) (fun _=>rfl) (by omega) HGa.out.rd l1
   dsimp only at hA1
   subst hA1
   have HSm:=hiD (HGa.out.all _ (List.getElem_mem l1))
   have HS:=hiD (acG xV gs k l1)
   have HYl:=hiD (show((gs.take k).flatMap xV).length≤48 from Nat.le_trans (aaY xV (gs.take k) 3 fun x _=>by simp [xV]) (by rw [List.length_take];omega))
   have HGw:=hiD (fun j u hu=>(Below.cell HH.out.ext hb1).trans (G j u hu))
   clear G
   generalize (gs.take k).flatMap xV=Y at *
   generalize gs[k]=x at *
   obtain⟨us,pa,pe⟩:=x
   have HGc:=hiD (show∀j u,([.string us,.string pa,.int .i64 pe]:List Value)[j]?=some u→wr.cell? ⟨b1,o1+k * 3+j,none⟩=some u from HGw.out)
   have HPe:=hiD (zB HSm.out.2.2)
   clear HGw HSm
   have hkn:(k:Int) < (gn:Int):=by omega
   go_upto_region 6 with(first | (refine yF HGc.out rfl abx (by kernel_rfl) rfl rfl rfl ?_) | (refine sSX (hiD (HH.out.alloc _ _)) abx 0 ?_;clear HH;intro wS HH))
   have HH2:=hiD (aeV (show Heap w (.box wr.heap.size [.string us,.string pa,.int .i64 pe]::wtr wb A c (X0++Y) [ob,tb]) wS from HH.out))
   clear HH HGc
   have HH:=HH2
   clear HH2
   have HLen:=hiD (show X0.length+Y.length≤51 by rw [HXl.out];have:=HYl.out;omega)
   go_wp2_with (refine l1X HH 2 ?_)
   generalize hwA:World.alloc _ _=w6a;have HHa:=hiD (HH.out.allocE hwA);clear hwA HH;refine(ab2 _ _ _ _ [us,pa] HHa.out.tail _ _ _ rfl ((HHa.out.boxRd 0 rfl).m0) (by have q0:=HLen.out;(try simp only [List.length_append,List.length_cons,List.length_nil,List.length_map,zQ]);omega)).mono ?_;rintro e w6 ⟨rfl,Aw6,cw6,hw6⟩;have HH:=hiD hw6;clear hw6 HHa
   go_wp2_with (refine l1X HH 2 ?_)
   generalize hwA:World.alloc _ _=w7a;have HHa:=hiD (HH.out.allocE hwA);clear hwA HH;refine(qj _ _ _ _ [pe] HHa.out.tail _ _ _ rfl ((HHa.out.boxRd 0 rfl).m0) (by have q0:=HLen.out;(try simp only [List.length_append,List.length_cons,List.length_nil,List.length_map,zQ]);omega) (by intro z hz;simp only [List.mem_cons,List.not_mem_nil,or_false]at hz;have q1:=HPe.out;(try dsimp only at q1);omega)).mono ?_;rintro e w7 ⟨rfl,Aw7,cw7,hw7⟩;have HH:=hiD hw7;clear hw7 HHa
   have HH2:=hiD (show Heap w (wtr wb Aw7 cw7 (X0++(gs.take (k+1)).flatMap xV) [ob,tb]) w7 by
    have h:=aeJ HH.out
    rw [HS.out,←List.append_assoc]
    simpa [xV]using h)
   clear HH
   go_wp2_with fail
   go_roundw
   case rel=>exact⟨k+1,by omega,by go_num,_,_,HH2⟩
   case measure=>simp [intOf];omega
  ·obtain rfl:k=gn:=by omega
   have ht:gs.take k=gs:=List.take_of_length_le (by rw [←Hgn.out];exact Nat.le_refl _)
   rw [ht]at HH
   clear ht
   have HYl:=hiD (show(gs.flatMap xV).length≤48 from Nat.le_trans (aaY xV gs 3 fun x _=>by simp [xV]) (by have:=Hgn.out;omega))
   clear HLen
   have HLen:=hiD (show X0.length+(gs.flatMap xV).length≤51 by rw [HXl.out];have:=HYl.out;omega)
   generalize hGX:gs.flatMap xV=GX at *
   have HGX:=hiD hGX
   clear hGX HYl
   go_wp2_with (rw [←Htb.out]at HH;(refine l1X HH 3 ?_);rw [Htb.out]at HH)
   generalize hwA:World.alloc _ _=w8a;have HHa:=hiD (HH.out.allocE hwA);clear hwA HH;refine(qj _ _ _ _ [(ln:Int)] HHa.out.tail _ _ _ rfl ((HHa.out.boxRd 0 rfl).m0) (by have q0:=HLen.out;(try simp only [List.length_append,List.length_cons,List.length_nil,List.length_map,zQ]);omega) (by intro z hz;simp only [List.mem_cons,List.not_mem_nil,or_false]at hz;have q1:=HLi.out.len;have q2:=hL;omega)).mono ?_;rintro e w8 ⟨rfl,Aw8,cw8,hw8⟩;have HH:=hiD hw8;clear hw8 HHa
   obtain⟨X1,hX1⟩: ∃X1,X1=X0++GX++ [zm (ln:Int)]:=⟨_,rfl⟩
   have HX1:=hiD hX1
   have HH2:=hiD (show Heap w (wtr wb Aw8 cw8 (X1++(ls.take 0).flatMap zR) [ob,tb]) w8 by rw [hX1];simpa using HH.out)
   clear HH
   have HH:=HH2
   clear HH2
   have HXl1:=hiD (show X1.length≤52 by have:=HLen.out;simp only [hX1,List.length_append,List.length_cons,List.length_nil];omega)
   clear hX1 HLen HXl
   go_upto_region 11 with(rw [←Htb.out]at HH;(refine l1X HH 3 ?_);rw [Htb.out]at HH)
   go_loopw [7,49] (fun _ i wr=> ∃k:Nat,k≤ln∧i= .int .i64 k∧ ∃A c,Hid (Heap w (wtr wb A c (X1++(ls.take k).flatMap zR) [ob,tb]) wr)) (fun _ i _=>ln - (intOf i).toNat)
   case atStart=>exact⟨0,Nat.zero_le _,rfl,_,_,HH⟩
   case round=>
    clear HH
    obtain⟨j,hj,rfl,A,c,HH⟩:=hrel
    by_cases hlt:j < ln
    ·have l1:j < ls.length:=by rw [←Hln.out];exact hlt
     obtain⟨b1,o1,hA1,_,hb1,G⟩:=zh (size:=4) (fun _=>rfl) (by omega) HLi.out.rd l1
     dsimp only at hA1
     subst hA1
     have HSm:=hiD (HLi.out.all _ (List.getElem_mem l1))
     have HS:=hiD (acG zR ls j l1)
     have HYl:=hiD (show((ls.take j).flatMap zR).length≤64 from Nat.le_trans (aaY zR (ls.take j) 4 fun x _=>by simp [zR]) (by rw [List.length_take];omega))
     have HGw:=hiD (fun i u hu=>(Below.cell HH.out.ext hb1).trans (G i u hu))
     clear G
     generalize (ls.take j).flatMap zR=Y at *
     generalize ls[j]=x at *
     obtain⟨us,ki,pa,er⟩:=x
     have HGc:=hiD (show∀i u,([.string us,.int .i64 ki,.string pa,.int .i64 er]:List Value)[i]?=some u→wr.cell? ⟨b1,o1+j * 4+i,none⟩=some u from HGw.out)
     have HKi:=hiD (zB HSm.out.2.2.1)
     have HEr:=hiD (zB HSm.out.2.2.2)
     clear HGw HSm
     have hkn:(j:Int) < (ln:Int):=by omega
     go_upto_region 13 with(first | (refine yF HGc.out rfl ac0 (by kernel_rfl) rfl rfl rfl ?_) | (refine sSX (hiD (HH.out.alloc _ _)) ac0 0 ?_;clear HH;intro wS HH))
     have HH2:=hiD (aeV (show Heap w (.box wr.heap.size [.string us,.int .i64 ki,.string pa,.int .i64 er]::wtr wb A c (X1++Y) [ob,tb]) wS from HH.out))
     clear HH HGc
     have HH:=HH2
     clear HH2
     have HLen:=hiD (show X1.length+Y.length≤116 by have:=HYl.out;have:=HXl1.out;omega)
     go_wp2_with (refine l1X HH 2 ?_)
     generalize hwA:World.alloc _ _=w21a;have HHa:=hiD (HH.out.allocE hwA);clear hwA HH;refine(ab2 _ _ _ _ [us] HHa.out.tail _ _ _ rfl ((HHa.out.boxRd 0 rfl).m0) (by have q0:=HLen.out;(try simp only [List.length_append,List.length_cons,List.length_nil,List.length_map,zQ]);omega)).mono ?_;rintro e w21 ⟨rfl,Aw21,cw21,hw21⟩;have HH:=hiD hw21;clear hw21 HHa
     go_wp2_with (refine l1X HH 2 ?_)
     generalize hwA:World.alloc _ _=w22a;have HHa:=hiD (HH.out.allocE hwA);clear hwA HH;refine(qj _ _ _ _ [ki] HHa.out.tail _ _ _ rfl ((HHa.out.boxRd 0 rfl).m0) (by have q0:=HLen.out;(try simp only [List.length_append,List.length_cons,List.length_nil,List.length_map,zQ]);omega) (by intro z hz;simp only [List.mem_cons,List.not_mem_nil,or_false]at hz;have q1:=HKi.out;(try dsimp only at q1);omega)).mono ?_;rintro e w22 ⟨rfl,Aw22,cw22,hw22⟩;have HH:=hiD hw22;clear hw22 HHa
     go_wp2_with (refine l1X HH 2 ?_)
     generalize hwA:World.alloc _ _=w23a;have HHa:=hiD (HH.out.allocE hwA);clear hwA HH;refine(ab2 _ _ _ _ [pa] HHa.out.tail _ _ _ rfl ((HHa.out.boxRd 0 rfl).m0) (by have q0:=HLen.out;(try simp only [List.length_append,List.length_cons,List.length_nil,List.length_map,zQ]);omega)).mono ?_;rintro e w23 ⟨rfl,Aw23,cw23,hw23⟩;have HH:=hiD hw23;clear hw23 HHa
     go_wp2_with (refine l1X HH 2 ?_)
     generalize hwA:World.alloc _ _=w24a;have HHa:=hiD (HH.out.allocE hwA);clear hwA HH;refine(qj _ _ _ _ [er] HHa.out.tail _ _ _ rfl ((HHa.out.boxRd 0 rfl).m0) (by have q0:=HLen.out;(try simp only [List.length_append,List.length_cons,List.length_nil,List.length_map,zQ]);omega) (by intro z hz;simp only [List.mem_cons,List.not_mem_nil,or_false]at hz;have q1:=HEr.out;(try dsimp only at q1);omega)).mono ?_;rintro e w24 ⟨rfl,Aw24,cw24,hw24⟩;have HH:=hiD hw24;clear hw24 HHa
     have HH2:=hiD (show Heap w (wtr wb Aw24 cw24 (X1++(ls.take (j+1)).flatMap zR) [ob,tb]) w24 by
      have h:=aeJ HH.out
      rw [HS.out,←List.append_assoc]
      simpa [zR]using h)
     clear HH
     go_wp2_with fail
     go_roundw
     case rel=>exact⟨j+1,by omega,by go_num,_,_,HH2⟩
     case measure=>simp [intOf];omega
    ·obtain rfl:j=ln:=by omega
     have ht:ls.take j=ls:=List.take_of_length_le (by rw [←Hln.out];exact Nat.le_refl _)
     rw [ht]at HH
     clear ht
     obtain⟨T,hT⟩: ∃T,T=zm quota::zm next::zm (k:Int)::(gs.flatMap xV++zm (j:Int)::ls.flatMap zR):=⟨_,rfl⟩
     have HT:=hiD hT
     have HE2:=hiD (show wE T=0 by rw [hT,HGX.out];exact HEs.out)
     rw [show X1++ls.flatMap zR=T by rw [HX1.out,HX0.out,hT,HGX.out];simp]at HH
     clear hT HX1 HX0 HEs
     rw [←Hob.out,←Htb.out]at HH
     clear Hob Htb
     go_wp2_with (refine l1X HH 3 ?_)
     generalize hwA:World.alloc _ _=w9
     have HHa:=hiD (HH.out.allocE hwA)
     clear hwA HH
     refine(adG _ _ _ _ [kT,name] HHa.out.tail _ 2 2 rfl (Nat.le_refl _) (by decide) ((HHa.out.boxRd 0 rfl).m0) HE2.out (by
      have q1:=abt [kT,name]
      have q2:kT.size=1:=rfl
      have q3:name.size≤1048576:=HNm.out
      simp only [List.map_cons,List.map_nil,List.sum_cons,List.sum_nil]at q1
      omega)).mono ?_
     rintro e w10 ⟨Ao,mo,co,rfl,hown,hmo,e10⟩
     have HO:=hiD (xw hown HHa.out.ext.size)
     have Hmo:=hiD hmo
     have HH:=hiD (HHa.out.tail.addRow e10 hown)
     clear hown hmo e10 HHa
     go_wp2_with (refine sSX HH yr 3 ?_;clear HH;intro wS HH)
     refine aax yr (by kernel_rfl) HH.out rfl rfl 3 rfl rfl rfl ?_
     rw [←HT.out]
     exact⟨Ao,mo,co,rfl,HH.out.rowAt 0 rfl,Hmo.out,HH.out.ext⟩
theorem ajF(xs:List Blk)(k:Nat)(h:k < xs.length):yH (xs.take (k+1))=yH (xs.take k)++(zp xs[k].index 2++xs[k].data.data.toList):=by
 rw [List.take_succ_eq_append_getElem h,yH,List.flatMap_append];simp [yH]
theorem an0:(Tryz.prog.info? 183).map (·.size)=some 2:=by kernel_rfl
theorem afs(W:World)(s:ByteArray): ∃c W',(convert 9 53 (.string s)).run Tryz.prog W= .ok (.slice (some ⟨W.heap.size,0,none⟩) s.size c) W'∧Ext W W'∧Rd W' W.heap.size W'.heap.size (some ⟨W.heap.size,0,none⟩) (bytes s.data.toList):=by
 refine⟨_,_,run_bytes_of_string (P:=Tryz.prog) W 9 53 5 s Tryz.underlying9 Tryz.underlying53 Tryz.underlying5,Ext.alloc (Ext.drew (Ext.refl W)) _,?_⟩
 have h:=aam W.drew s (grownCap W s.size 0 5) 5 ((bytesRow s (grownCap W s.size 0 5)).size,(bytesRow s (grownCap W s.size 0 5)).size+1)
 exact h.more (Nat.le_refl _) (by simp)
theorem adH(w:World)(A:Option Addr)(n c:Nat)(xs:List Blk)(hn:n=xs.length)(hr:Rd w 0 w.heap.size A (blks xs))(hwf: ∀x∈xs,x.wf)(hE:bkE xs=0):
 Calls Tryz.prog 91 #[.slice A n c] w fun e w'=> ∃v,e= .returned (.tuple #[v,.int .i64 0])∧w'.ownsRow w.heap.size 5 1 v (yH xs).length (bytes (yH xs))∧Ext w w':=by
 obtain⟨hm,h16⟩:=qt xs hE
 have hm9:n≤1024:=by omega
 have HC:=hiD (abh w A n c xs hn (by omega) hr hwf)
 rw [hE]at HC
 have Hn:=hiD hn
 have HR:=hiD hr
 have H16:=hiD h16
 have HW:=hiD hwf
 have HL:=hiD (fun k=>show(yH (xs.take k)).length≤18432 by
  rw [aaq _ fun x hx=>H16.out x (List.mem_of_mem_take hx),List.length_take];omega)
 clear hn hr hwf h16 hm hE
 go_enter Tryz.func91,Tryz.ntmps91
 go_wp2_with fail
 refine HC.out.mono ?_
 rintro e w1 ⟨rfl,e1⟩
 go_upto_region 6 with fail
 have HH:=hiD (show Heap w [.row 5 1 (.slice none 0 0) 0 (bytes [])] w1 from((Heap.start w).later e1).row0)
 clear e1 HC
 go_loopw [5,7,15] (fun v _ i wr=> ∃k:Nat,k≤n∧i= .int .i64 k∧(∃vA vc m,v= .slice vA m vc∧Hid (m=(yH (xs.take k)).length)∧Hid (Heap w [.row 5 1 (.slice vA m vc) m (bytes (yH (xs.take k)))] wr))) (fun _ _ i _=>n - (intOf i).toNat)
 case atStart=>exact⟨0,Nat.zero_le _,rfl,_,_,_,rfl,hiD rfl,HH⟩
 case round=>
  clear HH
  obtain⟨k,hk,rfl,vA,vc,m,rfl,Hm,HH⟩:=hrel
  by_cases hlt:k < n
  ·have l1:k < xs.length:=by rw [←Hn.out];exact hlt
   obtain⟨b1,o1,rfl,_,hb1,g0,g1⟩:=ack (HR.out.ext HH.out.ext (Nat.le_refl _)) l1
   have HS:=hiD (ajF xs k l1)
   have hL1:=HL.out k
   have hL2:=HL.out (k+1)
   have hwk:=HW.out _ (List.getElem_mem l1)
   have hdk:=H16.out _ (List.getElem_mem l1)
   generalize yH (xs.take k)=Y at *
   obtain⟨Z,hZ⟩: ∃Z,Z=yH (xs.take (k+1)):=⟨_,rfl⟩
   rw [←hZ]at HS hL2
   have HZ:=hiD hZ
   clear hZ
   generalize xs[k]=x at *
   obtain⟨ix,d⟩:=x
   dsimp only at g0 g1 hwk hdk HS
   have Hdk:=hiD hdk
   have HIx:=hiD hwk
   clear hdk hwk
   go_upto_region 8 with(refine sSX (hiD (HH.out.alloc _ _)) an0 0 ?_;clear HH;intro wS HH)
   have HHd:=hiD (show Heap w [.box wr.heap.size [.int .i64 ix,.string d],.row 5 1 (.slice vA m vc) m (bytes Y)] (World.drew wS)from HH.out.drew)
   clear HH g0 g1
   generalize wr.heap.size=xb at *
   refine wp_region_held_drew (S:=Heap w [.box xb [.int .i64 ix,.string d]]) (by kernel_rfl) (HHd.out.only 0 rfl) (fun hHeld=>?_)
   generalize World.drew _=wd at *
   refine tW 0 2 ?_
   refine tH 2 0 ?_
   refine tW 4 1 ?_
   refine tH 5 0 ?_
   clear hHeld
   refine aa2 3 6 rfl rfl (by kernel_rfl) (by kernel_rfl) (by kernel_rfl) (fun K hK=>?_) (fun K hK=>?_)
   ·go_simp;refine(qW ix _ 2 (by omega) rfl _ HIx.out.1 HIx.out.2.1).mono ?_;rintro e w3 ⟨vw3,rfl,hownw3,ew3⟩;obtain⟨Aw3,cw3,rfl,_,_,_⟩:=zr hownw3;have HH3:=hiD ((HHd).out.addRow ew3 hownw3);clear HHd hownw3 ew3;go_wp2_with fail
    refine hK.out _ _ ((HH3).out.only 1 rfl) (fun hHeld=>?_);clear hK K;refine lyX ?_
    clear hHeld
    refine oS 6 (fun K hK=>?_)
    go_simp
    obtain⟨c6,w4,hcv,e4,hr4⟩:=afs w3 d
    rw [hcv]
    have HH4:=hiD (HH3.out.addRd e4 hr4 (Nat.le_refl _))
    clear hcv hr4 e4 HH3
    refine hK.out _ _ ((HH4).out.only 2 rfl) (fun hHeld=>?_);clear hK K;refine lyX ?_
    clear hHeld;refine oS 7 (fun K hK=>?_);go_simp;generalize hwA:World.alloc _ _=w7;have HH7:=hiD ((HH4).out.allocE hwA);clear hwA HH4;refine hK.out _ _ ((HH7).out.only 3 rfl) (fun hHeld=>?_);clear hK K;refine lyX ?_;clear hHeld;refine oS 8 (fun K hK=>?_);go_simp;refine(acs w7 _ 3 3 [⟨vA,m,vc,Y⟩,⟨Aw3,2,cw3,zp ix 2⟩,⟨_,d.size,c6,d.data.toList⟩] rfl ((HH7.out.boxRd 0 rfl).m0) (fun x hx=>(by simp only [List.mem_cons,List.not_mem_nil,or_false]at hx;rcases hx with rfl | rfl | rfl;exact⟨Hm.out,(HH7.out.rowRd 4 rfl).m0⟩;exact⟨(zo _ _).symm,(HH7.out.rowRd 2 rfl).m0⟩;exact⟨(zv _).symm,(HH7.out.rdAt 1 rfl).m0⟩)) (by omega) (by have q:=Hdk.out;have q2:=zv d;simp only [zV,List.flatMap_cons,List.flatMap_nil,List.length_append,zo,List.length_nil];omega)).mono ?_;rintro e w8 ⟨v8,rfl,hown8,e8⟩;rw [show zV [⟨vA,m,vc,Y⟩,⟨Aw3,2,cw3,zp ix 2⟩,⟨_,d.size,c6,d.data.toList⟩]=Z from(by rw [HS.out];simp [zV])]at hown8;obtain⟨A8,c8,rfl,_,_,_⟩:=zr hown8;have HH8:=hiD (HH7.out.addRow e8 hown8);clear HH7 hown8 e8;go_wp2_with fail;refine hK.out _ _ ((HH8).out.only 4 rfl) (fun hHeld=>?_);clear hK K;refine lyX ?_
    refine tW 9 1 ?_
    refine dnX ?_;clear hHeld;go_wp2_with fail;go_roundw;(case rel=>refine⟨k+1,by omega,by go_num,A8,c8,_,rfl,hiD (congrArg List.length HZ.out),(by rw [←HZ.out];exact hiD (HH8.out.only 0 rfl))⟩);(case measure=>simp [intOf];omega)
   ·go_simp
    obtain⟨c6,w4,hcv,e4,hr4⟩:=afs wd d
    rw [hcv]
    have HH4:=hiD (HHd.out.addRd e4 hr4 (Nat.le_refl _))
    clear hcv hr4 e4 HHd
    refine hK.out _ _ ((HH4).out.only 1 rfl) (fun hHeld=>?_);clear hK K;refine lyX ?_
    clear hHeld
    refine oS 3 (fun K hK=>?_)
    go_simp;refine(qW ix _ 2 (by omega) rfl _ HIx.out.1 HIx.out.2.1).mono ?_;rintro e w3 ⟨vw3,rfl,hownw3,ew3⟩;obtain⟨Aw3,cw3,rfl,_,_,_⟩:=zr hownw3;have HH5:=hiD ((HH4).out.addRow ew3 hownw3);clear HH4 hownw3 ew3;go_wp2_with fail
    refine hK.out _ _ ((HH5).out.only 2 rfl) (fun hHeld=>?_);clear hK K;refine lyX ?_
    clear hHeld;refine oS 7 (fun K hK=>?_);go_simp;generalize hwA:World.alloc _ _=w7;have HH7:=hiD ((HH5).out.allocE hwA);clear hwA HH5;refine hK.out _ _ ((HH7).out.only 3 rfl) (fun hHeld=>?_);clear hK K;refine lyX ?_;clear hHeld;refine oS 8 (fun K hK=>?_);go_simp;refine(acs w7 _ 3 3 [⟨vA,m,vc,Y⟩,⟨Aw3,2,cw3,zp ix 2⟩,⟨_,d.size,c6,d.data.toList⟩] rfl ((HH7.out.boxRd 0 rfl).m0) (fun x hx=>(by simp only [List.mem_cons,List.not_mem_nil,or_false]at hx;rcases hx with rfl | rfl | rfl;exact⟨Hm.out,(HH7.out.rowRd 4 rfl).m0⟩;exact⟨(zo _ _).symm,(HH7.out.rowRd 1 rfl).m0⟩;exact⟨(zv _).symm,(HH7.out.rdAt 2 rfl).m0⟩)) (by omega) (by have q:=Hdk.out;have q2:=zv d;simp only [zV,List.flatMap_cons,List.flatMap_nil,List.length_append,zo,List.length_nil];omega)).mono ?_;rintro e w8 ⟨v8,rfl,hown8,e8⟩;rw [show zV [⟨vA,m,vc,Y⟩,⟨Aw3,2,cw3,zp ix 2⟩,⟨_,d.size,c6,d.data.toList⟩]=Z from(by rw [HS.out];simp [zV])]at hown8;obtain⟨A8,c8,rfl,_,_,_⟩:=zr hown8;have HH8:=hiD (HH7.out.addRow e8 hown8);clear HH7 hown8 e8;go_wp2_with fail;refine hK.out _ _ ((HH8).out.only 4 rfl) (fun hHeld=>?_);clear hK K;refine lyX ?_
    refine tW 9 1 ?_
    refine dnX ?_;clear hHeld;go_wp2_with fail;go_roundw;(case rel=>refine⟨k+1,by omega,by go_num,A8,c8,_,rfl,hiD (congrArg List.length HZ.out),(by rw [←HZ.out];exact hiD (HH8.out.only 0 rfl))⟩);(case measure=>simp [intOf];omega)
  ·obtain rfl:k=n:=by omega
   have ht:xs.take k=xs:=List.take_of_length_le (by rw [←Hn.out];exact Nat.le_refl _)
   rw [ht]at HH Hm
   clear ht
   have HO:=hiD (show wr.ownsRow w.heap.size 5 1 (.slice vA m vc) (yH xs).length (bytes (yH xs))by rw [←Hm.out];exact HH.out.rowAt 0 rfl)
   go_wp2_with fail
   go_ret2
   exact⟨.slice vA m vc,rfl,HO.out,HH.out.ext⟩
theorem aom(w:World)(name:ByteArray)(x:Dst)(h:Dst.At w 0 w.heap.size x)(hb:bkE x.body.xs=0)(hs: ∀y∈x.snaps.xs,bkE y.body.xs=0)(hE:wE (yo x)=0)(hnm:sml name):
 Calls Tryz.prog 39 #[.string name,.agg x.cells.toArray] w fun e w'=>acE w w' (zJ [kS,name,x.path]) (zu (yo x)) e:=by
 have HLe:=hiD (aoy hE)
 have HSn:=hiD h.snaps
 have HNm:=hiD hnm
 have HPa:=hiD h.path
 have HEs:=hiD hE
 have HBs:=hiD hs
 have HOw:=hiD h.own
 have HOn:=hiD (Nat.le_trans h.ownS (show 1048576≤10000000 by decide))
 have HBo:=hiD (fun W (hW:Ext w W)=>adH W x.body.A x.body.n x.body.c x.body.xs h.body.len (Rd.at h.body.rd hW (Nat.le_refl _)) h.body.all hb)
 have HBl:=hiD (show(yH x.body.xs).length≤100000000 by
  obtain⟨q1,q2⟩:=qt _ hb
  have:=aaq _ q2
  omega)
 have Hsn:=hiD (show x.snaps.n=x.snaps.xs.length from h.snaps.len)
 have hS9:x.snaps.n≤1048576:=h.snapsS
 clear h hb hs hnm hE
 obtain⟨path,orig,⟨bA,bn,bc,bd⟩,⟨sA,sn,sc,ss⟩,⟨pA,pn,pc,ps⟩⟩:=x
 simp only [yo]at HLe HEs ⊢
 dsimp only at HSn HPa HLe HEs HBs HOw HOn HBo HBl Hsn hS9 ⊢
 rw [←Hsn.out]at HLe HEs ⊢
 simp only [Dst.cells,Sl.val]
 go_enter Tryz.func39,Tryz.ntmps39
 go_upto_region 1 with fail
 generalize hwH:World.alloc (World.alloc w _) _=w1;have HH:=hiD (Heap.two hwH);clear hwH
 go_upto_region 2 with fail
 generalize hwA:World.alloc w1 _=w2
 have HH2:=hiD (alW (HH.out.allocE hwA))
 clear hwA HH
 generalize w1.heap.size=wb at *
 have HH:=HH2
 clear HH2
 have HLen:=hiD (show ps.length * 2≤1024 by have:=HLe.out;simp only [List.length_append,List.length_cons,zQ]at this;omega)
 go_wp2_with (refine l1X HH 3 ?_)
 generalize hwA:World.alloc _ _=w3a;have HHa:=hiD (HH.out.allocE hwA);clear hwA HH;refine(ab2 _ _ _ _ [orig] HHa.out.tail _ _ _ rfl ((HHa.out.boxRd 0 rfl).m0) (by have q0:=HLen.out;(try simp only [List.length_append,List.length_cons,List.length_nil,List.length_map,zQ]);omega)).mono ?_;rintro e w3 ⟨rfl,Aw3,cw3,hw3⟩;have HH:=hiD hw3;clear hw3 HHa
 go_wp2_with (refine l1X HH 3 ?_)
 refine(ajC _ _ _ _ ps HH.out _ _ _ HOw.out.len HOn.out HOw.out.rd (by have q0:=HLen.out;(try simp only [List.length_append,List.length_cons,List.length_nil,List.length_map,zQ]);omega)).mono ?_;rintro e w4 ⟨rfl,Aw4,cw4,hw4⟩;clear HH;have HH:=hiD hw4;clear hw4
 go_wp2_with (refine l1X HH 3 ?_)
 refine(HBo.out w4 HH.out.ext).mono ?_;rintro e w5o ⟨vw5,rfl,hown,ew5⟩;obtain⟨Aow5,cow5,rfl,_,_,_⟩:=zr hown;have HHa:=hiD (HH.out.addRow ew5 hown);clear HH hown ew5;go_wp2_with fail;refine(abO _ _ _ _ (yH bd) HHa.out.tail _ _ _ rfl HBl.out ((HHa.out.rowRd 0 rfl).m0) (by have q0:=HLen.out;(try simp only [List.length_append,List.length_cons,List.length_nil,List.length_map,zQ]);omega)).mono ?_;rintro e w5 ⟨rfl,Aw5,cw5,hw5⟩;have HH:=hiD hw5;clear hw5 HHa
 go_wp2_with (refine l1X HH 3 ?_)
 generalize hwA:World.alloc _ _=w6a;have HHa:=hiD (HH.out.allocE hwA);clear hwA HH;refine(qj _ _ _ _ [(sn:Int)] HHa.out.tail _ _ _ rfl ((HHa.out.boxRd 0 rfl).m0) (by have q0:=HLen.out;(try simp only [List.length_append,List.length_cons,List.length_nil,List.length_map,zQ]);omega) (by intro z hz;simp only [List.mem_cons,List.not_mem_nil,or_false]at hz;omega)).mono ?_;rintro e w6 ⟨rfl,Aw6,cw6,hw6⟩;have HH:=hiD hw6;clear hw6 HHa
 obtain⟨X0,hX0⟩: ∃X0,X0=orig::(yU ps++ [aaa (yH bd),zm (sn:Int)]):=⟨_,rfl⟩
 have HX0:=hiD hX0
 have HLe2:=hiD (show X0.length+(ss.flatMap yM).length≤1024 by
  have:=HLe.out
  rw [hX0]
  simp only [List.length_append,List.length_cons,List.length_nil]at this ⊢
  omega)
 have HH2:=hiD (show Heap w (wtr wb Aw6 cw6 (X0++(ss.take 0).flatMap yM) _) w6 by rw [hX0];simpa using HH.out)
 clear HH hX0 HLen
 have HH:=HH2
 clear HH2
 go_upto_region 7 with(refine l1X HH 3 ?_)
 generalize hob:(It.box (w.heap.size+1) _)=ob at HH
 generalize htb:(It.box w.heap.size [_,_,_,_,_])=tb at HH
 have Hob:=hiD hob
 have Htb:=hiD htb
 clear hob htb
 go_loopw [7,35] (fun _ i wr=> ∃k:Nat,k≤sn∧i= .int .i64 k∧ ∃A c,Hid (Heap w (wtr wb A c (X0++(ss.take k).flatMap yM) [ob,tb]) wr)) (fun _ i _=>sn - (intOf i).toNat)
 case atStart=>exact⟨0,Nat.zero_le _,rfl,_,_,HH⟩
 case round=>
  clear HH
  obtain⟨k,hk,rfl,A,c,HH⟩:=hrel
  by_cases hlt:k < sn
  ·have l1:k < ss.length:=by rw [←Hsn.out];exact hlt
   obtain⟨b1,o1,hA1,_,hb1,G⟩:=zh (size:=5) (fun _=>rfl) (by omega) HSn.out.rd l1
   dsimp only at hA1
   subst hA1
   have HSm:=hiD (HSn.out.all _ (List.getElem_mem l1))
   have HS:=hiD (acG yM ss k l1)
   have HYl:=hiD (show X0.length+((ss.take k).flatMap yM).length+(yM ss[k]).length≤1024 by have:=anI yM ss k l1;have:=HLe2.out;omega)
   have hbk:=HBs.out _ (List.getElem_mem l1)
   have HGw:=hiD (fun j u hu=>(Below.cell HH.out.ext hb1).trans (G j u hu))
   have HOw1:=hiD HSm.out.own
   have HOn1:=hiD (Nat.le_trans HSm.out.ownS (show 1048576≤10000000 by decide))
   have HBo1:=hiD (fun W (hW:Ext w W)=>adH W ss[k].body.A ss[k].body.n ss[k].body.c ss[k].body.xs HSm.out.body.len (Rd.at HSm.out.body.rd hW (Nat.le_refl _)) HSm.out.body.all hbk)
   have HBl1:=hiD (show(yH ss[k].body.xs).length≤100000000 by
    obtain⟨q1,q2⟩:=qt _ hbk
    have:=aaq _ q2
    omega)
   have HTg:=hiD (fun W (hW:Ext w W)=>show Rd W 0 W.heap.size ss[k].tags.A (ss[k].tags.xs.map Value.string)from by rw [←ad5];exact Rd.at HSm.out.tags.rd hW (Nat.le_refl _))
   have HTn:=hiD (show ss[k].tags.n=ss[k].tags.xs.length from HSm.out.tags.len)
   have HGu:=hiD (zB HSm.out.guid)
   clear G hbk HSm
   generalize (ss.take k).flatMap yM=Y at *
   generalize ss[k]=x at *
   obtain⟨nm,gu,⟨dA,dn,dc,dd⟩,⟨tA,tn,tc,td⟩,⟨qA,qn,qc,qs⟩⟩:=x
   dsimp only at HYl HOw1 HOn1 HBo1 HBl1 HTg HTn HGu
   simp only [yM]at HYl HS
   rw [←HTn.out]at HYl HS
   have HGc:=hiD (show∀j u,([.string nm,.int .i64 gu,.slice dA dn dc,.slice tA tn tc,.slice qA qn qc]:List Value)[j]?=some u→wr.cell? ⟨b1,o1+k * 5+j,none⟩=some u from HGw.out)
   clear HGw
   have hkn:(k:Int) < (sn:Int):=by omega
   have HLen:=hiD (show X0.length+Y.length+qs.length * 2+tn+td.length≤3000 by
    have:=HYl.out
    have q:=HTn.out
    simp only [List.length_append,List.length_cons,List.length_nil,zQ]at this
    omega)
   go_upto_region 9 with(first | (refine yF HGc.out rfl aaj (by kernel_rfl) rfl rfl rfl ?_) | (refine sSX (hiD (HH.out.alloc _ _)) aaj 0 ?_;clear HH;intro wS HH))
   have HH2:=hiD (aeV (show Heap w (.box wr.heap.size [.string nm,.int .i64 gu,.slice dA dn dc,.slice tA tn tc,.slice qA qn qc]::wtr wb A c (X0++Y) [ob,tb]) wS from HH.out))
   clear HH HGc
   have HH:=HH2
   clear HH2
   go_wp2_with (refine l1X HH 2 ?_)
   generalize hwA:World.alloc _ _=w21a;have HHa:=hiD (HH.out.allocE hwA);clear hwA HH;refine(ab2 _ _ _ _ [nm] HHa.out.tail _ _ _ rfl ((HHa.out.boxRd 0 rfl).m0) (by have q0:=HLen.out;(try simp only [List.length_append,List.length_cons,List.length_nil,List.length_map,zQ]);omega)).mono ?_;rintro e w21 ⟨rfl,Aw21,cw21,hw21⟩;have HH:=hiD hw21;clear hw21 HHa
   go_wp2_with (refine l1X HH 2 ?_)
   generalize hwA:World.alloc _ _=w22a;have HHa:=hiD (HH.out.allocE hwA);clear hwA HH;refine(qj _ _ _ _ [gu] HHa.out.tail _ _ _ rfl ((HHa.out.boxRd 0 rfl).m0) (by have q0:=HLen.out;(try simp only [List.length_append,List.length_cons,List.length_nil,List.length_map,zQ]);omega) (by intro z hz;simp only [List.mem_cons,List.not_mem_nil,or_false]at hz;have q1:=HGu.out;omega)).mono ?_;rintro e w22 ⟨rfl,Aw22,cw22,hw22⟩;have HH:=hiD hw22;clear hw22 HHa
   go_wp2_with (refine l1X HH 2 ?_)
   refine(ajC _ _ _ _ qs HH.out _ _ _ HOw1.out.len HOn1.out HOw1.out.rd (by have q0:=HLen.out;(try simp only [List.length_append,List.length_cons,List.length_nil,List.length_map,zQ]);omega)).mono ?_;rintro e w23 ⟨rfl,Aw23,cw23,hw23⟩;clear HH;have HH:=hiD hw23;clear hw23
   go_wp2_with (refine l1X HH 2 ?_)
   generalize hwA:World.alloc _ _=w24a;have HHa:=hiD (HH.out.allocE hwA);clear hwA HH;refine(qj _ _ _ _ [(tn:Int)] HHa.out.tail _ _ _ rfl ((HHa.out.boxRd 0 rfl).m0) (by have q0:=HLen.out;(try simp only [List.length_append,List.length_cons,List.length_nil,List.length_map,zQ]);omega) (by intro z hz;simp only [List.mem_cons,List.not_mem_nil,or_false]at hz;have q1:=HLen.out;omega)).mono ?_;rintro e w24 ⟨rfl,Aw24,cw24,hw24⟩;have HH:=hiD hw24;clear hw24 HHa
   go_wp2_with (refine l1X HH 2 ?_)
   refine(ab2 _ _ _ _ td HH.out _ _ _ HTn.out (HTg.out _ HH.out.ext) (by have q0:=HLen.out;(try simp only [List.length_append,List.length_cons,List.length_nil,List.length_map,zQ]);omega)).mono ?_
   rintro e w25 ⟨rfl,Aw25,cw25,h25⟩
   clear HH
   have HH:=hiD h25
   clear h25
   go_wp2_with (refine l1X HH 2 ?_)
   refine(HBo1.out w25 HH.out.ext).mono ?_;rintro e w26o ⟨vw26,rfl,hown,ew26⟩;obtain⟨Aow26,cow26,rfl,_,_,_⟩:=zr hown;have HHa:=hiD (HH.out.addRow ew26 hown);clear HH hown ew26;go_wp2_with fail;refine(abO _ _ _ _ (yH dd) HHa.out.tail _ _ _ rfl HBl1.out ((HHa.out.rowRd 0 rfl).m0) (by have q0:=HLen.out;(try simp only [List.length_append,List.length_cons,List.length_nil,List.length_map,zQ]);omega)).mono ?_;rintro e w26 ⟨rfl,Aw26,cw26,hw26⟩;have HH:=hiD hw26;clear hw26 HHa
   have HH2:=hiD (show Heap w (wtr wb Aw26 cw26 (X0++(ss.take (k+1)).flatMap yM) [ob,tb]) w26 by
    have h:=aeJ HH.out
    rw [HS.out,←List.append_assoc]
    simpa using h)
   clear HH
   go_wp2_with fail
   go_roundw
   case rel=>exact⟨k+1,by omega,by go_num,_,_,HH2⟩
   case measure=>simp [intOf];omega
  ·obtain rfl:k=sn:=by omega
   have ht:ss.take k=ss:=List.take_of_length_le (by rw [←Hsn.out];exact Nat.le_refl _)
   rw [ht]at HH
   clear ht
   obtain⟨T,hT⟩: ∃T,T=orig::(yU ps++(aaa (yH bd)::zm (k:Int)::ss.flatMap yM)):=⟨_,rfl⟩
   have HT:=hiD hT
   have HE2:=hiD (show wE T=0 by rw [hT];exact HEs.out)
   rw [show X0++ss.flatMap yM=T by rw [HX0.out,hT];simp]at HH
   clear hT HX0 HEs
   rw [←Hob.out,←Htb.out]at HH
   clear Hob Htb
   go_wp2_with (refine l1X HH 3 ?_)
   generalize hwA:World.alloc _ _=w9
   have HHa:=hiD (HH.out.allocE hwA)
   clear hwA HH
   refine(adG _ _ _ _ [kS,name,path] HHa.out.tail _ 3 3 rfl (Nat.le_refl _) (by decide) ((HHa.out.boxRd 0 rfl).m0) HE2.out (by
    have q1:=abt [kS,name,path]
    have q2:kS.size=1:=rfl
    have q3:name.size≤1048576:=HNm.out
    have q4:path.size≤1048576:=HPa.out
    simp only [List.map_cons,List.map_nil,List.sum_cons,List.sum_nil]at q1
    omega)).mono ?_
   rintro e w10 ⟨Ao,mo,co,rfl,hown,hmo,e10⟩
   have Hmo:=hiD hmo
   have HH:=hiD (HHa.out.tail.addRow e10 hown)
   clear hown hmo e10 HHa
   go_wp2_with (refine sSX HH yr 3 ?_;clear HH;intro wS HH)
   refine aax yr (by kernel_rfl) HH.out rfl rfl 3 rfl rfl rfl ?_
   rw [←HT.out]
   exact⟨Ao,mo,co,rfl,HH.out.rowAt 0 rfl,Hmo.out,HH.out.ext⟩
theorem anH(w:World)(is:Bool):Calls Tryz.prog 94 #[.bool is] w fun e w'=>e= .returned (.int .i64 (if is=true then 1 else 0))∧w'=w:=by
 go_enter Tryz.func94,Tryz.ntmps94
 cases is with
 | true=>
   go_wp2_with fail
   go_ret
   exact⟨rfl,rfl⟩
 | false=>
   go_wp2_with fail
   go_ret
   exact⟨rfl,rfl⟩
theorem aj1(w:World)(name:ByteArray)(x:Stg)(h:Stg.At w 0 w.heap.size x)(hb:bkE x.body=0)(hr:yJ x.beg=0)(hE:wE (yl x)=0)(hnm:sml name):
 Calls Tryz.prog 40 #[.string name,.agg x.cells.toArray] w fun e w'=>acE w w' (zJ [kG,name,x.into]) (zu (yl x)) e:=by
 have HNm:=hiD hnm
 have HPa:=hiD h.into
 have HEs:=hiD hE
 have HBo:=hiD (fun W (hW:Ext w W)=>adH W x.bA x.bn x.bc x.body h.bodyN (Rd.at h.bodyR hW (Nat.le_refl _)) h.bodyW hb)
 have HBl:=hiD (show(yH x.body).length≤100000000 by
  obtain⟨q1,q2⟩:=qt _ hb
  have:=aaq _ q2
  omega)
 have HEn:=hiD (fun W (hW:Ext w W)=>show Calls Tryz.prog 92 #[.agg x.beg.cells.toArray] W fun e w'=> ∃v,e= .returned (.tuple #[v,.int .i64 0])∧w'.ownsRow W.heap.size 5 1 v (yh x.beg).length (bytes (yh x.beg))∧Ext W w' from
  (aiN W x.beg (Rd.at h.begR hW (Nat.le_refl _)) h.beg (Nat.le_trans h.begN (by decide)) h.begS).mono (fun e w' q=>by
    obtain⟨v,h1,h2,h3⟩:=q
    rw [hr]at h1
    exact⟨v,h1,h2,h3⟩))
 have HEl:=hiD (Nat.le_trans (aeW x.beg) (show 1000≤100000000 by decide))
 have HSo:=hiD (fun W=>ae8 x.su W h.su)
 have HSl:=hiD (aak x.su)
 have HPo:=hiD (zB h.pos)
 have HNe:=hiD (zB h.next)
 clear h hb hr hnm hE
 obtain⟨into,⟨rk,rn,rf,rg,rA,rm,rc,rw_,ri,ro,rd,r0,r1,r2,r3⟩,bA,bn,bc,bd,po,nx,⟨u0,u1,u2,u3⟩,dn⟩:=x
 obtain⟨T,hT⟩: ∃T,T=yl ⟨into,⟨rk,rn,rf,rg,rA,rm,rc,rw_,ri,ro,rd,r0,r1,r2,r3⟩,bA,bn,bc,bd,po,nx,⟨u0,u1,u2,u3⟩,dn⟩:=⟨_,rfl⟩
 have HT:=hiD hT
 rw [←hT]at HEs ⊢
 simp only [yl]at HT
 clear hT
 dsimp only at HPa HBo HBl HEn HEl HSo HSl HPo HNe HT ⊢
 obtain⟨q,hq⟩: ∃q:Int,q=if dn=true then 1 else 0:=⟨_,rfl⟩
 have HBit:=hiD (fun W=>show Calls Tryz.prog 94 #[.bool dn] W fun e w'=>e= .returned (.int .i64 q)∧w'=W from by rw [hq];exact anH W dn)
 have Hq:=hiD (show 0≤q∧q≤1 by rw [hq];split <;> omega)
 rw [←hq]at HT
 clear hq
 generalize yh _=EB at *
 generalize qy _=SB at *
 simp only [Stg.cells,Rec.cells,Su.cells,List.cons_append,List.nil_append]at *
 go_enter Tryz.func40,Tryz.ntmps40
 go_upto_region 1 with fail
 generalize hwH:World.alloc (World.alloc w _) _=w1;have HH:=hiD (Heap.two hwH);clear hwH
 go_upto_region 2 with fail
 generalize hwA:World.alloc w1 _=w2
 have HH2:=hiD (alW (HH.out.allocE hwA))
 clear hwA HH
 generalize w1.heap.size=wb at *
 have HH:=HH2
 clear HH2
 have HLen:=hiD (Nat.zero_le 1)
 go_wp2_with (refine lSX HH ze 3 ?_)
 refine(HEn.out w2 HH.out.ext).mono ?_;rintro e w3o ⟨vw3,rfl,hown,ew3⟩;obtain⟨Aow3,cow3,rfl,_,_,_⟩:=zr hown;have HHa:=hiD (HH.out.addRow ew3 hown);clear HH hown ew3;go_wp2_with fail;refine(abO _ _ _ _ (EB) HHa.out.tail _ _ _ rfl HEl.out ((HHa.out.rowRd 0 rfl).m0) (by have q0:=HLen.out;(try simp only [List.length_append,List.length_cons,List.length_nil,List.length_map,zQ]);omega)).mono ?_;rintro e w3 ⟨rfl,Aw3,cw3,hw3⟩;have HH:=hiD hw3;clear hw3 HHa
 go_wp2_with (refine l1X HH 3 ?_)
 refine(HBo.out w3 HH.out.ext).mono ?_;rintro e w4o ⟨vw4,rfl,hown,ew4⟩;obtain⟨Aow4,cow4,rfl,_,_,_⟩:=zr hown;have HHa:=hiD (HH.out.addRow ew4 hown);clear HH hown ew4;go_wp2_with fail;refine(abO _ _ _ _ (yH bd) HHa.out.tail _ _ _ rfl HBl.out ((HHa.out.rowRd 0 rfl).m0) (by have q0:=HLen.out;(try simp only [List.length_append,List.length_cons,List.length_nil,List.length_map,zQ]);omega)).mono ?_;rintro e w4 ⟨rfl,Aw4,cw4,hw4⟩;have HH:=hiD hw4;clear hw4 HHa
 go_wp2_with (refine l1X HH 3 ?_)
 generalize hwA:World.alloc _ _=w5a;have HHa:=hiD (HH.out.allocE hwA);clear hwA HH;refine(qj _ _ _ _ [po,nx] HHa.out.tail _ _ _ rfl ((HHa.out.boxRd 0 rfl).m0) (by have q0:=HLen.out;(try simp only [List.length_append,List.length_cons,List.length_nil,List.length_map,zQ]);omega) (by intro z hz;simp only [List.mem_cons,List.not_mem_nil,or_false]at hz;have q1:=HPo.out;have q2:=HNe.out;omega)).mono ?_;rintro e w5 ⟨rfl,Aw5,cw5,hw5⟩;have HH:=hiD hw5;clear hw5 HHa
 go_wp2_with (refine lSX HH qw 3 ?_)
 refine(HSo.out w5).mono ?_
 rintro e w6o ⟨v6,rfl,hown,e6⟩
 obtain⟨Ao6,co6,rfl,_,_,_⟩:=zr hown
 have HHa:=hiD (HH.out.addRow e6 hown)
 clear HH hown e6
 go_wp2_with fail
 refine(abO _ _ _ _ SB HHa.out.tail _ _ _ HSl.out.symm (by decide) ((HHa.out.rowRd 0 rfl).m0) (by have q0:=HLen.out;(try simp only [List.length_append,List.length_cons,List.length_nil,List.length_map,zQ]);omega)).mono ?_
 rintro e w6 ⟨rfl,Aw6,cw6,h6⟩
 have HH:=hiD h6
 clear h6 HHa
 go_wp2_with (refine l1X HH 3 ?_)
 refine(HBit.out _).mono ?_
 rintro e w6b ⟨rfl,rfl⟩
 go_wp2_with fail
 generalize hwA:World.alloc _ _=w7a;have HHa:=hiD (HH.out.allocE hwA);clear hwA HH;refine(qj _ _ _ _ [q] HHa.out.tail _ _ _ rfl ((HHa.out.boxRd 0 rfl).m0) (by have q0:=HLen.out;(try simp only [List.length_append,List.length_cons,List.length_nil,List.length_map,zQ]);omega) (by intro z hz;simp only [List.mem_cons,List.not_mem_nil,or_false]at hz;have q1:=Hq.out;omega)).mono ?_;rintro e w7 ⟨rfl,Aw7,cw7,hw7⟩;have HH:=hiD hw7;clear hw7 HHa
 have HH2:=hiD (show Heap w (wtr wb Aw7 cw7 T _) w7 by rw [HT.out];simpa using HH.out)
 clear HH HT
 have HH:=HH2
 clear HH2
 go_wp2_with (refine l1X HH 3 ?_)
 generalize hwA:World.alloc _ _=w9
 have HHa:=hiD (HH.out.allocE hwA)
 clear hwA HH
 refine(adG _ _ _ _ [kG,name,into] HHa.out.tail _ 3 3 rfl (Nat.le_refl _) (by decide) ((HHa.out.boxRd 0 rfl).m0) HEs.out (by
  have q1:=abt [kG,name,into]
  have q2:kG.size=1:=rfl
  have q3:name.size≤1048576:=HNm.out
  have q4:into.size≤1048576:=HPa.out
  simp only [List.map_cons,List.map_nil,List.sum_cons,List.sum_nil]at q1
  omega)).mono ?_
 rintro e w10 ⟨Ao,mo,co,rfl,hown,hmo,e10⟩
 have Hmo:=hiD hmo
 have HH:=hiD (HHa.out.tail.addRow e10 hown)
 clear hown hmo e10 HHa
 go_wp2_with (refine sSX HH yr 3 ?_;clear HH;intro wS HH)
 refine aax yr (by kernel_rfl) HH.out rfl rfl 3 rfl rfl rfl ?_
 exact⟨Ao,mo,co,rfl,HH.out.rowAt 0 rfl,Hmo.out,HH.out.ext⟩
section
variable {P:Program} {ops:Array Oper} {Q:Exit→Act→List Frame→World→Prop} {i:Nat} {rest:List Nat} {a:Act} {cs cs':List Frame} {w w':World} {o:Oper} {v:Value}
structure WS (P:Program) (ops:Array Oper) (Q:Exit→Act→List Frame→World→Prop) (l:List Nat) (a:Act) (cs:List Frame) (w:World):Prop where
 out:wpOpsS P ops Q l a cs w
theorem abN{id:Nat}{l:List Nat}(hl:List.range ops.size=l)(h:WS P ops Q l a cs w):(Code.region id ops false).wpS P Q a cs w:=wpS_region (hl▸h.out)
theorem zZ(h:ops[i]?=some o)(hw:Region.wanted o (yielded ops a.tmps)=true)(hr:(execOp a.eval o).run P w= .ok (.value v) w')(k:WS P ops Q rest (a.put o.dst v) cs w'):WS P ops Q (i::rest) a cs w:=by
 constructor
 simp only [wpOpsS,h,if_pos hw,hr]
 exact k.out
theorem aj5(h:ops[i]?=some o)(hw:Region.wanted o (yielded ops a.tmps)=true)(hr:(execOp a.eval o).run P w= .ok .recover w')(hd:recoverD cs=some (v,cs'))(k:WS P ops Q rest (a.put o.dst v) cs' w'):WS P ops Q (i::rest) a cs w:=by
 constructor
 simp only [wpOpsS,h,if_pos hw,hr,hd]
 exact k.out
theorem afH(h:ops[i]?=some o)(hw:Region.wanted o (yielded ops a.tmps)=true)(hr:(execOp a.eval o).run P w= .ok .recover w')(hd:recoverD cs=none)(k:WS P ops Q rest (a.put o.dst .nilIface) cs w'):WS P ops Q (i::rest) a cs w:=by
 constructor
 simp only [wpOpsS,h,if_pos hw,hr,hd]
 exact k.out
theorem aec(k:Q .normal a cs w):WS P ops Q [] a cs w:=⟨k⟩
end
theorem amA{w0 w:World}{its:List It}{p1 p2:Value}(HH:Hid (Heap w0 its w)):
 CallsD Tryz.prog 37 #[p1,p2] .returning w fun e u' w'=>e= .returned (.tuple #[])∧u'= .returning∧Heap w0 its w':=by
 refine callsD_of_wpS Tryz.func37 rfl fun c₀ cs hu=>?_
 simp only [Tryz.ntmps37,List.size_toArray,List.length_cons,List.length_nil,Nat.reduceAdd,Nat.reduceSub,Array.replicate_succ,Array.replicate_zero,List.push_toArray,List.append_toArray,List.nil_append,List.cons_append]
 apply wpS_seq
 apply abN (l:= [0,1,2,3,4,5,6]) rfl
 refine afH (w':=w) rfl (by kernel_rfl) (by rfl) (by simp only [recoverD,hu]) ?_
 simp only [Act.put]
 refine zZ (w':=w) (v:= .tuple #[.int .i64 0,.bool false]) rfl (by kernel_rfl) (by kernel_rfl) ?_
 refine zZ (w':=w) (v:= .tuple #[.int .i64 0,.bool false]) rfl (by kernel_rfl) (by kernel_rfl) ?_
 refine zZ (w':=w) (v:= .int .i64 0) rfl (by kernel_rfl) (by kernel_rfl) ?_
 refine zZ (w':=w) (v:= .bool false) rfl (by kernel_rfl) (by kernel_rfl) ?_
 refine zZ (w':=w) (v:= .int .i64 0) rfl (by kernel_rfl) (by kernel_rfl) ?_
 refine zZ (w':=w) (v:= .bool false) rfl (by kernel_rfl) (by kernel_rfl) ?_
 refine aec ?_
 simp only [Exit.thenS]
 refine wpS_of_wp ?_
 go_wp2_with fail
 refine⟨rfl,.returning,?_,.tuple #[],by kernel_rfl,rfl,rfl,HH.out⟩
 cases c₀
 simp_all
section
variable {P:Program} {w0 w:World} {its:List It} {fn:Func} {R:Ending→World→Prop} {tmps:Array Value}
theorem acM{t:TypeId}{b p:Nat}{vs:List Value}{v:Value}(H:Heap w0 its w)(hk:qG P t=some false)(i:Nat)(hi:its[i]?=some (.box b vs))(hv:vs[p]?=some v):
 (loadVar t ⟨b,p,none⟩).run P w= .ok v w:=by
 have hc:=(H.boxAt i hi).cell p v hv
 simp [loadVar,aay hk,load,Sem.run,hc]
theorem ahP{u s:TypeId}{y z c d:Nat}{v v2:Value}(ku:qG P u=some false)(ks:qG P s=some false)(H:Heap w0 its w)(hres:fn.results= #[.cell y u,.cell z s])
 (hy:tmps.getD y undef= .pointer (some ⟨c,0,none⟩)) (hz:tmps.getD z undef= .pointer (some ⟨d,0,none⟩)) (j k:Nat) (hj:its[j]?=some (.box c [v])) (hk:its[k]?=some (.box d [v2]))
 (hR:R (.returned (.tuple #[v,v2])) w):Leaves P fn tmps R [] .returning w:=by
 refine⟨_,?_,hR⟩
 have h1:=acM (p:=0) H ku j hj rfl
 have h2:=acM (p:=0) H ks k hk rfl
 have hy':tmps[y]?.getD undef= .pointer (some ⟨c,0,none⟩):=by simpa using hy
 have hz':tmps[z]?.getD undef= .pointer (some ⟨d,0,none⟩):=by simpa using hz
 simp only [results,hres]
 simp [asAddr,hy',hz',h1,h2]
end
section
variable {w0 w:World} {its:List It} {R:Ending→World→Prop} {tmps:Array Value}
abbrev apn(lb eb:Nat):List Deferred:= [⟨.fn (.func 37) #[.pointer (some ⟨lb,0,none⟩),.pointer (some ⟨eb,0,none⟩)],#[]⟩]
theorem anw{lb eb i j:Nat}{lv ev:Value}(H:Heap w0 its w)(hi:its[i]?=some (.box lb [lv]))(hj:its[j]?=some (.box eb [ev]))
 (h4:tmps.getD 2 undef= .pointer (some ⟨lb,0,none⟩)) (h5:tmps.getD 3 undef= .pointer (some ⟨eb,0,none⟩)) (hR: ∀w',Heap w0 its w'→R (.returned (.tuple #[lv,ev])) w'):
 Leaves Tryz.prog Tryz.f14 tmps R (apn lb eb) .returning w:=by
 refine leaves_cons (f:=37) (args:= #[.pointer (some ⟨lb,0,none⟩),.pointer (some ⟨eb,0,none⟩)]) (by simp) (by simp [go_sem]) ?_
 refine(amA (hiD H)).mono ?_
 rintro e u' w'' ⟨rfl,rfl,H2⟩
 simp only [settle]
 exact ahP (by kernel_rfl) (by kernel_rfl) H2 rfl h4 h5 i j hi hj (hR _ H2)
end
end Go.Proofs.YtckaneapjpiocaaGreatDoor
