/- The texts Phd in one file. -/
import Derived.Test.YtckaneapjpiocaaGreatDoorQ31
set_option linter.unusedVariables false
set_option linter.unusedSimpArgs false
set_option maxHeartbeats 8000000
set_option maxRecDepth 100000
namespace Go.Proofs.YtckaneapjpiocaaGreatDoor
open Go.RowKit Go.Maps Go.Sort Go.Shelf
def yY(p:Pol):List ByteArray:=zm p.cap::zm (p.forced.xs.length:Int)::(zW p.forced.xs++(zm (p.log.xs.length:Int)::(p.log.xs.flatMap zR++p.ten.xs.map Tnt.name)))
theorem akb(w:World)(p:Pol)(h:Pol.At w 0 w.heap.size p)(hF:p.forced.n≤16)(hL:p.log.n≤16)(hT:p.ten.n≤4)(hE:wE (yY p)=0):
 Calls Tryz.prog 59 #[.agg p.cells.toArray] w fun e w'=> ∃A m c,e= .returned (.tuple #[.slice A m c,.int .i64 0])∧w'.ownsRow w.heap.size 5 1 (.slice A m c) m (bytes (zu (yY p)))∧m=(zu (yY p)).length∧Ext w w':=by
 obtain⟨i0,hi0,hz0,hz1,hz2⟩:=info_parts afj
 have HQ:=hiD (zB h.cap)
 have HTn:=hiD h.ten
 have HLn:=hiD h.log
 have HPt:=hiD (fun W (hW:Ext w W)=>adB W p.forced.A p.forced.n p.forced.c p.forced.xs h.forced.len (by omega) (Rd.at h.forced.rd hW (Nat.le_refl _)))
 have HPl:=hiD (show(zW p.forced.xs).length=p.forced.n * 2 by rw [xR,h.forced.len])
 have HX:=hiD (show yY p= [zm p.cap,zm (p.forced.n:Int)]++(zW p.forced.xs)++ [zm (p.log.n:Int)]++p.log.xs.flatMap zR++p.ten.xs.map Tnt.name by rw [yY,h.forced.len,h.log.len];simp)
 have HEs:=hiD hE
 generalize yY p=X at *
 clear h hE
 obtain⟨cap,⟨tA,tn,tc,tx⟩,⟨fA,fn,fc,fx⟩,⟨lA,ln,lc,lx⟩⟩:=p
 dsimp only at *
 generalize zW fx=PT at *
 have hTn:=hiD (show tn=tx.length from HTn.out.len)
 have hLn:=hiD (show ln=lx.length from HLn.out.len)
 simp only [Pol.cells,Sl.val]
 go_enter Tryz.func59,Tryz.ntmps59
 go_upto_region 1 with fail
 generalize hwH:World.alloc w _=w1;have HH:=hiD (Heap.one hwH);clear hwH
 have HZs:=hiD (show∀z∈ [cap,(fn:Int)],-9223372036854775808≤z∧z≤9223372036854775807 from fun z hz=>by
  have q:=HQ.out
  simp only [List.mem_cons,List.not_mem_nil,or_false]at hz
  rcases hz with rfl | rfl <;> omega)
 have HN2:=hiD (show(([zm cap,zm (fn:Int)]:List ByteArray)++PT).map Value.string=qU [cap,(fn:Int)]++PT.map Value.string by simp [qU])
 go_cut [4]from 9 to 19 (fun v wx=> ∃A c,v= .slice A (2+fn * 2) c∧Hid (Heap w [.row 9 1 (.slice A (2+fn * 2) c) (2+fn * 2) ((([zm cap,zm (fn:Int)]:List ByteArray)++PT).map Value.string),.box w.heap.size [.int .i64 cap,.slice tA tn tc,.slice fA fn fc,.slice lA ln lc]] wx))
 case first=>
  refine afx ?_
  have HHd:=hiD HH.out.drew;clear HH;refine wp_region_held_drew (S:=Heap w [.box w.heap.size [.int .i64 cap,.slice tA tn tc,.slice fA fn fc,.slice lA ln lc]]) (by kernel_rfl) HHd.out (fun hHeld=>?_);generalize hwd:World.drew w1=wd at *;clear hwd;have HH0:=HHd;clear HHd
  refine tW 0 1 ?_
  refine tH 1 0 ?_
  refine tW 2 1 ?_
  refine tH 3 0 ?_
  refine tW 4 1 ?_
  refine tW 7 1 ?_
  refine tH 8 0 ?_
  clear hHeld
  refine oS 5 (fun K hK=>?_)
  go_simp;generalize hwA:World.alloc _ _=w2;have HH2:=hiD ((HH0).out.allocE hwA);clear hwA HH0
  refine hK.out _ _ ((HH2).out.only 1 rfl) (fun hHeld=>?_);clear hK K;refine lyX ?_;clear hHeld
  refine oS 6 (fun K hK=>?_)
  go_simp;refine(zI w2 _ 2 2 [cap,(fn:Int)] rfl ((HH2.out.boxRd 0 rfl).m0) (by omega) (HZs.out)).mono ?_;rintro e w3 ⟨vw3,rfl,hownw3,ew3⟩;obtain⟨Aw3,cw3,rfl,_,_,_⟩:=zr hownw3;have HH3:=hiD ((HH2).out.addRow ew3 hownw3);clear HH2 hownw3 ew3;go_wp2_with fail
  refine hK.out _ _ ((HH3).out.only 2 rfl) (fun hHeld=>?_);clear hK K;refine lyX ?_;clear hHeld
  refine oS 9 (fun K hK=>?_)
  go_simp;refine(HPt.out w3 HH3.out.ext).mono ?_;rintro e w4 ⟨vw4,rfl,hownw4,ew4⟩;obtain⟨Aw4,cw4,rfl,_,_,_⟩:=zr hownw4;have HH4:=hiD ((HH3).out.addRow ew4 hownw4);clear HH3 hownw4 ew4;go_wp2_with fail
  refine hK.out _ _ ((HH4).out.only 3 rfl) (fun hHeld=>?_);clear hK K;refine lyX ?_;clear hHeld
  refine oS 10 (fun K hK=>?_)
  refine zO (.tmp 15) (.tmp 18) _ rfl Tryz.underlying109 hi0 hz0 hz1 hz2 rfl (by omega) HH4.out 1 rfl rfl (m:=fn * 2) rfl (by rw [List.length_map,HPl.out,Nat.mul_one]) (Rd.of_own (HH4.out.rowAt 0 rfl)) (by intro u hu;obtain⟨y,_,rfl⟩:=List.mem_map.1 hu;rfl) (by simp only [maxLen];omega) (by omega) ?_
  rintro v5 w5 hh5 ⟨A5,c5,rfl⟩
  have HH5:=hiD (hh5.pair 1 3 rfl rfl rfl)
  clear hh5 HH4
  refine hK.out _ _ (HH5.out.only 1 rfl) (fun hHeld=>?_)
  clear hK K
  refine lyX ?_
  refine tW 11 1 ?_
  clear hHeld
  refine dnX ?_
  simp only [noP]
  go_wp2_with fail
  go_meet
  exact⟨_,_,rfl,by rw [HN2.out];exact HH5⟩
 case rest=>
  obtain⟨A,c,rfl,HX1⟩:=hcut
  replace HH:=HX1
  clear HX1 HPt HN2 HZs
  have HXl:=hiD (show((([zm cap,zm (fn:Int)]:List ByteArray)++PT)).length=2+fn * 2 by rw [List.length_append,HPl.out];rfl)
  generalize hX0:([zm cap,zm (fn:Int)]:List ByteArray)++PT=X0 at *
  clear hX0
  obtain⟨L0,hL0⟩: ∃L0,L0=2+fn * 2:=⟨_,rfl⟩
  rw [←hL0]at HH HXl ⊢
  have hL0b:L0≤34:=by omega
  clear hL0
  go_wp2_with (refine l1X HH 1 ?_)
  generalize hwA:World.alloc _ _=w2
  have HH2:=hiD (HH.out.allocE hwA)
  clear hwA HH
  refine(zI w2 _ 1 1 [(ln:Int)] rfl ((HH2.out.boxRd 0 rfl).m0) (by omega) (by intro z hz;simp only [List.mem_cons,List.not_mem_nil,or_false]at hz;subst hz;omega)).mono ?_
  rintro e w3 ⟨v3,rfl,hown,e3⟩
  obtain⟨A3,c3,rfl,_,_,_⟩:=zr hown
  have HH:=hiD (HH2.out.addRow e3 hown)
  clear HH2 hown e3
  go_upto_region 4 with(first | (refine l1X HH 3 ?_) | (refine qk (e:=9) (size:=1) (bytes:=16) (news:=qU [(ln:Int)]) (lo:=0) (.tmp 20) (.tmp 25) _ rfl rfl Tryz.underlying109 hi0 hz0 hz1 hz2 rfl (by omega) HH.out 2 rfl rfl (m:=1) rfl rfl ((Rd.of_own (HH.out.rowAt 0 rfl)).m0) (by simp [qU,Value.oneCell']) (by simp only [maxLen];omega) (by omega) ?_;rintro v' w' h' ⟨A',c',rfl⟩;clear HH;have HH:=hiD h';clear h'))
  -- behind the cut
  obtain⟨X1,hX1⟩: ∃X1,X1=X0++ [zm (ln:Int)]:=⟨_,rfl⟩
  have HH2:=hiD (show Heap w [.row 9 1 (.slice A' (L0+1) c') (L0+1) (X1.map Value.string),.box w.heap.size [.int .i64 cap,.slice tA tn tc,.slice fA fn fc,.slice lA ln lc]] w' from by
   have e:X1.map Value.string=X0.map Value.string++qU [(ln:Int)]:=by rw [hX1];simp [qU]
   rw [e]
   exact HH.out.pair 2 3 rfl rfl rfl)
  clear HH
  rw [←hX1]at HX
  have HX1l:=hiD (show X1.length=L0+1 by rw [hX1,List.length_append,HXl.out];rfl)
  clear hX1 HXl
  obtain⟨pv,hpv⟩: ∃pv:List Value,pv= [.int .i64 cap,.slice tA tn tc,.slice fA fn fc,.slice lA ln lc]:=⟨_,rfl⟩
  rw [←hpv]at HH2
  have HPV:=hiD hpv
  clear hpv
  obtain⟨L1,hL1⟩: ∃L1,L1=L0+1:=⟨_,rfl⟩
  rw [←hL1]at HH2 HX1l ⊢
  have hL1b:L1≤35:=by omega
  clear hL1 hL0b
  go_loopw [4,30] (fun v i wr=> ∃(k:Nat) (A:Option Addr) (c:Nat),k≤ln∧i= .int .i64 (k:Int)∧v= .slice A (L1+k * 4) c∧Hid (Heap w [.row 9 1 (.slice A (L1+k * 4) c) (L1+k * 4) ((X1++(lx.take k).flatMap zR).map Value.string),.box w.heap.size pv] wr)) (fun _ i _=>ln - (intOf i).toNat)
  case atStart=>exact⟨0,_,_,Nat.zero_le _,rfl,rfl,by simpa using HH2⟩
  case round=>
   clear HH2
   obtain⟨k,A,c,hk,rfl,rfl,HH⟩:=hrel
   by_cases hlt:k < ln
   ·have l1:k < lx.length:=by rw [←hLn.out];exact hlt
    obtain⟨b1,o1,hA1,_,hb1,G⟩:=zh (size:=4) (fun _=>rfl) (by omega) HLn.out.rd l1
    dsimp only at hA1
    subst hA1
    have HSm:=hiD (HLn.out.all _ (List.getElem_mem l1))
    have HS:=hiD (acG zR lx k l1)
    have HGw:=hiD (fun i u hu=>(Below.cell HH.out.ext hb1).trans (G i u hu))
    clear G
    generalize (lx.take k).flatMap zR=Y at *
    generalize lx[k]=x at *
    obtain⟨us,ki,pa,er⟩:=x
    have HGc:=hiD (show∀i u,([.string us,.int .i64 ki,.string pa,.int .i64 er]:List Value)[i]?=some u→wr.cell? ⟨b1,o1+k * 4+i,none⟩=some u from HGw.out)
    have HKi:=hiD (zB HSm.out.2.2.1)
    have HEr:=hiD (zB HSm.out.2.2.2)
    clear HGw HSm
    dsimp only at HKi HEr
    have hkn:(k:Int) < (ln:Int):=by omega
    go_upto_region 6 with(first | (refine yF HGc.out rfl ac0 (by kernel_rfl) rfl rfl rfl ?_) | (refine sSX (hiD (HH.out.alloc _ _)) ac0 0 ?_;clear HH;intro wS HH))
    generalize wr.heap.size=xb at *
    clear HGc
    have HS2:=hiD (show(X1++(lx.take (k+1)).flatMap zR).map Value.string=(X1++Y).map Value.string++ [.string us,.string (zm ki),.string pa,.string (zm er)]by rw [HS.out,←List.append_assoc,List.map_append];rfl)
    have HHd:=hiD (show Heap w [.box xb [.string us,.int .i64 ki,.string pa,.int .i64 er],.row 9 1 (.slice A (L1+k * 4) c) (L1+k * 4) ((X1++Y).map Value.string),.box w.heap.size pv] (World.drew wS)from HH.out.drew)
    clear HH
    refine wp_region_held_drew (S:=Heap w [.box xb [.string us,.int .i64 ki,.string pa,.int .i64 er]]) (by kernel_rfl) (HHd.out.only 0 rfl) (fun hHeld=>?_)
    generalize World.drew _=wd at *
    refine tW 0 2 ?_
    refine tH 2 0 ?_
    refine tW 3 1 ?_
    refine tH 4 0 ?_
    refine tW 9 1 ?_
    refine tH 10 0 ?_
    refine tW 11 1 ?_
    refine tH 12 0 ?_
    clear hHeld
    refine aa2 5 13 rfl rfl (by kernel_rfl) (by kernel_rfl) (by kernel_rfl) (fun K hK=>?_) (fun K hK=>?_)
    ·go_simp;generalize hwA:World.alloc _ _=wz1;have HZ1:=hiD ((HHd).out.allocE hwA);clear hwA HHd
     refine hK.out _ _ (HZ1.out.only 1 rfl) (fun hHeld=>?_)
     clear hK K
     refine lyX ?_
     clear hHeld
     refine aa2 6 13 rfl rfl (by kernel_rfl) (by kernel_rfl) (by kernel_rfl) (fun K hK=>?_) (fun K hK=>?_)
     ·go_simp
      refine(zI wz1 _ 1 1 [ki] rfl ((HZ1.out.boxRd 0 rfl).m0) (by omega) (by intro z hz;simp only [List.mem_cons,List.not_mem_nil,or_false]at hz;subst hz;exact HKi.out)).mono ?_
      rintro e wz2 ⟨v2,rfl,hown2,e2⟩
      have HZ2:=hiD (HZ1.out.addRow e2 hown2)
      obtain⟨g6,cg6,rfl⟩:=HZ2.out.rowForm 0 rfl (by omega)
      clear HZ1 hown2 e2
      go_wp2_with fail
      refine hK.out _ _ (HZ2.out.only 2 rfl) (fun hHeld=>?_)
      clear hK K
      refine lyX ?_
      refine tW 7 1 ?_
      clear hHeld
      refine aa2 8 13 rfl rfl (by kernel_rfl) (by kernel_rfl) (by kernel_rfl) (fun K hK=>?_) (fun K hK=>?_)
      ·have q8:wz2.cell? ⟨g6,0,none⟩=some (.string (zm ki)):=(HZ2.out.rowAt 0 rfl).cellAt 0 (by omega)
       go_simp
       clear q8
       refine hK.out _ _ (HZ2.out.only 2 rfl) (fun hHeld=>?_)
       clear hK K
       refine lyX ?_
       clear hHeld
       refine oS 13 (fun K hK=>?_)
       go_simp;generalize hwA:World.alloc _ _=wz4;have HZ4:=hiD ((HZ2).out.allocE hwA);clear hwA HZ2
       refine hK.out _ _ (HZ4.out.only 3 rfl) (fun hHeld=>?_)
       clear hK K
       refine lyX ?_
       clear hHeld
       refine oS 14 (fun K hK=>?_)
       go_simp
       refine(zI wz4 _ 1 1 [er] rfl ((HZ4.out.boxRd 0 rfl).m0) (by omega) (by intro z hz;simp only [List.mem_cons,List.not_mem_nil,or_false]at hz;subst hz;exact HEr.out)).mono ?_
       rintro e wz5 ⟨v5,rfl,hown5,e5⟩
       have HZ5:=hiD (HZ4.out.addRow e5 hown5)
       obtain⟨g14,cg14,rfl⟩:=HZ5.out.rowForm 0 rfl (by omega)
       clear HZ4 hown5 e5
       go_wp2_with fail
       refine hK.out _ _ (HZ5.out.only 4 rfl) (fun hHeld=>?_)
       clear hK K
       refine lyX ?_
       refine tW 15 1 ?_
       clear hHeld
       refine oS 16 (fun K hK=>?_)
       have q16:wz5.cell? ⟨g14,0,none⟩=some (.string (zm er)):=(HZ5.out.rowAt 0 rfl).cellAt 0 (by omega)
       go_simp
       clear q16
       refine hK.out _ _ (HZ5.out.only 4 rfl) (fun hHeld=>?_)
       clear hK K
       refine lyX ?_
       clear hHeld
       refine oS 17 (fun K hK=>?_)
       go_simp;generalize hwA:World.alloc _ _=wz7;have HZ7:=hiD ((HZ5).out.allocE hwA);clear hwA HZ5
       refine hK.out _ _ (HZ7.out.only 5 rfl) (fun hHeld=>?_)
       clear hK K
       refine lyX ?_
       clear hHeld
       refine oS 18 (fun K hK=>?_)
       refine zO (.tmp 34) (.tmp 51) _ rfl Tryz.underlying109 hi0 hz0 hz1 hz2 rfl (by omega) HZ7.out 6 rfl rfl (m:=4) rfl rfl (HZ7.out.boxRd 0 rfl) (by simp [Value.oneCell']) (by simp only [maxLen];omega) (by omega) ?_
       rintro v5 w5 hh5 ⟨A5,c5,rfl⟩
       have HF5:=hiD hh5
       clear hh5 HZ7
       refine hK.out _ _ (HF5.out.only 5 rfl) (fun hHeld=>?_)
       clear hK K
       refine lyX ?_
       refine tW 19 1 ?_
       clear hHeld
       refine dnX ?_
       have HR5:=hiD (show Heap w [.row 9 1 (.slice A5 (L1+k * 4+4) c5) (L1+k * 4+4) ((X1++(lx.take (k+1)).flatMap zR).map Value.string),.box w.heap.size pv] w5 from by rw [HS2.out];exact HF5.out.pair 6 7 rfl rfl rfl)
       clear HF5
       go_wp2_with fail
       go_roundw
       case rel=>exact⟨k+1,A5,c5,by omega,by go_num,by rw [show L1+(k+1) * 4=L1+k * 4+4 by omega],by rw [show L1+(k+1) * 4=L1+k * 4+4 by omega];exact HR5⟩
       case measure=>(first | (simp [intOf];done) | (simp [intOf];omega))
      ·go_simp;generalize hwA:World.alloc _ _=wz8;have HZ8:=hiD ((HZ2).out.allocE hwA);clear hwA HZ2
       refine hK.out _ _ (HZ8.out.only 3 rfl) (fun hHeld=>?_)
       clear hK K
       refine lyX ?_
       clear hHeld
       refine aa2 8 14 rfl rfl (by kernel_rfl) (by kernel_rfl) (by kernel_rfl) (fun K hK=>?_) (fun K hK=>?_)
       ·have q8:wz8.cell? ⟨g6,0,none⟩=some (.string (zm ki)):=(HZ8.out.rowAt 1 rfl).cellAt 0 (by omega)
        go_simp
        clear q8
        refine hK.out _ _ (HZ8.out.only 3 rfl) (fun hHeld=>?_)
        clear hK K
        refine lyX ?_
        clear hHeld
        refine oS 14 (fun K hK=>?_)
        go_simp
        refine(zI wz8 _ 1 1 [er] rfl ((HZ8.out.boxRd 0 rfl).m0) (by omega) (by intro z hz;simp only [List.mem_cons,List.not_mem_nil,or_false]at hz;subst hz;exact HEr.out)).mono ?_
        rintro e wz10 ⟨v10,rfl,hown10,e10⟩
        have HZ10:=hiD (HZ8.out.addRow e10 hown10)
        obtain⟨g14,cg14,rfl⟩:=HZ10.out.rowForm 0 rfl (by omega)
        clear HZ8 hown10 e10
        go_wp2_with fail
        refine hK.out _ _ (HZ10.out.only 4 rfl) (fun hHeld=>?_)
        clear hK K
        refine lyX ?_
        refine tW 15 1 ?_
        clear hHeld
        refine oS 16 (fun K hK=>?_)
        have q16:wz10.cell? ⟨g14,0,none⟩=some (.string (zm er)):=(HZ10.out.rowAt 0 rfl).cellAt 0 (by omega)
        go_simp
        clear q16
        refine hK.out _ _ (HZ10.out.only 4 rfl) (fun hHeld=>?_)
        clear hK K
        refine lyX ?_
        clear hHeld
        refine oS 17 (fun K hK=>?_)
        go_simp;generalize hwA:World.alloc _ _=wz12;have HZ12:=hiD ((HZ10).out.allocE hwA);clear hwA HZ10
        refine hK.out _ _ (HZ12.out.only 5 rfl) (fun hHeld=>?_)
        clear hK K
        refine lyX ?_
        clear hHeld
        refine oS 18 (fun K hK=>?_)
        refine zO (.tmp 34) (.tmp 51) _ rfl Tryz.underlying109 hi0 hz0 hz1 hz2 rfl (by omega) HZ12.out 6 rfl rfl (m:=4) rfl rfl (HZ12.out.boxRd 0 rfl) (by simp [Value.oneCell']) (by simp only [maxLen];omega) (by omega) ?_
        rintro v5 w5 hh5 ⟨A5,c5,rfl⟩
        have HF5:=hiD hh5
        clear hh5 HZ12
        refine hK.out _ _ (HF5.out.only 5 rfl) (fun hHeld=>?_)
        clear hK K
        refine lyX ?_
        refine tW 19 1 ?_
        clear hHeld
        refine dnX ?_
        have HR5:=hiD (show Heap w [.row 9 1 (.slice A5 (L1+k * 4+4) c5) (L1+k * 4+4) ((X1++(lx.take (k+1)).flatMap zR).map Value.string),.box w.heap.size pv] w5 from by rw [HS2.out];exact HF5.out.pair 6 7 rfl rfl rfl)
        clear HF5
        go_wp2_with fail
        go_roundw
        case rel=>exact⟨k+1,A5,c5,by omega,by go_num,by rw [show L1+(k+1) * 4=L1+k * 4+4 by omega],by rw [show L1+(k+1) * 4=L1+k * 4+4 by omega];exact HR5⟩
        case measure=>(first | (simp [intOf];done) | (simp [intOf];omega))
       ·go_simp
        refine(zI wz8 _ 1 1 [er] rfl ((HZ8.out.boxRd 0 rfl).m0) (by omega) (by intro z hz;simp only [List.mem_cons,List.not_mem_nil,or_false]at hz;subst hz;exact HEr.out)).mono ?_
        rintro e wz13 ⟨v13,rfl,hown13,e13⟩
        have HZ13:=hiD (HZ8.out.addRow e13 hown13)
        obtain⟨g14,cg14,rfl⟩:=HZ13.out.rowForm 0 rfl (by omega)
        clear HZ8 hown13 e13
        go_wp2_with fail
        refine hK.out _ _ (HZ13.out.only 4 rfl) (fun hHeld=>?_)
        clear hK K
        refine lyX ?_
        refine tW 15 1 ?_
        clear hHeld
        refine aa2 8 16 rfl rfl (by kernel_rfl) (by kernel_rfl) (by kernel_rfl) (fun K hK=>?_) (fun K hK=>?_)
        ·have q8:wz13.cell? ⟨g6,0,none⟩=some (.string (zm ki)):=(HZ13.out.rowAt 2 rfl).cellAt 0 (by omega)
         go_simp
         clear q8
         refine hK.out _ _ (HZ13.out.only 4 rfl) (fun hHeld=>?_)
         clear hK K
         refine lyX ?_
         clear hHeld
         refine oS 16 (fun K hK=>?_)
         have q16:wz13.cell? ⟨g14,0,none⟩=some (.string (zm er)):=(HZ13.out.rowAt 0 rfl).cellAt 0 (by omega)
         go_simp
         clear q16
         refine hK.out _ _ (HZ13.out.only 4 rfl) (fun hHeld=>?_)
         clear hK K
         refine lyX ?_
         clear hHeld
         refine oS 17 (fun K hK=>?_)
         go_simp;generalize hwA:World.alloc _ _=wz16;have HZ16:=hiD ((HZ13).out.allocE hwA);clear hwA HZ13
         refine hK.out _ _ (HZ16.out.only 5 rfl) (fun hHeld=>?_)
         clear hK K
         refine lyX ?_
         clear hHeld
         refine oS 18 (fun K hK=>?_)
         refine zO (.tmp 34) (.tmp 51) _ rfl Tryz.underlying109 hi0 hz0 hz1 hz2 rfl (by omega) HZ16.out 6 rfl rfl (m:=4) rfl rfl (HZ16.out.boxRd 0 rfl) (by simp [Value.oneCell']) (by simp only [maxLen];omega) (by omega) ?_
         rintro v5 w5 hh5 ⟨A5,c5,rfl⟩
         have HF5:=hiD hh5
         clear hh5 HZ16
         refine hK.out _ _ (HF5.out.only 5 rfl) (fun hHeld=>?_)
         clear hK K
         refine lyX ?_
         refine tW 19 1 ?_
         clear hHeld
         refine dnX ?_
         have HR5:=hiD (show Heap w [.row 9 1 (.slice A5 (L1+k * 4+4) c5) (L1+k * 4+4) ((X1++(lx.take (k+1)).flatMap zR).map Value.string),.box w.heap.size pv] w5 from by rw [HS2.out];exact HF5.out.pair 6 7 rfl rfl rfl)
         clear HF5
         go_wp2_with fail
         go_roundw
         case rel=>exact⟨k+1,A5,c5,by omega,by go_num,by rw [show L1+(k+1) * 4=L1+k * 4+4 by omega],by rw [show L1+(k+1) * 4=L1+k * 4+4 by omega];exact HR5⟩
         case measure=>(first | (simp [intOf];done) | (simp [intOf];omega))
        ·have q16:wz13.cell? ⟨g14,0,none⟩=some (.string (zm er)):=(HZ13.out.rowAt 0 rfl).cellAt 0 (by omega)
         go_simp
         clear q16
         refine hK.out _ _ (HZ13.out.only 4 rfl) (fun hHeld=>?_)
         clear hK K
         refine lyX ?_
         clear hHeld
         refine oS 8 (fun K hK=>?_)
         have q8:wz13.cell? ⟨g6,0,none⟩=some (.string (zm ki)):=(HZ13.out.rowAt 2 rfl).cellAt 0 (by omega)
         go_simp
         clear q8
         refine hK.out _ _ (HZ13.out.only 4 rfl) (fun hHeld=>?_)
         clear hK K
         refine lyX ?_
         clear hHeld
         refine oS 17 (fun K hK=>?_)
         go_simp;generalize hwA:World.alloc _ _=wz19;have HZ19:=hiD ((HZ13).out.allocE hwA);clear hwA HZ13
         refine hK.out _ _ (HZ19.out.only 5 rfl) (fun hHeld=>?_)
         clear hK K
         refine lyX ?_
         clear hHeld
         refine oS 18 (fun K hK=>?_)
         refine zO (.tmp 34) (.tmp 51) _ rfl Tryz.underlying109 hi0 hz0 hz1 hz2 rfl (by omega) HZ19.out 6 rfl rfl (m:=4) rfl rfl (HZ19.out.boxRd 0 rfl) (by simp [Value.oneCell']) (by simp only [maxLen];omega) (by omega) ?_
         rintro v5 w5 hh5 ⟨A5,c5,rfl⟩
         have HF5:=hiD hh5
         clear hh5 HZ19
         refine hK.out _ _ (HF5.out.only 5 rfl) (fun hHeld=>?_)
         clear hK K
         refine lyX ?_
         refine tW 19 1 ?_
         clear hHeld
         refine dnX ?_
         have HR5:=hiD (show Heap w [.row 9 1 (.slice A5 (L1+k * 4+4) c5) (L1+k * 4+4) ((X1++(lx.take (k+1)).flatMap zR).map Value.string),.box w.heap.size pv] w5 from by rw [HS2.out];exact HF5.out.pair 6 7 rfl rfl rfl)
         clear HF5
         go_wp2_with fail
         go_roundw
         case rel=>exact⟨k+1,A5,c5,by omega,by go_num,by rw [show L1+(k+1) * 4=L1+k * 4+4 by omega],by rw [show L1+(k+1) * 4=L1+k * 4+4 by omega];exact HR5⟩
         case measure=>(first | (simp [intOf];done) | (simp [intOf];omega))
     ·go_simp;generalize hwA:World.alloc _ _=wz20;have HZ20:=hiD ((HZ1).out.allocE hwA);clear hwA HZ1
      refine hK.out _ _ (HZ20.out.only 2 rfl) (fun hHeld=>?_)
      clear hK K
      refine lyX ?_
      clear hHeld
      refine oS 6 (fun K hK=>?_)
      go_simp
      refine(zI wz20 _ 1 1 [ki] rfl ((HZ20.out.boxRd 1 rfl).m0) (by omega) (by intro z hz;simp only [List.mem_cons,List.not_mem_nil,or_false]at hz;subst hz;exact HKi.out)).mono ?_
      rintro e wz21 ⟨v21,rfl,hown21,e21⟩
      have HZ21:=hiD (HZ20.out.addRow e21 hown21)
      obtain⟨g6,cg6,rfl⟩:=HZ21.out.rowForm 0 rfl (by omega)
      clear HZ20 hown21 e21
      go_wp2_with fail
      refine hK.out _ _ (HZ21.out.only 3 rfl) (fun hHeld=>?_)
      clear hK K
      refine lyX ?_
      refine tW 7 1 ?_
      clear hHeld
      refine aa2 8 14 rfl rfl (by kernel_rfl) (by kernel_rfl) (by kernel_rfl) (fun K hK=>?_) (fun K hK=>?_)
      ·have q8:wz21.cell? ⟨g6,0,none⟩=some (.string (zm ki)):=(HZ21.out.rowAt 0 rfl).cellAt 0 (by omega)
       go_simp
       clear q8
       refine hK.out _ _ (HZ21.out.only 3 rfl) (fun hHeld=>?_)
       clear hK K
       refine lyX ?_
       clear hHeld
       refine oS 14 (fun K hK=>?_)
       go_simp
       refine(zI wz21 _ 1 1 [er] rfl ((HZ21.out.boxRd 1 rfl).m0) (by omega) (by intro z hz;simp only [List.mem_cons,List.not_mem_nil,or_false]at hz;subst hz;exact HEr.out)).mono ?_
       rintro e wz23 ⟨v23,rfl,hown23,e23⟩
       have HZ23:=hiD (HZ21.out.addRow e23 hown23)
       obtain⟨g14,cg14,rfl⟩:=HZ23.out.rowForm 0 rfl (by omega)
       clear HZ21 hown23 e23
       go_wp2_with fail
       refine hK.out _ _ (HZ23.out.only 4 rfl) (fun hHeld=>?_)
       clear hK K
       refine lyX ?_
       refine tW 15 1 ?_
       clear hHeld
       refine oS 16 (fun K hK=>?_)
       have q16:wz23.cell? ⟨g14,0,none⟩=some (.string (zm er)):=(HZ23.out.rowAt 0 rfl).cellAt 0 (by omega)
       go_simp
       clear q16
       refine hK.out _ _ (HZ23.out.only 4 rfl) (fun hHeld=>?_)
       clear hK K
       refine lyX ?_
       clear hHeld
       refine oS 17 (fun K hK=>?_)
       go_simp;generalize hwA:World.alloc _ _=wz25;have HZ25:=hiD ((HZ23).out.allocE hwA);clear hwA HZ23
       refine hK.out _ _ (HZ25.out.only 5 rfl) (fun hHeld=>?_)
       clear hK K
       refine lyX ?_
       clear hHeld
       refine oS 18 (fun K hK=>?_)
       refine zO (.tmp 34) (.tmp 51) _ rfl Tryz.underlying109 hi0 hz0 hz1 hz2 rfl (by omega) HZ25.out 6 rfl rfl (m:=4) rfl rfl (HZ25.out.boxRd 0 rfl) (by simp [Value.oneCell']) (by simp only [maxLen];omega) (by omega) ?_
       rintro v5 w5 hh5 ⟨A5,c5,rfl⟩
       have HF5:=hiD hh5
       clear hh5 HZ25
       refine hK.out _ _ (HF5.out.only 5 rfl) (fun hHeld=>?_)
       clear hK K
       refine lyX ?_
       refine tW 19 1 ?_
       clear hHeld
       refine dnX ?_
       have HR5:=hiD (show Heap w [.row 9 1 (.slice A5 (L1+k * 4+4) c5) (L1+k * 4+4) ((X1++(lx.take (k+1)).flatMap zR).map Value.string),.box w.heap.size pv] w5 from by rw [HS2.out];exact HF5.out.pair 6 7 rfl rfl rfl)
       clear HF5
       go_wp2_with fail
       go_roundw
       case rel=>exact⟨k+1,A5,c5,by omega,by go_num,by rw [show L1+(k+1) * 4=L1+k * 4+4 by omega],by rw [show L1+(k+1) * 4=L1+k * 4+4 by omega];exact HR5⟩
       case measure=>(first | (simp [intOf];done) | (simp [intOf];omega))
      ·go_simp
       refine(zI wz21 _ 1 1 [er] rfl ((HZ21.out.boxRd 1 rfl).m0) (by omega) (by intro z hz;simp only [List.mem_cons,List.not_mem_nil,or_false]at hz;subst hz;exact HEr.out)).mono ?_
       rintro e wz26 ⟨v26,rfl,hown26,e26⟩
       have HZ26:=hiD (HZ21.out.addRow e26 hown26)
       obtain⟨g14,cg14,rfl⟩:=HZ26.out.rowForm 0 rfl (by omega)
       clear HZ21 hown26 e26
       go_wp2_with fail
       refine hK.out _ _ (HZ26.out.only 4 rfl) (fun hHeld=>?_)
       clear hK K
       refine lyX ?_
       refine tW 15 1 ?_
       clear hHeld
       refine aa2 8 16 rfl rfl (by kernel_rfl) (by kernel_rfl) (by kernel_rfl) (fun K hK=>?_) (fun K hK=>?_)
       ·have q8:wz26.cell? ⟨g6,0,none⟩=some (.string (zm ki)):=(HZ26.out.rowAt 1 rfl).cellAt 0 (by omega)
        go_simp
        clear q8
        refine hK.out _ _ (HZ26.out.only 4 rfl) (fun hHeld=>?_)
        clear hK K
        refine lyX ?_
        clear hHeld
        refine oS 16 (fun K hK=>?_)
        have q16:wz26.cell? ⟨g14,0,none⟩=some (.string (zm er)):=(HZ26.out.rowAt 0 rfl).cellAt 0 (by omega)
        go_simp
        clear q16
        refine hK.out _ _ (HZ26.out.only 4 rfl) (fun hHeld=>?_)
        clear hK K
        refine lyX ?_
        clear hHeld
        refine oS 17 (fun K hK=>?_)
        go_simp;generalize hwA:World.alloc _ _=wz29;have HZ29:=hiD ((HZ26).out.allocE hwA);clear hwA HZ26
        refine hK.out _ _ (HZ29.out.only 5 rfl) (fun hHeld=>?_)
        clear hK K
        refine lyX ?_
        clear hHeld
        refine oS 18 (fun K hK=>?_)
        refine zO (.tmp 34) (.tmp 51) _ rfl Tryz.underlying109 hi0 hz0 hz1 hz2 rfl (by omega) HZ29.out 6 rfl rfl (m:=4) rfl rfl (HZ29.out.boxRd 0 rfl) (by simp [Value.oneCell']) (by simp only [maxLen];omega) (by omega) ?_
        rintro v5 w5 hh5 ⟨A5,c5,rfl⟩
        have HF5:=hiD hh5
        clear hh5 HZ29
        refine hK.out _ _ (HF5.out.only 5 rfl) (fun hHeld=>?_)
        clear hK K
        refine lyX ?_
        refine tW 19 1 ?_
        clear hHeld
        refine dnX ?_
        have HR5:=hiD (show Heap w [.row 9 1 (.slice A5 (L1+k * 4+4) c5) (L1+k * 4+4) ((X1++(lx.take (k+1)).flatMap zR).map Value.string),.box w.heap.size pv] w5 from by rw [HS2.out];exact HF5.out.pair 6 7 rfl rfl rfl)
        clear HF5
        go_wp2_with fail
        go_roundw
        case rel=>exact⟨k+1,A5,c5,by omega,by go_num,by rw [show L1+(k+1) * 4=L1+k * 4+4 by omega],by rw [show L1+(k+1) * 4=L1+k * 4+4 by omega];exact HR5⟩
        case measure=>(first | (simp [intOf];done) | (simp [intOf];omega))
       ·have q16:wz26.cell? ⟨g14,0,none⟩=some (.string (zm er)):=(HZ26.out.rowAt 0 rfl).cellAt 0 (by omega)
        go_simp
        clear q16
        refine hK.out _ _ (HZ26.out.only 4 rfl) (fun hHeld=>?_)
        clear hK K
        refine lyX ?_
        clear hHeld
        refine oS 8 (fun K hK=>?_)
        have q8:wz26.cell? ⟨g6,0,none⟩=some (.string (zm ki)):=(HZ26.out.rowAt 1 rfl).cellAt 0 (by omega)
        go_simp
        clear q8
        refine hK.out _ _ (HZ26.out.only 4 rfl) (fun hHeld=>?_)
        clear hK K
        refine lyX ?_
        clear hHeld
        refine oS 17 (fun K hK=>?_)
        go_simp;generalize hwA:World.alloc _ _=wz32;have HZ32:=hiD ((HZ26).out.allocE hwA);clear hwA HZ26
        refine hK.out _ _ (HZ32.out.only 5 rfl) (fun hHeld=>?_)
        clear hK K
        refine lyX ?_
        clear hHeld
        refine oS 18 (fun K hK=>?_)
        refine zO (.tmp 34) (.tmp 51) _ rfl Tryz.underlying109 hi0 hz0 hz1 hz2 rfl (by omega) HZ32.out 6 rfl rfl (m:=4) rfl rfl (HZ32.out.boxRd 0 rfl) (by simp [Value.oneCell']) (by simp only [maxLen];omega) (by omega) ?_
        rintro v5 w5 hh5 ⟨A5,c5,rfl⟩
        have HF5:=hiD hh5
        clear hh5 HZ32
        refine hK.out _ _ (HF5.out.only 5 rfl) (fun hHeld=>?_)
        clear hK K
        refine lyX ?_
        refine tW 19 1 ?_
        clear hHeld
        refine dnX ?_
        have HR5:=hiD (show Heap w [.row 9 1 (.slice A5 (L1+k * 4+4) c5) (L1+k * 4+4) ((X1++(lx.take (k+1)).flatMap zR).map Value.string),.box w.heap.size pv] w5 from by rw [HS2.out];exact HF5.out.pair 6 7 rfl rfl rfl)
        clear HF5
        go_wp2_with fail
        go_roundw
        case rel=>exact⟨k+1,A5,c5,by omega,by go_num,by rw [show L1+(k+1) * 4=L1+k * 4+4 by omega],by rw [show L1+(k+1) * 4=L1+k * 4+4 by omega];exact HR5⟩
        case measure=>(first | (simp [intOf];done) | (simp [intOf];omega))
    ·go_simp;generalize hwA:World.alloc _ _=wz33;have HZ33:=hiD ((HHd).out.allocE hwA);clear hwA HHd
     refine hK.out _ _ (HZ33.out.only 1 rfl) (fun hHeld=>?_)
     clear hK K
     refine lyX ?_
     clear hHeld
     refine oS 5 (fun K hK=>?_)
     go_simp;generalize hwA:World.alloc _ _=wz34;have HZ34:=hiD ((HZ33).out.allocE hwA);clear hwA HZ33
     refine hK.out _ _ (HZ34.out.only 2 rfl) (fun hHeld=>?_)
     clear hK K
     refine lyX ?_
     clear hHeld
     refine oS 6 (fun K hK=>?_)
     go_simp
     refine(zI wz34 _ 1 1 [ki] rfl ((HZ34.out.boxRd 0 rfl).m0) (by omega) (by intro z hz;simp only [List.mem_cons,List.not_mem_nil,or_false]at hz;subst hz;exact HKi.out)).mono ?_
     rintro e wz35 ⟨v35,rfl,hown35,e35⟩
     have HZ35:=hiD (HZ34.out.addRow e35 hown35)
     obtain⟨g6,cg6,rfl⟩:=HZ35.out.rowForm 0 rfl (by omega)
     clear HZ34 hown35 e35
     go_wp2_with fail
     refine hK.out _ _ (HZ35.out.only 3 rfl) (fun hHeld=>?_)
     clear hK K
     refine lyX ?_
     refine tW 7 1 ?_
     clear hHeld
     refine aa2 8 14 rfl rfl (by kernel_rfl) (by kernel_rfl) (by kernel_rfl) (fun K hK=>?_) (fun K hK=>?_)
     ·have q8:wz35.cell? ⟨g6,0,none⟩=some (.string (zm ki)):=(HZ35.out.rowAt 0 rfl).cellAt 0 (by omega)
      go_simp
      clear q8
      refine hK.out _ _ (HZ35.out.only 3 rfl) (fun hHeld=>?_)
      clear hK K
      refine lyX ?_
      clear hHeld
      refine oS 14 (fun K hK=>?_)
      go_simp
      refine(zI wz35 _ 1 1 [er] rfl ((HZ35.out.boxRd 2 rfl).m0) (by omega) (by intro z hz;simp only [List.mem_cons,List.not_mem_nil,or_false]at hz;subst hz;exact HEr.out)).mono ?_
      rintro e wz37 ⟨v37,rfl,hown37,e37⟩
      have HZ37:=hiD (HZ35.out.addRow e37 hown37)
      obtain⟨g14,cg14,rfl⟩:=HZ37.out.rowForm 0 rfl (by omega)
      clear HZ35 hown37 e37
      go_wp2_with fail
      refine hK.out _ _ (HZ37.out.only 4 rfl) (fun hHeld=>?_)
      clear hK K
      refine lyX ?_
      refine tW 15 1 ?_
      clear hHeld
      refine oS 16 (fun K hK=>?_)
      have q16:wz37.cell? ⟨g14,0,none⟩=some (.string (zm er)):=(HZ37.out.rowAt 0 rfl).cellAt 0 (by omega)
      go_simp
      clear q16
      refine hK.out _ _ (HZ37.out.only 4 rfl) (fun hHeld=>?_)
      clear hK K
      refine lyX ?_
      clear hHeld
      refine oS 17 (fun K hK=>?_)
      go_simp;generalize hwA:World.alloc _ _=wz39;have HZ39:=hiD ((HZ37).out.allocE hwA);clear hwA HZ37
      refine hK.out _ _ (HZ39.out.only 5 rfl) (fun hHeld=>?_)
      clear hK K
      refine lyX ?_
      clear hHeld
      refine oS 18 (fun K hK=>?_)
      refine zO (.tmp 34) (.tmp 51) _ rfl Tryz.underlying109 hi0 hz0 hz1 hz2 rfl (by omega) HZ39.out 6 rfl rfl (m:=4) rfl rfl (HZ39.out.boxRd 0 rfl) (by simp [Value.oneCell']) (by simp only [maxLen];omega) (by omega) ?_
      rintro v5 w5 hh5 ⟨A5,c5,rfl⟩
      have HF5:=hiD hh5
      clear hh5 HZ39
      refine hK.out _ _ (HF5.out.only 5 rfl) (fun hHeld=>?_)
      clear hK K
      refine lyX ?_
      refine tW 19 1 ?_
      clear hHeld
      refine dnX ?_
      have HR5:=hiD (show Heap w [.row 9 1 (.slice A5 (L1+k * 4+4) c5) (L1+k * 4+4) ((X1++(lx.take (k+1)).flatMap zR).map Value.string),.box w.heap.size pv] w5 from by rw [HS2.out];exact HF5.out.pair 6 7 rfl rfl rfl)
      clear HF5
      go_wp2_with fail
      go_roundw
      case rel=>exact⟨k+1,A5,c5,by omega,by go_num,by rw [show L1+(k+1) * 4=L1+k * 4+4 by omega],by rw [show L1+(k+1) * 4=L1+k * 4+4 by omega];exact HR5⟩
      case measure=>(first | (simp [intOf];done) | (simp [intOf];omega))
     ·go_simp
      refine(zI wz35 _ 1 1 [er] rfl ((HZ35.out.boxRd 2 rfl).m0) (by omega) (by intro z hz;simp only [List.mem_cons,List.not_mem_nil,or_false]at hz;subst hz;exact HEr.out)).mono ?_
      rintro e wz40 ⟨v40,rfl,hown40,e40⟩
      have HZ40:=hiD (HZ35.out.addRow e40 hown40)
      obtain⟨g14,cg14,rfl⟩:=HZ40.out.rowForm 0 rfl (by omega)
      clear HZ35 hown40 e40
      go_wp2_with fail
      refine hK.out _ _ (HZ40.out.only 4 rfl) (fun hHeld=>?_)
      clear hK K
      refine lyX ?_
      refine tW 15 1 ?_
      clear hHeld
      refine aa2 8 16 rfl rfl (by kernel_rfl) (by kernel_rfl) (by kernel_rfl) (fun K hK=>?_) (fun K hK=>?_)
      ·have q8:wz40.cell? ⟨g6,0,none⟩=some (.string (zm ki)):=(HZ40.out.rowAt 1 rfl).cellAt 0 (by omega)
       go_simp
       clear q8
       refine hK.out _ _ (HZ40.out.only 4 rfl) (fun hHeld=>?_)
       clear hK K
       refine lyX ?_
       clear hHeld
       refine oS 16 (fun K hK=>?_)
       have q16:wz40.cell? ⟨g14,0,none⟩=some (.string (zm er)):=(HZ40.out.rowAt 0 rfl).cellAt 0 (by omega)
       go_simp
       clear q16
       refine hK.out _ _ (HZ40.out.only 4 rfl) (fun hHeld=>?_)
       clear hK K
       refine lyX ?_
       clear hHeld
       refine oS 17 (fun K hK=>?_)
       go_simp;generalize hwA:World.alloc _ _=wz43;have HZ43:=hiD ((HZ40).out.allocE hwA);clear hwA HZ40
       refine hK.out _ _ (HZ43.out.only 5 rfl) (fun hHeld=>?_)
       clear hK K
       refine lyX ?_
       clear hHeld
       refine oS 18 (fun K hK=>?_)
       refine zO (.tmp 34) (.tmp 51) _ rfl Tryz.underlying109 hi0 hz0 hz1 hz2 rfl (by omega) HZ43.out 6 rfl rfl (m:=4) rfl rfl (HZ43.out.boxRd 0 rfl) (by simp [Value.oneCell']) (by simp only [maxLen];omega) (by omega) ?_
       rintro v5 w5 hh5 ⟨A5,c5,rfl⟩
       have HF5:=hiD hh5
       clear hh5 HZ43
       refine hK.out _ _ (HF5.out.only 5 rfl) (fun hHeld=>?_)
       clear hK K
       refine lyX ?_
       refine tW 19 1 ?_
       clear hHeld
       refine dnX ?_
       have HR5:=hiD (show Heap w [.row 9 1 (.slice A5 (L1+k * 4+4) c5) (L1+k * 4+4) ((X1++(lx.take (k+1)).flatMap zR).map Value.string),.box w.heap.size pv] w5 from by rw [HS2.out];exact HF5.out.pair 6 7 rfl rfl rfl)
       clear HF5
       go_wp2_with fail
       go_roundw
       case rel=>exact⟨k+1,A5,c5,by omega,by go_num,by rw [show L1+(k+1) * 4=L1+k * 4+4 by omega],by rw [show L1+(k+1) * 4=L1+k * 4+4 by omega];exact HR5⟩
       case measure=>(first | (simp [intOf];done) | (simp [intOf];omega))
      ·have q16:wz40.cell? ⟨g14,0,none⟩=some (.string (zm er)):=(HZ40.out.rowAt 0 rfl).cellAt 0 (by omega)
       go_simp
       clear q16
       refine hK.out _ _ (HZ40.out.only 4 rfl) (fun hHeld=>?_)
       clear hK K
       refine lyX ?_
       clear hHeld
       refine oS 8 (fun K hK=>?_)
       have q8:wz40.cell? ⟨g6,0,none⟩=some (.string (zm ki)):=(HZ40.out.rowAt 1 rfl).cellAt 0 (by omega)
       go_simp
       clear q8
       refine hK.out _ _ (HZ40.out.only 4 rfl) (fun hHeld=>?_)
       clear hK K
       refine lyX ?_
       clear hHeld
       refine oS 17 (fun K hK=>?_)
       go_simp;generalize hwA:World.alloc _ _=wz46;have HZ46:=hiD ((HZ40).out.allocE hwA);clear hwA HZ40
       refine hK.out _ _ (HZ46.out.only 5 rfl) (fun hHeld=>?_)
       clear hK K
       refine lyX ?_
       clear hHeld
       refine oS 18 (fun K hK=>?_)
       refine zO (.tmp 34) (.tmp 51) _ rfl Tryz.underlying109 hi0 hz0 hz1 hz2 rfl (by omega) HZ46.out 6 rfl rfl (m:=4) rfl rfl (HZ46.out.boxRd 0 rfl) (by simp [Value.oneCell']) (by simp only [maxLen];omega) (by omega) ?_
       rintro v5 w5 hh5 ⟨A5,c5,rfl⟩
       have HF5:=hiD hh5
       clear hh5 HZ46
       refine hK.out _ _ (HF5.out.only 5 rfl) (fun hHeld=>?_)
       clear hK K
       refine lyX ?_
       refine tW 19 1 ?_
       clear hHeld
       refine dnX ?_
       have HR5:=hiD (show Heap w [.row 9 1 (.slice A5 (L1+k * 4+4) c5) (L1+k * 4+4) ((X1++(lx.take (k+1)).flatMap zR).map Value.string),.box w.heap.size pv] w5 from by rw [HS2.out];exact HF5.out.pair 6 7 rfl rfl rfl)
       clear HF5
       go_wp2_with fail
       go_roundw
       case rel=>exact⟨k+1,A5,c5,by omega,by go_num,by rw [show L1+(k+1) * 4=L1+k * 4+4 by omega],by rw [show L1+(k+1) * 4=L1+k * 4+4 by omega];exact HR5⟩
       case measure=>(first | (simp [intOf];done) | (simp [intOf];omega))
   ·obtain rfl:k=ln:=by omega
    have ht:lx.take k=lx:=List.take_of_length_le (by rw [←hLn.out];exact Nat.le_refl _)
    rw [ht]at HH
    clear ht hlt hk
    obtain⟨X2,hX2⟩: ∃X2,X2=X1++lx.flatMap zR:=⟨_,rfl⟩
    rw [←hX2]at HX HH
    clear hX2 HX1l
    obtain⟨L2,hL2⟩: ∃L2,L2=L1+k * 4:=⟨_,rfl⟩
    rw [←hL2]at HH ⊢
    have hL2b:L2≤99:=by omega
    clear hL2 hL1b
    rw [HPV.out]at HH
    go_wp2_with (refine l1X HH 1 ?_)
    have HH0:=HH
    clear HH
    rw [←HPV.out]at HH0
    go_loopw [4,57] (fun v i wr=> ∃(j:Nat) (A:Option Addr) (c:Nat),j≤tn∧i= .int .i64 (j:Int)∧v= .slice A (L2+j) c∧Hid (Heap w [.row 9 1 (.slice A (L2+j) c) (L2+j) ((X2++(tx.take j).map Tnt.name).map Value.string),.box w.heap.size pv] wr)) (fun _ i _=>tn - (intOf i).toNat)
    case atStart=>exact⟨0,_,_,Nat.zero_le _,rfl,rfl,by simpa using HH0⟩
    case round=>
     clear HH0
     obtain⟨j,A,c,hj,rfl,rfl,HH⟩:=hrel
     by_cases hlt:j < tn
     ·have l1:j < tx.length:=by rw [←hTn.out];exact hlt
      obtain⟨b1,o1,hA1,_,hb1,G⟩:=zh (size:=7) (fun _=>rfl) (by omega) HTn.out.rd l1
      dsimp only at hA1
      subst hA1
      have HS:=hiD (show(X2++(tx.take (j+1)).map Tnt.name).map Value.string=(X2++(tx.take j).map Tnt.name).map Value.string++ [.string tx[j].name]by rw [List.take_succ_eq_append_getElem l1];simp only [List.map_append,List.map_cons,List.map_nil,List.append_assoc])
      have HGw:=hiD (fun i u hu=>(Below.cell HH.out.ext hb1).trans (G i u hu))
      clear G
      generalize (X2++(tx.take j).map Tnt.name).map Value.string=Y at *
      generalize tx[j]=x at *
      obtain⟨name,quota,next,⟨sA,sn,sc,ss⟩,⟨gA,gn,gc,gs⟩,⟨aA,an,ac,ax⟩,⟨mA,mn,mc,ms⟩⟩:=x
      simp only [Tnt.cells,Sl.val]at HGw
      dsimp only at HS
      have hkn:(j:Int) < (tn:Int):=by omega
      go_upto_region 11 with(first | (refine yF HGw.out rfl zt (by kernel_rfl) rfl rfl rfl ?_) | (refine sSX (hiD (HH.out.alloc _ _)) zt 0 ?_;clear HH;intro wS HH))
      generalize wr.heap.size=xb at *
      clear HGw
      go_wp2_with (first | (refine l1X HH 0 ?_) | (refine qk (e:=9) (size:=1) (bytes:=16) (news:= [.string name]) (lo:=w.heap.size) (.tmp 61) (.tmp 64) _ rfl rfl Tryz.underlying109 hi0 hz0 hz1 hz2 rfl (by omega) (HH.out.allocE rfl) 2 rfl rfl (m:=1) rfl rfl ((HH.out.allocE rfl).boxRd 0 rfl) (by simp [Value.oneCell']) (by simp only [maxLen];omega) (by omega) ?_;rintro v' w' h' ⟨A',c',rfl⟩))
      have HH2:=hiD (show Heap w [.row 9 1 (.slice A' (L2+j+1) c') (L2+j+1) ((X2++(tx.take (j+1)).map Tnt.name).map Value.string),.box w.heap.size pv] w' from by
       rw [HS.out]
       exact h'.tail.tail)
      clear h' HH
      go_roundw
      case rel=>exact⟨j+1,A',c',by omega,by go_num,by rw [Nat.add_assoc],by rw [←Nat.add_assoc];exact HH2⟩
      case measure=>(first | (simp [intOf];done) | (simp [intOf];omega))
     ·obtain rfl:j=tn:=by omega
      have ht:tx.take j=tx:=List.take_of_length_le (by rw [←hTn.out];exact Nat.le_refl _)
      rw [ht,←HX.out]at HH
      clear ht
      have HRd:=hiD ((HH.out.rowRd 0 rfl).m0)
      have HXl:=hiD (show L2+j=X.length from by
       have:=HH.out.rowLen 0 rfl
       rw [List.length_map,Nat.mul_one]at this
       exact this.symm)
      have HB:=hiD (show wB X=zu X from by rw [wB,if_pos HEs.out])
      have HE:=hiD HH.out.ext
      go_wp2_with fail
      refine(adC _ _ _ _ X HXl.out (by omega) HRd.out).mono ?_
      rintro e w9 ⟨v9,rfl,hown,e9⟩
      rw [HB.out]at hown
      obtain⟨A9,c9,rfl,_,_,_⟩:=zr hown
      have HO:=hiD hown
      have HE9:=hiD (HE.out.trans e9)
      have HO2:=hiD ((HH.out.addRow e9 hown).rowAt 0 rfl)
      rw [HEs.out]
      clear hown e9
      go_wp2_with fail
      go_ret2
      exact⟨A9,_,c9,rfl,HO2.out,rfl,HE9.out⟩
end Go.Proofs.YtckaneapjpiocaaGreatDoor
