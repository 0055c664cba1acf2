/- The texts Bko in one file. -/
import Derived.Test.YtckaneapjpiocaaGreatDoorP10
set_option linter.unusedVariables false
set_option linter.unusedSimpArgs false
set_option maxHeartbeats 8000000
set_option maxRecDepth 100000
namespace Go.Proofs.YtckaneapjpiocaaGreatDoor
open Go.RowKit Go.Maps Go.Sort Go.Shelf
theorem ae4(xs:List Blk)(k:Nat)(h:k < xs.length):yt (xs.take (k+1))=yt (xs.take k)++(zB xs[k].index 2++xs[k].data.data.toList):=by
 rw [List.take_succ_eq_append_getElem h,yt,List.flatMap_append];simp [yt]
theorem agP:(Tryz.prog.info? 183).map (·.size)=some 2:=by kernel_rfl
theorem abM(W:World)(s:ByteArray): ∃c W',(convert 9 53 (.string s)).run Tryz.prog W= .ok (.slice (some ⟨W.heap.size,0,none⟩) s.size c) W'∧Ext W W'∧Rd W' W.heap.size W'.heap.size (some ⟨W.heap.size,0,none⟩) (bytes s.data.toList):=by
 refine⟨_,_,run_bytes_of_string (P:=Tryz.prog) W 9 53 5 s Tryz.underlying9 Tryz.underlying53 Tryz.underlying5,Ext.alloc (Ext.drew (Ext.refl W)) _,?_⟩
 have h:=aan W.drew s (grownCap W s.size 0 5) 5 ((bytesRow s (grownCap W s.size 0 5)).size,(bytesRow s (grownCap W s.size 0 5)).size+1)
 exact h.more (Nat.le_refl _) (by simp)
theorem aaN(w:World)(A:Option Addr)(n c:Nat)(xs:List Blk)(hn:n=xs.length)(hr:Rd w 0 w.heap.size A (blks xs))(hwf: ∀x∈xs,x.wf)(hE:bkE xs=0):
 Calls Tryz.prog 91 #[.slice A n c] w fun e w'=> ∃v,e= .returned (.tuple #[v,.int .i64 0])∧w'.ownsRow w.heap.size 5 1 v (yt xs).length (bytes (yt xs))∧Ext w w':=by
 obtain⟨hm,h16⟩:=xX xs hE
 have hm9:n≤1024:=by omega
 have HC:=Lib.hid (qO w A n c xs hn (by omega) hr hwf)
 rw [hE]at HC
 have Hn:=Lib.hid hn
 have HR:=Lib.hid hr
 have H16:=Lib.hid h16
 have HW:=Lib.hid hwf
 have HL:=Lib.hid (fun k=>show(yt (xs.take k)).length≤18432 by
  rw [xT _ fun x hx=>H16.out x (List.mem_of_mem_take hx),List.length_take];omega)
 clear hn hr hwf h16 hm hE
 go_enter Tryz.func91,Tryz.ntmps91
 go_wp2_with fail
 refine HC.out.mono ?_
 rintro e w1 ⟨rfl,e1⟩
 go_upto_region 6 with fail
 have HH:=Lib.hid (show Heap w [.row 5 1 (.slice none 0 0) 0 (bytes [])] w1 from((Heap.start w).later e1).row0)
 clear e1 HC
 go_loopw [5,7,15] (fun v _ i wr=> ∃k:Nat,k≤n∧i= .int .i64 k∧(∃vA vc m,v= .slice vA m vc∧Hid (m=(yt (xs.take k)).length)∧Hid (Heap w [.row 5 1 (.slice vA m vc) m (bytes (yt (xs.take k)))] wr))) (fun _ _ i _=>n - (intOf i).toNat)
 case atStart=>exact⟨0,Nat.zero_le _,rfl,_,_,_,rfl,Lib.hid rfl,HH⟩
 case round=>
  clear HH
  obtain⟨k,hk,rfl,vA,vc,m,rfl,Hm,HH⟩:=hrel
  by_cases hlt:k < n
  ·have l1:k < xs.length:=by rw [←Hn.out];exact hlt
   obtain⟨b1,o1,rfl,_,hb1,g0,g1⟩:=aaO (HR.out.ext HH.out.ext (Nat.le_refl _)) l1
   have HS:=Lib.hid (ae4 xs k l1)
   have hL1:=HL.out k
   have hL2:=HL.out (k+1)
   have hwk:=HW.out _ (List.getElem_mem l1)
   have hdk:=H16.out _ (List.getElem_mem l1)
   generalize yt (xs.take k)=Y at *
   obtain⟨Z,hZ⟩: ∃Z,Z=yt (xs.take (k+1)):=⟨_,rfl⟩
   rw [←hZ]at HS hL2
   have HZ:=Lib.hid hZ
   clear hZ
   generalize xs[k]=x at *
   obtain⟨ix,d⟩:=x
   dsimp only at g0 g1 hwk hdk HS
   have Hdk:=Lib.hid hdk
   have HIx:=Lib.hid hwk
   clear hdk hwk
   go_upto_region 8 with(refine zt (HH.out.alloc _ _) agP rfl rfl rfl rfl 0 rfl rfl rfl rfl ?_;clear HH;intro wS HHS;have HH:=Lib.hid HHS;clear HHS)
   have HHd:=Lib.hid (show Heap w [.box wr.heap.size [.int .i64 ix,.string d],.row 5 1 (.slice vA m vc) m (bytes Y)] (World.drew wS)from HH.out.drew)
   clear HH g0 g1
   generalize wr.heap.size=xb at *
   refine wp_region_held_drew (S:=Heap w [.box xb [.int .i64 ix,.string d]]) (by kernel_rfl) (HHd.out.only 0 rfl) (fun hHeld=>?_)
   generalize World.drew _=wd at *
   refine tW 0 2 ?_
   refine tG 2 rfl (fun wT hST=>za hST rfl rfl 0 rfl rfl (by kernel_rfl)) hHeld ?_;(try simp only [Act.put,lyA,lyB,lyC])
   refine tW 4 1 ?_
   refine tG 5 rfl (fun wT hST=>za hST rfl rfl 0 rfl rfl (by kernel_rfl)) hHeld ?_;(try simp only [Act.put,lyA,lyB,lyC])
   clear hHeld
   refine xO 3 6 rfl rfl (by kernel_rfl) (by kernel_rfl) (by kernel_rfl) (fun K hK=>?_) (fun K hK=>?_)
   ·go_simp;refine(yX ix _ 2 (by omega) rfl _ HIx.out.1 HIx.out.2.1).mono ?_;rintro e w3 ⟨vw3,rfl,hownw3,ew3⟩;obtain⟨Aw3,cw3,rfl,_,_,_⟩:=zo hownw3;have HH3:=Lib.hid ((HHd).out.addRow ew3 hownw3);clear HHd hownw3 ew3;go_wp2_with fail
    refine hK.out _ _ ((HH3).out.only 1 rfl) (fun hHeld=>?_);clear hK K;(try simp only [Act.put,lyA,lyB,lyC])
    clear hHeld
    refine oS 6 (fun K hK=>?_)
    go_simp
    obtain⟨c6,w4,hcv,e4,hr4⟩:=abM w3 d
    rw [hcv]
    have HH4:=Lib.hid (HH3.out.addRd e4 hr4 (Nat.le_refl _))
    clear hcv hr4 e4 HH3
    refine hK.out _ _ ((HH4).out.only 2 rfl) (fun hHeld=>?_);clear hK K;(try simp only [Act.put,lyA,lyB,lyC])
    clear hHeld;refine oS 7 (fun K hK=>?_);go_simp;generalize hwA:World.alloc _ _=w7;have HH7:=Lib.hid ((HH4).out.allocE hwA);clear hwA HH4;refine hK.out _ _ ((HH7).out.only 3 rfl) (fun hHeld=>?_);clear hK K;(try simp only [Act.put,lyA,lyB,lyC]);clear hHeld;refine oS 8 (fun K hK=>?_);go_simp;refine(qZ w7 _ 3 3 [⟨vA,m,vc,Y⟩,⟨Aw3,2,cw3,zB ix 2⟩,⟨_,d.size,c6,d.data.toList⟩] rfl ((HH7.out.boxRd 0 rfl).m0) (fun x hx=>(by simp only [List.mem_cons,List.not_mem_nil,or_false]at hx;rcases hx with rfl | rfl | rfl;exact⟨Hm.out,(HH7.out.rowRd 4 rfl).m0⟩;exact⟨(zm _ _).symm,(HH7.out.rowRd 2 rfl).m0⟩;exact⟨(zz _).symm,(HH7.out.rdAt 1 rfl).m0⟩)) (by omega) (by have q:=Hdk.out;have q2:=zz d;simp only [zI,List.flatMap_cons,List.flatMap_nil,List.length_append,zm,List.length_nil];omega)).mono ?_;rintro e w8 ⟨v8,rfl,hown8,e8⟩;rw [show zI [⟨vA,m,vc,Y⟩,⟨Aw3,2,cw3,zB ix 2⟩,⟨_,d.size,c6,d.data.toList⟩]=Z from(by rw [HS.out];simp [zI])]at hown8;obtain⟨A8,c8,rfl,_,_,_⟩:=zo hown8;have HH8:=Lib.hid (HH7.out.addRow e8 hown8);clear HH7 hown8 e8;go_wp2_with fail;refine hK.out _ _ ((HH8).out.only 4 rfl) (fun hHeld=>?_);clear hK K;(try simp only [Act.put,lyA,lyB,lyC])
    refine tW 9 1 ?_
    refine wpAnyH_done (by kernel_rfl) ?_ _;clear hHeld;go_wp2_with fail;go_roundw;(case rel=>refine⟨k+1,by omega,by go_num,A8,c8,_,rfl,Lib.hid (congrArg List.length HZ.out),(by rw [←HZ.out];exact Lib.hid (HH8.out.only 0 rfl))⟩);(case measure=>simp [intOf];omega)
   ·go_simp
    obtain⟨c6,w4,hcv,e4,hr4⟩:=abM wd d
    rw [hcv]
    have HH4:=Lib.hid (HHd.out.addRd e4 hr4 (Nat.le_refl _))
    clear hcv hr4 e4 HHd
    refine hK.out _ _ ((HH4).out.only 1 rfl) (fun hHeld=>?_);clear hK K;(try simp only [Act.put,lyA,lyB,lyC])
    clear hHeld
    refine oS 3 (fun K hK=>?_)
    go_simp;refine(yX ix _ 2 (by omega) rfl _ HIx.out.1 HIx.out.2.1).mono ?_;rintro e w3 ⟨vw3,rfl,hownw3,ew3⟩;obtain⟨Aw3,cw3,rfl,_,_,_⟩:=zo hownw3;have HH5:=Lib.hid ((HH4).out.addRow ew3 hownw3);clear HH4 hownw3 ew3;go_wp2_with fail
    refine hK.out _ _ ((HH5).out.only 2 rfl) (fun hHeld=>?_);clear hK K;(try simp only [Act.put,lyA,lyB,lyC])
    clear hHeld;refine oS 7 (fun K hK=>?_);go_simp;generalize hwA:World.alloc _ _=w7;have HH7:=Lib.hid ((HH5).out.allocE hwA);clear hwA HH5;refine hK.out _ _ ((HH7).out.only 3 rfl) (fun hHeld=>?_);clear hK K;(try simp only [Act.put,lyA,lyB,lyC]);clear hHeld;refine oS 8 (fun K hK=>?_);go_simp;refine(qZ w7 _ 3 3 [⟨vA,m,vc,Y⟩,⟨Aw3,2,cw3,zB ix 2⟩,⟨_,d.size,c6,d.data.toList⟩] rfl ((HH7.out.boxRd 0 rfl).m0) (fun x hx=>(by simp only [List.mem_cons,List.not_mem_nil,or_false]at hx;rcases hx with rfl | rfl | rfl;exact⟨Hm.out,(HH7.out.rowRd 4 rfl).m0⟩;exact⟨(zm _ _).symm,(HH7.out.rowRd 1 rfl).m0⟩;exact⟨(zz _).symm,(HH7.out.rdAt 2 rfl).m0⟩)) (by omega) (by have q:=Hdk.out;have q2:=zz d;simp only [zI,List.flatMap_cons,List.flatMap_nil,List.length_append,zm,List.length_nil];omega)).mono ?_;rintro e w8 ⟨v8,rfl,hown8,e8⟩;rw [show zI [⟨vA,m,vc,Y⟩,⟨Aw3,2,cw3,zB ix 2⟩,⟨_,d.size,c6,d.data.toList⟩]=Z from(by rw [HS.out];simp [zI])]at hown8;obtain⟨A8,c8,rfl,_,_,_⟩:=zo hown8;have HH8:=Lib.hid (HH7.out.addRow e8 hown8);clear HH7 hown8 e8;go_wp2_with fail;refine hK.out _ _ ((HH8).out.only 4 rfl) (fun hHeld=>?_);clear hK K;(try simp only [Act.put,lyA,lyB,lyC])
    refine tW 9 1 ?_
    refine wpAnyH_done (by kernel_rfl) ?_ _;clear hHeld;go_wp2_with fail;go_roundw;(case rel=>refine⟨k+1,by omega,by go_num,A8,c8,_,rfl,Lib.hid (congrArg List.length HZ.out),(by rw [←HZ.out];exact Lib.hid (HH8.out.only 0 rfl))⟩);(case measure=>simp [intOf];omega)
  ·obtain rfl:k=n:=by omega
   have ht:xs.take k=xs:=List.take_of_length_le (by rw [←Hn.out];exact Nat.le_refl _)
   rw [ht]at HH Hm
   clear ht
   have HO:=Lib.hid (show wr.ownsRow w.heap.size 5 1 (.slice vA m vc) (yt xs).length (bytes (yt xs))by rw [←Hm.out];exact HH.out.rowAt 0 rfl)
   go_wp2_with fail
   go_ret2
   exact⟨.slice vA m vc,rfl,HO.out,HH.out.ext⟩
end Go.Proofs.YtckaneapjpiocaaGreatDoor
