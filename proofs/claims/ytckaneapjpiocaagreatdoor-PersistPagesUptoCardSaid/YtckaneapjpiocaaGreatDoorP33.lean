/- The texts Adm in one file. -/
import Derived.Test.YtckaneapjpiocaaGreatDoorP31
set_option linter.unusedVariables false
set_option linter.unusedSimpArgs false
set_option maxHeartbeats 8000000
set_option maxRecDepth 100000
namespace Go.Proofs.YtckaneapjpiocaaGreatDoor
open Go.RowKit Go.Maps Go.Sort Go.Shelf
theorem abX(l:List Int):0≤yl l∧yl l≤1099511627776:=by
 rw [yl]
 split
 ·rename_i h
  by_cases h1:l.any yj=true
  ·rw [zY,if_pos h1]at h;exact absurd h (by decide)
  ·have h2:=aa3 (l:=l) fun z hz=>(abv (by simpa using h1) z hz).1
   rw [zY,if_neg h1]at h
   split at h
   ·exact absurd h (by decide)
   ·omega
 ·omega
def abQ(p:Pol):Int:=if zY (quo p)=0 then 800+24 * yl (quo p)else 0
theorem adU(w:World)(p:Pol)(h:Pol.At w 0 w.heap.size p):
 Calls Tryz.prog 24 #[.agg p.cells.toArray] w fun e w'=>e= .returned (.tuple #[.int .i64 (abQ p),.int .i64 (zY (quo p))])∧Ext w w':=by
 have HP:=Lib.hid (fun W (hW:Ext w W)=>aci W p (h.on hW (Nat.le_refl _)))
 have hb:=abX (quo p)
 have HV:=Lib.hid (show abQ p=if zY (quo p)=0 then 800+24 * yl (quo p)else 0 from rfl)
 generalize abQ p=V at *
 generalize zY (quo p)=aE at *
 generalize yl (quo p)=aV at *
 clear h
 obtain⟨cap,⟨tA,tn,tc,tx⟩,⟨fA,fn,fc,fx⟩,⟨lA,ln,lc,lx⟩⟩:=p
 simp only [Pol.cells,Sl.val]at *
 have hw1:IntKind.i64.wrap (24 * aV)=24 * aV:=IntWalk.i64_in _ (by omega)
 have hw2:IntKind.i64.wrap (800+24 * aV)=800+24 * aV:=IntWalk.i64_in _ (by omega)
 by_cases h0:aE=0
 ·have h1:V=800+24 * aV:=by rw [HV.out,if_pos h0]
  subst h0
  clear HV
  subst h1
  go_enter Tryz.func24,Tryz.ntmps24
  go_upto_region 1 with fail
  generalize hwH:World.alloc w _=w1;have HH:=Lib.hid (Heap.one hwH);clear hwH
  go_wp2_with (refine zp HH.out zS (by kernel_rfl) rfl rfl rfl 0 rfl rfl ?_)
  refine(HP.out _ HH.out.ext).mono ?_
  rintro e w2 ⟨rfl,e2⟩
  go_wp2_with fail
  go_ret2
  exact⟨rfl,HH.out.ext.trans e2⟩
 ·have h1:V=0:=by rw [HV.out,if_neg h0]
  have hbe:(aE == 0)=false:=by simpa using h0
  clear HV
  subst h1
  go_enter Tryz.func24,Tryz.ntmps24
  go_upto_region 1 with fail
  generalize hwH:World.alloc w _=w1;have HH:=Lib.hid (Heap.one hwH);clear hwH
  go_wp2_with (refine zp HH.out zS (by kernel_rfl) rfl rfl rfl 0 rfl rfl ?_)
  refine(HP.out _ HH.out.ext).mono ?_
  rintro e w2 ⟨rfl,e2⟩
  go_wp2_with fail
  go_ret2
  exact⟨rfl,HH.out.ext.trans e2⟩
def qN(p:Pol):Int:=if zY (quo p)≠0 then zY (quo p)else if p.cap < yl (quo p)then 17 else if p.ten.xs.all xj=true then 0 else 42
theorem adI(w:World)(p:Pol)(h:Pol.At w 0 w.heap.size p)(hT: ∀t∈p.ten.xs,t.sets.n≤32∧t.stages.n≤4):
 Calls Tryz.prog 119 #[.agg p.cells.toArray] w fun e w'=>e= .returned (.int .i64 (qN p))∧Ext w w':=by
 have HP:=Lib.hid (fun W (hW:Ext w W)=>aci W p (h.on hW (Nat.le_refl _)))
 have hb:=abX (quo p)
 have HV:=Lib.hid (show qN p=if zY (quo p)≠0 then zY (quo p)else if p.cap < yl (quo p)then 17 else if p.ten.xs.all xj=true then 0 else 42 from rfl)
 generalize qN p=V at *
 generalize zY (quo p)=aE at *
 generalize yl (quo p)=aV at *
 have HTn:=Lib.hid h.ten
 have HF:=Lib.hid (fun k (hk:k < p.ten.xs.length) W (hW:Ext w W)=>afA W p.ten.xs[k] (Tnt.At.on (h.ten.all _ (List.getElem_mem hk)) hW (Nat.le_refl _)) (hT _ (List.getElem_mem hk)).1 (hT _ (List.getElem_mem hk)).2)
 have hS:=h.tenS
 clear h hT
 obtain⟨cap,⟨tA,tn,tc,tx⟩,⟨fA,fn,fc,fx⟩,⟨lA,ln,lc,lx⟩⟩:=p
 simp only [Pol.cells,Sl.val]at *
 have hTn:=Lib.hid (show tn=tx.length from HTn.out.len)
 by_cases h0:aE=0
 ·subst h0
  by_cases h1:cap < aV
  ·have h2:V=17:=by rw [HV.out,if_neg (by simp),if_pos h1]
   clear HV
   subst h2
   go_enter Tryz.func119,Tryz.ntmps119
   go_upto_region 1 with fail
   generalize hwH:World.alloc w _=w1;have HH:=Lib.hid (Heap.one hwH);clear hwH
   go_upto_region 2 with(refine zp HH.out zS (by kernel_rfl) rfl rfl rfl 0 rfl rfl ?_)
   refine(HP.out _ HH.out.ext).mono ?_
   rintro e w2 ⟨rfl,e2⟩
   replace HH:=Lib.hid (HH.out.later e2)
   clear e2
   go_wp2_with (refine zc HH.out rfl rfl rfl 0 rfl rfl (by decide+kernel) ?_)
   go_ret
   exact⟨rfl,HH.out.ext⟩
  ·have HV2:=Lib.hid (show V=if tx.all xj=true then 0 else 42 by rw [HV.out,if_neg (by simp),if_neg h1])
   clear HV
   go_enter Tryz.func119,Tryz.ntmps119
   go_upto_region 1 with fail
   generalize hwH:World.alloc w _=w1;have HH:=Lib.hid (Heap.one hwH);clear hwH
   go_upto_region 2 with(refine zp HH.out zS (by kernel_rfl) rfl rfl rfl 0 rfl rfl ?_)
   refine(HP.out _ HH.out.ext).mono ?_
   rintro e w2 ⟨rfl,e2⟩
   replace HH:=Lib.hid (HH.out.later e2)
   clear e2
   go_wp2_with (refine zc HH.out rfl rfl rfl 0 rfl rfl (by decide+kernel) ?_)
   obtain⟨tv,htv⟩: ∃tv:List Value,tv= [.int .i64 cap,.slice tA tn tc,.slice fA fn fc,.slice lA ln lc]:=⟨_,rfl⟩
   rw [←htv]at HH
   clear htv
   go_loopw [24] (fun i wr=> ∃k:Nat,k≤tn∧i= .int .i64 (k:Int)∧Hid ((tx.take k).all xj=true)∧Hid (Heap w [.box w.heap.size tv] wr)) (fun i _=>tn - (intOf i).toNat)
   case atStart=>exact⟨0,Nat.zero_le _,rfl,Lib.hid rfl,HH⟩
   case round=>
    clear HH
    obtain⟨k,hk,rfl,HK,HH⟩:=hrel
    by_cases hlt:k < tn
    ·have hl:k < tx.length:=by rw [←hTn.out];exact hlt
     obtain⟨b1,o1,hA1,_,hb1,G0⟩:=zk (size:=7) (fun _=>rfl) (by omega) (HTn.out.rd.ext HH.out.ext (Nat.le_refl _)) hl
     dsimp only at hA1
     subst hA1
     have HG:=Lib.hid (fun j u hu=>G0 j u hu)
     clear G0
     have HFk:=Lib.hid (HF.out k hl)
     have HU:=Lib.hid (abj xj tx k hl)
     have HNo:=Lib.hid (xt xj tx k hl)
     generalize tx[k]=x at *
     generalize xj x=fb at *
     obtain⟨name,quota,next,⟨sA,sn,sc,ss⟩,⟨gA,gn,gc,gs⟩,⟨aA,an,ac,ax⟩,⟨mA,mn,mc,ms⟩⟩:=x
     simp only [Tnt.cells,Sl.val]at HG HFk
     have hkn:(k:Int) < (tn:Int):=by omega
     go_upto_region 9 with(first | (refine zV HG.out rfl zE (by kernel_rfl) rfl rfl rfl ?_) | (refine zt (HH.out.alloc _ _) zE rfl rfl rfl rfl 0 rfl rfl rfl rfl ?_;clear HH;intro wS HHS;have HH:=Lib.hid HHS;clear HHS))
     generalize wr.heap.size=xb at *
     go_wp2_with (refine zp HH.out zE (by kernel_rfl) rfl rfl rfl 0 rfl rfl ?_)
     refine(HFk.out _ HH.out.ext).mono ?_
     rintro e w3 ⟨rfl,e3⟩
     replace HH:=Lib.hid ((HH.out.later e3).tail)
     clear e3
     cases fb with
     | false=>
       have h2:V=42:=by rw [HV2.out,HNo.out rfl];rfl
       clear HV2
       subst h2
       go_wp2_with fail
       go_ret
       exact⟨rfl,HH.out.ext⟩
     | true=>
       have HK2:=Lib.hid (show(tx.take (k+1)).all xj=true by rw [HU.out,HK.out];rfl)
       go_wp2_with fail
       go_roundw
       case rel=>exact⟨k+1,by omega,by go_num,HK2,HH⟩
       case measure=>(first | (simp [intOf];done) | (simp [intOf];omega))
    ·obtain rfl:k=tn:=by omega
     have h2:=HK.out
     rw [List.take_of_length_le (by rw [←hTn.out];exact Nat.le_refl _)]at h2
     have h3:V=0:=by rw [HV2.out,if_pos h2]
     clear HV2 h2
     subst h3
     go_wp2_with fail
     go_ret
     exact⟨rfl,HH.out.ext⟩
 ·have hbe:(aE == 0)=false:=by simpa using h0
  have h1:V=aE:=by rw [HV.out,if_pos h0]
  clear HV
  subst h1
  go_enter Tryz.func119,Tryz.ntmps119
  go_upto_region 1 with fail
  generalize hwH:World.alloc w _=w1;have HH:=Lib.hid (Heap.one hwH);clear hwH
  go_wp2_with (refine zp HH.out zS (by kernel_rfl) rfl rfl rfl 0 rfl rfl ?_)
  refine(HP.out _ HH.out.ext).mono ?_
  rintro e w2 ⟨rfl,e2⟩
  go_wp2_with fail
  go_ret
  exact⟨rfl,HH.out.ext.trans e2⟩
theorem adR(w:World)(p:Pol)(h:Pol.At w 0 w.heap.size p)(hT: ∀t∈p.ten.xs,t.sets.n≤32∧t.stages.n≤4):
 Calls Tryz.prog 57 #[.agg p.cells.toArray] w fun e w'=>e= .returned (.int .i64 (qN p))∧Ext w w':=by
 have HP:=Lib.hid (fun W (hW:Ext w W)=>aeT W p (h.on hW (Nat.le_refl _)))
 have hb:=abX (quo p)
 have HV:=Lib.hid (show qN p=if zY (quo p)≠0 then zY (quo p)else if p.cap < yl (quo p)then 17 else if p.ten.xs.all xj=true then 0 else 42 from rfl)
 generalize qN p=V at *
 generalize zY (quo p)=aE at *
 generalize yl (quo p)=aV at *
 have HTn:=Lib.hid h.ten
 have HF:=Lib.hid (fun k (hk:k < p.ten.xs.length) W (hW:Ext w W)=>ac8 W p.ten.xs[k] (Tnt.At.on (h.ten.all _ (List.getElem_mem hk)) hW (Nat.le_refl _)) (hT _ (List.getElem_mem hk)).1 (hT _ (List.getElem_mem hk)).2)
 have hS:=h.tenS
 clear h hT
 obtain⟨cap,⟨tA,tn,tc,tx⟩,⟨fA,fn,fc,fx⟩,⟨lA,ln,lc,lx⟩⟩:=p
 simp only [Pol.cells,Sl.val]at *
 have hTn:=Lib.hid (show tn=tx.length from HTn.out.len)
 by_cases h0:aE=0
 ·subst h0
  by_cases h1:cap < aV
  ·have h2:V=17:=by rw [HV.out,if_neg (by simp),if_pos h1]
   clear HV
   subst h2
   go_enter Tryz.func57,Tryz.ntmps57
   go_upto_region 1 with fail
   generalize hwH:World.alloc w _=w1;have HH:=Lib.hid (Heap.one hwH);clear hwH
   go_upto_region 2 with(refine zp HH.out zS (by kernel_rfl) rfl rfl rfl 0 rfl rfl ?_)
   refine(HP.out _ HH.out.ext).mono ?_
   rintro e w2 ⟨rfl,e2⟩
   replace HH:=Lib.hid (HH.out.later e2)
   clear e2
   go_wp2_with (refine zc HH.out rfl rfl rfl 0 rfl rfl (by decide+kernel) ?_)
   go_ret
   exact⟨rfl,HH.out.ext⟩
  ·have HV2:=Lib.hid (show V=if tx.all xj=true then 0 else 42 by rw [HV.out,if_neg (by simp),if_neg h1])
   clear HV
   go_enter Tryz.func57,Tryz.ntmps57
   go_upto_region 1 with fail
   generalize hwH:World.alloc w _=w1;have HH:=Lib.hid (Heap.one hwH);clear hwH
   go_upto_region 2 with(refine zp HH.out zS (by kernel_rfl) rfl rfl rfl 0 rfl rfl ?_)
   refine(HP.out _ HH.out.ext).mono ?_
   rintro e w2 ⟨rfl,e2⟩
   replace HH:=Lib.hid (HH.out.later e2)
   clear e2
   go_wp2_with (refine zc HH.out rfl rfl rfl 0 rfl rfl (by decide+kernel) ?_)
   go_loopw [5] (fun i wr=> ∃k:Nat,k≤tn∧i= .int .i64 (k:Int)∧Hid ((tx.take k).all xj=true)∧Hid (Heap w [.box w.heap.size [.int .i64 cap,.slice tA tn tc,.slice fA fn fc,.slice lA ln lc]] wr)) (fun i _=>tn - (intOf i).toNat)
   case atStart=>exact⟨0,Nat.zero_le _,rfl,Lib.hid rfl,HH⟩
   case round=>
    clear HH
    obtain⟨k,hk,rfl,HK,HH⟩:=hrel
    by_cases hlt:k < tn
    ·have hl:k < tx.length:=by rw [←hTn.out];exact hlt
     obtain⟨b1,o1,hA1,_,hb1,G0⟩:=zk (size:=7) (fun _=>rfl) (by omega) HTn.out.rd hl
     dsimp only at hA1
     subst hA1
     have HFk:=Lib.hid (HF.out k hl)
     have HU:=Lib.hid (abj xj tx k hl)
     have HNo:=Lib.hid (xt xj tx k hl)
     have HFb:=Lib.hid (show xj tx[k]=!decide (tx[k].quota < (chT tx[k]:Int))from rfl)
     generalize hx:tx[k]=x at *
     clear hx
     generalize xj x=fb at *
     generalize chT x=ch at *
     obtain⟨name,quota,next,⟨sA,sn,sc,ss⟩,⟨gA,gn,gc,gs⟩,⟨aA,an,ac,ax⟩,⟨mA,mn,mc,ms⟩⟩:=x
     have HG:=Lib.hid (fun(wT:World) (hT:Heap w [.box w.heap.size [.int .i64 cap,.slice (some ⟨b1,o1,none⟩) tn tc,.slice fA fn fc,.slice lA ln lc]] wT) j u hu=>(Below.cell hT.ext hb1).trans (G0 j u hu))
     clear G0
     simp only [Tnt.cells,Sl.val]at HG HFk
     dsimp only at HFb
     have hkn:(k:Int) < (tn:Int):=by omega
     go_upto_region 9 with(refine zc HH.out rfl rfl rfl 0 rfl rfl (by decide+kernel) ?_)
     have HH2:=Lib.hid HH.out.drew
     clear HH
     refine wp_region_held_drew (S:=Heap w [.box w.heap.size [.int .i64 cap,.slice (some ⟨b1,o1,none⟩) tn tc,.slice fA fn fc,.slice lA ln lc]]) (by kernel_rfl) HH2.out (fun hHeld=>?_)
     generalize World.drew _=wd at *
     refine tW 0 1 ?_
     refine tG 1 rfl (fun wT hST=>za hST rfl rfl 0 rfl rfl (by kernel_rfl)) hHeld ?_;(try simp only [Act.put,lyA,lyB,lyC])
     refine tW 2 2 ?_
     refine tG 4 rfl (fun wT hST=>aaM (HG.out wT hST) rfl zE (by kernel_rfl) rfl rfl) hHeld ?_;(try simp only [Act.put,lyA,lyB,lyC])
     refine tW 6 1 ?_
     refine tG 7 rfl (fun wT hST=>za hST rfl rfl 0 rfl rfl (by kernel_rfl)) hHeld ?_;(try simp only [Act.put,lyA,lyB,lyC])
     refine tW 8 3 ?_
     refine agt 11 (v:= .int .i64 quota) rfl (by kernel_rfl) (by kernel_rfl) (by kernel_rfl) (fun _ _ _ h=>h) (by kernel_rfl) (by intro wT hST;have g1:=HG.out wT hST 1 (.int .i64 quota) rfl;go_simp <;> with_reducible rfl) hHeld ?_;(try simp only [Act.put,lyA,lyB,lyC])
     clear hHeld
     refine oS 5 (fun K hK=>?_)
     go_simp
     refine(HFk.out _ HH2.out.ext).mono ?_
     rintro e w3 ⟨rfl,e3⟩
     have HH:=Lib.hid (HH2.out.later e3)
     clear e3 HH2
     go_wp2_with fail
     refine hK.out _ _ HH.out (fun hHeld=>?_)
     clear hK K
     (try simp only [Act.put,lyA,lyB,lyC])
     refine tW 12 1 ?_
     refine wpAnyH_done (by kernel_rfl) ?_ _
     cases fb with
     | false=>
       have h2:V=42:=by rw [HV2.out,HNo.out rfl];rfl
       have h4:decide (quota < (ch:Int))=true:=by have:=HFb.out;simpa using this
       have h5:=of_decide_eq_true h4
       clear HV2
       subst h2
       go_wp2_with fail
       go_ret
       exact⟨rfl,HH.out.ext⟩
     | true=>
       have HK2:=Lib.hid (show(tx.take (k+1)).all xj=true by rw [HU.out,HK.out];rfl)
       have h4:decide (quota < (ch:Int))=false:=by have:=HFb.out;simpa using this
       have h5:=of_decide_eq_false h4
       go_wp2_with fail
       go_roundw
       case rel=>exact⟨k+1,by omega,by go_num,HK2,HH⟩
       case measure=>(first | (simp [intOf];done) | (simp [intOf];omega))
    ·obtain rfl:k=tn:=by omega
     have h2:=HK.out
     rw [List.take_of_length_le (by rw [←hTn.out];exact Nat.le_refl _)]at h2
     have h3:V=0:=by rw [HV2.out,if_pos h2]
     clear HV2 h2
     subst h3
     go_wp2_with (refine zc HH.out rfl rfl rfl 0 rfl rfl (by decide+kernel) ?_)
     go_ret
     exact⟨rfl,HH.out.ext⟩
 ·have hbe:(aE == 0)=false:=by simpa using h0
  have h1:V=aE:=by rw [HV.out,if_pos h0]
  clear HV
  subst h1
  go_enter Tryz.func57,Tryz.ntmps57
  go_upto_region 1 with fail
  generalize hwH:World.alloc w _=w1;have HH:=Lib.hid (Heap.one hwH);clear hwH
  go_wp2_with (refine zp HH.out zS (by kernel_rfl) rfl rfl rfl 0 rfl rfl ?_)
  refine(HP.out _ HH.out.ext).mono ?_
  rintro e w2 ⟨rfl,e2⟩
  go_wp2_with fail
  go_ret
  exact⟨rfl,HH.out.ext.trans e2⟩
end Go.Proofs.YtckaneapjpiocaaGreatDoor
