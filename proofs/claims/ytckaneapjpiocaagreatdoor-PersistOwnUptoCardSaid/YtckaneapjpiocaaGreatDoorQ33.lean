/- The texts Adm in one file. -/
import Derived.Test.YtckaneapjpiocaaGreatDoorQ30
import Derived.Test.YtckaneapjpiocaaGreatDoorQ31
set_option linter.unusedVariables false
set_option linter.unusedSimpArgs false
set_option maxHeartbeats 8000000
set_option maxRecDepth 100000
namespace Go.Proofs.YtckaneapjpiocaaGreatDoor
open Go.RowKit Go.Maps Go.Sort Go.Shelf
theorem ahS(l:List Int):0≤qE l∧qE l≤1099511627776:=by
 rw [qE]
 split
 ·rename_i h
  by_cases h1:l.any xz=true
  ·rw [xh,if_pos h1]at h;exact absurd h (by decide)
  ·have h2:=aen (l:=l) fun z hz=>(aeU (by simpa using h1) z hz).1
   rw [xh,if_neg h1]at h
   split at h
   ·exact absurd h (by decide)
   ·omega
 ·omega
def abk(p:Pol):Int:=if xh (quo p)≠0 then xh (quo p)else if p.cap < qE (quo p)then 17 else if p.ten.xs.all xQ=true then 0 else 42
theorem ai5(w:World)(p:Pol)(h:Pol.At w 0 w.heap.size p)(hT: ∀t∈p.ten.xs,t.sets.n≤32∧t.stages.n≤4):
 Calls Tryz.prog 119 #[.agg p.cells.toArray] w fun e w'=>e= .returned (.int .i64 (abk p))∧Ext w w':=by
 have HP:=hiD (fun W (hW:Ext w W)=>akR W p (h.on hW (Nat.le_refl _)))
 have hb:=ahS (quo p)
 have HV:=hiD (show abk p=if xh (quo p)≠0 then xh (quo p)else if p.cap < qE (quo p)then 17 else if p.ten.xs.all xQ=true then 0 else 42 from rfl)
 generalize abk p=V at *
 generalize xh (quo p)=aE at *
 generalize qE (quo p)=aV at *
 have HTn:=hiD h.ten
 have HF:=hiD (fun k (hk:k < p.ten.xs.length) W (hW:Ext w W)=>alJ W p.ten.xs[k] (Tnt.At.on (h.ten.all _ (List.getElem_mem hk)) hW (Nat.le_refl _)) (hT _ (List.getElem_mem hk)).1 (hT _ (List.getElem_mem hk)).2)
 have hS:=h.tenS
 clear h hT
 obtain⟨cap,⟨tA,tn,tc,tx⟩,⟨fA,fn,fc,fx⟩,⟨lA,ln,lc,lx⟩⟩:=p
 simp only [Pol.cells,Sl.val]at *
 have hTn:=hiD (show tn=tx.length from HTn.out.len)
 by_cases h0:aE=0
 ·subst h0
  by_cases h1:cap < aV
  ·have h2:V=17:=by rw [HV.out,if_neg (by simp),if_pos h1]
   clear HV
   subst h2
   go_enter Tryz.func119,Tryz.ntmps119
   go_upto_region 1 with fail
   generalize hwH:World.alloc w _=w1;have HH:=hiD (Heap.one hwH);clear hwH
   go_upto_region 2 with(refine lSX HH zD 0 ?_)
   refine cX HH (HP.out _ HH.out.ext) ?_
   clear HH
   intro w2 HH
   go_wp2_with (refine l1X HH 0 ?_)
   go_ret
   exact⟨rfl,HH.out.ext⟩
  ·have HV2:=hiD (show V=if tx.all xQ=true then 0 else 42 by rw [HV.out,if_neg (by simp),if_neg h1])
   clear HV
   go_enter Tryz.func119,Tryz.ntmps119
   go_upto_region 1 with fail
   generalize hwH:World.alloc w _=w1;have HH:=hiD (Heap.one hwH);clear hwH
   go_upto_region 2 with(refine lSX HH zD 0 ?_)
   refine cX HH (HP.out _ HH.out.ext) ?_
   clear HH
   intro w2 HH
   go_wp2_with (refine l1X HH 0 ?_)
   obtain⟨tv,htv⟩: ∃tv:List Value,tv= [.int .i64 cap,.slice tA tn tc,.slice fA fn fc,.slice lA ln lc]:=⟨_,rfl⟩
   rw [←htv]at HH
   clear htv
   go_loopw [24] (fun i wr=> ∃k:Nat,k≤tn∧i= .int .i64 (k:Int)∧Hid ((tx.take k).all xQ=true)∧Hid (Heap w [.box w.heap.size tv] wr)) (fun i _=>tn - (intOf i).toNat)
   case atStart=>exact⟨0,Nat.zero_le _,rfl,hiD rfl,HH⟩
   case round=>
    clear HH
    obtain⟨k,hk,rfl,HK,HH⟩:=hrel
    by_cases hlt:k < tn
    ·have hl:k < tx.length:=by rw [←hTn.out];exact hlt
     obtain⟨b1,o1,hA1,_,hb1,G0⟩:=zh (size:=7) (fun _=>rfl) (by omega) (HTn.out.rd.ext HH.out.ext (Nat.le_refl _)) hl
     dsimp only at hA1
     subst hA1
     have HG:=hiD (fun j u hu=>G0 j u hu)
     clear G0
     have HFk:=hiD (HF.out k hl)
     have HU:=hiD (aeZ xQ tx k hl)
     have HNo:=hiD (aaf xQ tx k hl)
     generalize tx[k]=x at *
     generalize xQ x=fb at *
     obtain⟨name,quota,next,⟨sA,sn,sc,ss⟩,⟨gA,gn,gc,gs⟩,⟨aA,an,ac,ax⟩,⟨mA,mn,mc,ms⟩⟩:=x
     simp only [Tnt.cells,Sl.val]at HG HFk
     have hkn:(k:Int) < (tn:Int):=by omega
     go_upto_region 9 with(first | (refine yF HG.out rfl zt (by kernel_rfl) rfl rfl rfl ?_) | (refine sSX (hiD (HH.out.alloc _ _)) zt 0 ?_;clear HH;intro wS HH))
     generalize wr.heap.size=xb at *
     go_wp2_with (refine lSX HH zt 0 ?_)
     refine(HFk.out _ HH.out.ext).mono ?_
     rintro e w3 ⟨rfl,e3⟩
     replace HH:=hiD ((HH.out.later e3).tail)
     clear e3
     cases fb with
     | false=>
       have h2:V=42:=by rw [HV2.out,HNo.out rfl];rfl
       clear HV2
       subst h2
       go_wp2_with fail
       go_ret
       exact⟨rfl,HH.out.ext⟩
     | true=>
       have HK2:=hiD (show(tx.take (k+1)).all xQ=true by rw [HU.out,HK.out];rfl)
       go_wp2_with fail
       go_roundw
       case rel=>exact⟨k+1,by omega,by go_num,HK2,HH⟩
       case measure=>(first | (simp [intOf];done) | (simp [intOf];omega))
    ·obtain rfl:k=tn:=by omega
     have h2:=HK.out
     rw [List.take_of_length_le (by rw [←hTn.out];exact Nat.le_refl _)]at h2
     have h3:V=0:=by rw [HV2.out,if_pos h2]
     clear HV2 h2
     subst h3
     go_wp2_with fail
     go_ret
     exact⟨rfl,HH.out.ext⟩
 ·have hbe:(aE == 0)=false:=by simpa using h0
  have h1:V=aE:=by rw [HV.out,if_pos h0]
  clear HV
  subst h1
  go_enter Tryz.func119,Tryz.ntmps119
  go_upto_region 1 with fail
  generalize hwH:World.alloc w _=w1;have HH:=hiD (Heap.one hwH);clear hwH
  go_wp2_with (refine lSX HH zD 0 ?_)
  refine(HP.out _ HH.out.ext).mono ?_
  rintro e w2 ⟨rfl,e2⟩
  go_wp2_with fail
  go_ret
  exact⟨rfl,HH.out.ext.trans e2⟩
theorem aiS(w:World)(p:Pol)(h:Pol.At w 0 w.heap.size p)(hT: ∀t∈p.ten.xs,t.sets.n≤32∧t.stages.n≤4):
 Calls Tryz.prog 57 #[.agg p.cells.toArray] w fun e w'=>e= .returned (.int .i64 (abk p))∧Ext w w':=by
 have HP:=hiD (fun W (hW:Ext w W)=>alB W p (h.on hW (Nat.le_refl _)))
 have hb:=ahS (quo p)
 have HV:=hiD (show abk p=if xh (quo p)≠0 then xh (quo p)else if p.cap < qE (quo p)then 17 else if p.ten.xs.all xQ=true then 0 else 42 from rfl)
 generalize abk p=V at *
 generalize xh (quo p)=aE at *
 generalize qE (quo p)=aV at *
 have HTn:=hiD h.ten
 have HF:=hiD (fun k (hk:k < p.ten.xs.length) W (hW:Ext w W)=>ahE W p.ten.xs[k] (Tnt.At.on (h.ten.all _ (List.getElem_mem hk)) hW (Nat.le_refl _)) (hT _ (List.getElem_mem hk)).1 (hT _ (List.getElem_mem hk)).2)
 have hS:=h.tenS
 clear h hT
 obtain⟨cap,⟨tA,tn,tc,tx⟩,⟨fA,fn,fc,fx⟩,⟨lA,ln,lc,lx⟩⟩:=p
 simp only [Pol.cells,Sl.val]at *
 have hTn:=hiD (show tn=tx.length from HTn.out.len)
 by_cases h0:aE=0
 ·subst h0
  by_cases h1:cap < aV
  ·have h2:V=17:=by rw [HV.out,if_neg (by simp),if_pos h1]
   clear HV
   subst h2
   go_enter Tryz.func57,Tryz.ntmps57
   go_upto_region 1 with fail
   generalize hwH:World.alloc w _=w1;have HH:=hiD (Heap.one hwH);clear hwH
   go_upto_region 2 with(refine lSX HH zD 0 ?_)
   refine cX HH (HP.out _ HH.out.ext) ?_
   clear HH
   intro w2 HH
   go_wp2_with (refine l1X HH 0 ?_)
   go_ret
   exact⟨rfl,HH.out.ext⟩
  ·have HV2:=hiD (show V=if tx.all xQ=true then 0 else 42 by rw [HV.out,if_neg (by simp),if_neg h1])
   clear HV
   go_enter Tryz.func57,Tryz.ntmps57
   go_upto_region 1 with fail
   generalize hwH:World.alloc w _=w1;have HH:=hiD (Heap.one hwH);clear hwH
   go_upto_region 2 with(refine lSX HH zD 0 ?_)
   refine cX HH (HP.out _ HH.out.ext) ?_
   clear HH
   intro w2 HH
   go_wp2_with (refine l1X HH 0 ?_)
   go_loopw [5] (fun i wr=> ∃k:Nat,k≤tn∧i= .int .i64 (k:Int)∧Hid ((tx.take k).all xQ=true)∧Hid (Heap w [.box w.heap.size [.int .i64 cap,.slice tA tn tc,.slice fA fn fc,.slice lA ln lc]] wr)) (fun i _=>tn - (intOf i).toNat)
   case atStart=>exact⟨0,Nat.zero_le _,rfl,hiD rfl,HH⟩
   case round=>
    clear HH
    obtain⟨k,hk,rfl,HK,HH⟩:=hrel
    by_cases hlt:k < tn
    ·have hl:k < tx.length:=by rw [←hTn.out];exact hlt
     obtain⟨b1,o1,hA1,_,hb1,G0⟩:=zh (size:=7) (fun _=>rfl) (by omega) HTn.out.rd hl
     dsimp only at hA1
     subst hA1
     have HFk:=hiD (HF.out k hl)
     have HU:=hiD (aeZ xQ tx k hl)
     have HNo:=hiD (aaf xQ tx k hl)
     have HFb:=hiD (show xQ tx[k]=!decide (tx[k].quota < (chT tx[k]:Int))from rfl)
     generalize hx:tx[k]=x at *
     clear hx
     generalize xQ x=fb at *
     generalize chT x=ch at *
     obtain⟨name,quota,next,⟨sA,sn,sc,ss⟩,⟨gA,gn,gc,gs⟩,⟨aA,an,ac,ax⟩,⟨mA,mn,mc,ms⟩⟩:=x
     have HG:=hiD (fun(wT:World) (hT:Heap w [.box w.heap.size [.int .i64 cap,.slice (some ⟨b1,o1,none⟩) tn tc,.slice fA fn fc,.slice lA ln lc]] wT) j u hu=>(Below.cell hT.ext hb1).trans (G0 j u hu))
     clear G0
     simp only [Tnt.cells,Sl.val]at HG HFk
     dsimp only at HFb
     have hkn:(k:Int) < (tn:Int):=by omega
     go_upto_region 9 with(refine l1X HH 0 ?_)
     have HH2:=hiD HH.out.drew
     clear HH
     refine wp_region_held_drew (S:=Heap w [.box w.heap.size [.int .i64 cap,.slice (some ⟨b1,o1,none⟩) tn tc,.slice fA fn fc,.slice lA ln lc]]) (by kernel_rfl) HH2.out (fun hHeld=>?_)
     generalize World.drew _=wd at *
     refine tW 0 1 ?_
     refine tH 1 0 ?_
     refine tW 2 2 ?_
     refine tG 4 rfl (fun wT hST=>qm (HG.out wT hST) rfl zt (by kernel_rfl) rfl rfl) hHeld ?_;refine lyX ?_
     refine tW 6 1 ?_
     refine tH 7 0 ?_
     refine tW 8 3 ?_
     refine anl 11 (v:= .int .i64 quota) rfl (by kernel_rfl) (by kernel_rfl) (by kernel_rfl) (fun _ _ _ h=>h) (by kernel_rfl) (by intro wT hST;have g1:=HG.out wT hST 1 (.int .i64 quota) rfl;go_simp <;> with_reducible rfl) hHeld ?_;refine lyX ?_
     clear hHeld
     refine oS 5 (fun K hK=>?_)
     go_simp
     refine(HFk.out _ HH2.out.ext).mono ?_
     rintro e w3 ⟨rfl,e3⟩
     have HH:=hiD (HH2.out.later e3)
     clear e3 HH2
     go_wp2_with fail
     refine hK.out _ _ HH.out (fun hHeld=>?_)
     clear hK K
     refine lyX ?_
     refine tW 12 1 ?_
     refine dnX ?_
     cases fb with
     | false=>
       have h2:V=42:=by rw [HV2.out,HNo.out rfl];rfl
       have h4:decide (quota < (ch:Int))=true:=by have:=HFb.out;simpa using this
       have h5:=of_decide_eq_true h4
       clear HV2
       subst h2
       go_wp2_with fail
       go_ret
       exact⟨rfl,HH.out.ext⟩
     | true=>
       have HK2:=hiD (show(tx.take (k+1)).all xQ=true by rw [HU.out,HK.out];rfl)
       have h4:decide (quota < (ch:Int))=false:=by have:=HFb.out;simpa using this
       have h5:=of_decide_eq_false h4
       go_wp2_with fail
       go_roundw
       case rel=>exact⟨k+1,by omega,by go_num,HK2,HH⟩
       case measure=>(first | (simp [intOf];done) | (simp [intOf];omega))
    ·obtain rfl:k=tn:=by omega
     have h2:=HK.out
     rw [List.take_of_length_le (by rw [←hTn.out];exact Nat.le_refl _)]at h2
     have h3:V=0:=by rw [HV2.out,if_pos h2]
     clear HV2 h2
     subst h3
     go_wp2_with (refine l1X HH 0 ?_)
     go_ret
     exact⟨rfl,HH.out.ext⟩
 ·have hbe:(aE == 0)=false:=by simpa using h0
  have h1:V=aE:=by rw [HV.out,if_pos h0]
  clear HV
  subst h1
  go_enter Tryz.func57,Tryz.ntmps57
  go_upto_region 1 with fail
  generalize hwH:World.alloc w _=w1;have HH:=hiD (Heap.one hwH);clear hwH
  go_wp2_with (refine lSX HH zD 0 ?_)
  refine(HP.out _ HH.out.ext).mono ?_
  rintro e w2 ⟨rfl,e2⟩
  go_wp2_with fail
  go_ret
  exact⟨rfl,HH.out.ext.trans e2⟩
end Go.Proofs.YtckaneapjpiocaaGreatDoor
