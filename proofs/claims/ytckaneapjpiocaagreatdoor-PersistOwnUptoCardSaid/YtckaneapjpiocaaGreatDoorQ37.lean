/- The texts Sgl, Ssp, Sst, Smt in one file. -/
import Derived.Test.YtckaneapjpiocaaGreatDoorQ8
import Derived.Test.YtckaneapjpiocaaGreatDoorQ10
set_option linter.unusedVariables false
set_option linter.unusedSimpArgs false
set_option maxHeartbeats 16000000
set_option maxRecDepth 100000
namespace Go.Proofs.YtckaneapjpiocaaGreatDoor
open Go.RowKit Go.Maps Go.Sort Go.Shelf
instance:DecidableEq Gra:=fun a b=>decidable_of_iff (a.user=b.user∧a.path=b.path∧a.perms=b.perms) (by cases a;cases b;simp)
instance:DecidableEq Lin:=fun a b=>decidable_of_iff (a.user=b.user∧a.kind=b.kind∧a.path=b.path∧a.err=b.err) (by cases a;cases b;simp)
theorem adc{α:Type}{xs ys:List α}{k:Nat}(h1:k < xs.length)(h2:k < ys.length)(h:xs.take k=ys.take k)(he:xs[k]=ys[k]):xs.take (k+1)=ys.take (k+1):=by
 rw [List.take_succ_eq_append_getElem h1,List.take_succ_eq_append_getElem h2,h,he]
theorem agT{α:Type}{xs ys:List α}{k:Nat}(h1:k < xs.length)(h2:k < ys.length)(hn:xs[k]≠ys[k]):xs≠ys:=fun e=>by
 subst e
 exact hn rfl
theorem ahC(w:World)(s t:Sl Gra)(hs:Sl.At w 0 w.heap.size Gra.cells (fun _=>True) s)(ht:Sl.At w 0 w.heap.size Gra.cells (fun _=>True) t):
 Calls Tryz.prog 51 #[s.val,t.val] w fun e w'=>e= .returned (.bool (decide (s.xs=t.xs)))∧Ext w w':=by
 have HR:=hiD hs.rd
 have HS:=hiD ht.rd
 have hN:s.n≤9223372036854775807:=Nat.le_trans (Nat.le_trans hs.le hs.cap) (by decide)
 have hM:t.n≤9223372036854775807:=Nat.le_trans (Nat.le_trans ht.le ht.cap) (by decide)
 have Hn:=hiD hs.len
 have Hm:=hiD ht.len
 clear hs ht
 obtain⟨A,n,c,xs⟩:=s
 obtain⟨B,m,d,ys⟩:=t
 dsimp only at HR HS hN hM Hn Hm ⊢
 simp only [Sl.val]
 by_cases hne:n=m
 ·subst hne
  go_enter Tryz.func51,Tryz.ntmps51
  go_wp2_with fail
  go_loopw [5] (fun i wr=> ∃k:Nat,k≤n∧i= .int .i64 k∧Hid (xs.take k=ys.take k)∧Ext w wr) (fun i _=>n - (intOf i).toNat)
  case atStart=>exact⟨0,Nat.zero_le _,rfl,by rw [Hid];rfl,Ext.refl _⟩
  case round=>
   obtain⟨k,hk,rfl,HK,e1⟩:=hrel
   by_cases hlt:k < n
   ·have l1:k < xs.length:=by rw [←Hn.out];exact hlt
    have l2:k < ys.length:=by rw [←Hm.out];exact hlt
    obtain⟨b1,o1,rfl,_,_,G1⟩:=zh (size:=3) (fun _=>rfl) (by omega) (HR.out.ext e1 (Nat.le_refl _)) l1
    obtain⟨b2,o2,rfl,_,_,G2⟩:=zh (size:=3) (fun _=>rfl) (by omega) (HS.out.ext e1 (Nat.le_refl _)) l2
    have HT:=hiD (fun he=>adc l1 l2 HK.out he)
    have HN:=hiD (agT l1 l2)
    have f0:=G1 0 _ rfl
    have g0:=G2 0 _ rfl
    have f1:=G1 1 _ rfl
    have g1:=G2 1 _ rfl
    have f2:=G1 2 _ rfl
    have g2:=G2 2 _ rfl
    generalize xs[k]=x at *
    generalize ys[k]=y at *
    obtain⟨x0,x1,x2⟩:=x
    obtain⟨y0,y1,y2⟩:=y
    (try simp only [Nat.add_zero]at f0 g0)
    clear G1 G2
    by_cases h0:x0=y0
    ·subst h0
     by_cases h1:x1=y1
     ·subst h1
      by_cases h2:x2=y2
      ·subst h2
       have e0:=zM x0
       have e1:=zM x1
       have HT2:=hiD (HT.out rfl)
       clear HT HN
       go_wp2_with fail
       refine wp_region_held_drew (S:=fun w'=>w'=wr.drew) (by kernel_rfl) rfl (fun hHeld=>?_)
       refine tW 0 9 ?_
       refine dnX ?_
       go_wp2_with fail
       go_roundw
       case rel=>exact⟨k+1,by omega,by go_num,HT2,blo⟩
       case measure=>simp [intOf];omega
      ·have HF:=hiD (HN.out (by simp [h2]))
       have e0:=zM x0
       have e1:=zM x1
       have c2:(x2 == y2)=false:=by simp [h2]
       clear h2 HT HN
       go_wp2_with fail
       refine wp_region_held_drew (S:=fun w'=>w'=wr.drew) (by kernel_rfl) rfl (fun hHeld=>?_)
       refine tW 0 9 ?_
       refine dnX ?_
       go_wp2_with fail
       go_ret
       exact⟨by rw [decide_eq_false HF.out];rfl,blo⟩
     ·have HF:=hiD (HN.out (by simp [h1]))
      have e0:=zM x0
      have c1:=xy h1
      clear h1 HT HN
      go_wp2_with fail
      refine wp_region_held_drew (S:=fun w'=>w'=wr.drew) (by kernel_rfl) rfl (fun hHeld=>?_)
      refine tW 0 9 ?_
      refine dnX ?_
      go_wp2_with fail
      go_ret
      exact⟨by rw [decide_eq_false HF.out];rfl,blo⟩
    ·have HF:=hiD (HN.out (by simp [h0]))
     have c0:=xy h0
     clear h0 HT HN
     go_wp2_with fail
     refine wp_region_held_drew (S:=fun w'=>w'=wr.drew) (by kernel_rfl) rfl (fun hHeld=>?_)
     refine tW 0 9 ?_
     refine dnX ?_
     go_wp2_with fail
     go_ret
     exact⟨by rw [decide_eq_false HF.out];rfl,blo⟩
   ·obtain rfl:k=n:=by omega
    have h1:=HK.out
    rw [List.take_of_length_le (by rw [←Hn.out];exact Nat.le_refl _),List.take_of_length_le (by rw [←Hm.out];exact Nat.le_refl _)]at h1
    have HF:=hiD h1
    clear h1
    go_wp2_with fail
    go_ret
    exact⟨by rw [decide_eq_true HF.out];rfl,e1⟩
 ·have HF:=hiD (show xs≠ys from fun e=>hne (by rw [Hn.out,Hm.out,e]))
  have hb:((n:Int) == (m:Int))=false:=by rw [beq_eq_false_iff_ne];omega
  go_enter Tryz.func51,Tryz.ntmps51
  go_wp2_with fail
  go_ret
  exact⟨by rw [decide_eq_false HF.out];rfl,Ext.refl _⟩
theorem aeg(w:World)(s t:Sl Lin)(hs:Sl.At w 0 w.heap.size Lin.cells (fun _=>True) s)(ht:Sl.At w 0 w.heap.size Lin.cells (fun _=>True) t):
 Calls Tryz.prog 52 #[s.val,t.val] w fun e w'=>e= .returned (.bool (decide (s.xs=t.xs)))∧Ext w w':=by
 have HR:=hiD hs.rd
 have HS:=hiD ht.rd
 have hN:s.n≤9223372036854775807:=Nat.le_trans (Nat.le_trans hs.le hs.cap) (by decide)
 have hM:t.n≤9223372036854775807:=Nat.le_trans (Nat.le_trans ht.le ht.cap) (by decide)
 have Hn:=hiD hs.len
 have Hm:=hiD ht.len
 clear hs ht
 obtain⟨A,n,c,xs⟩:=s
 obtain⟨B,m,d,ys⟩:=t
 dsimp only at HR HS hN hM Hn Hm ⊢
 simp only [Sl.val]
 by_cases hne:n=m
 ·subst hne
  go_enter Tryz.func52,Tryz.ntmps52
  go_wp2_with fail
  go_loopw [5] (fun i wr=> ∃k:Nat,k≤n∧i= .int .i64 k∧Hid (xs.take k=ys.take k)∧Ext w wr) (fun i _=>n - (intOf i).toNat)
  case atStart=>exact⟨0,Nat.zero_le _,rfl,by rw [Hid];rfl,Ext.refl _⟩
  case round=>
   obtain⟨k,hk,rfl,HK,e1⟩:=hrel
   by_cases hlt:k < n
   ·have l1:k < xs.length:=by rw [←Hn.out];exact hlt
    have l2:k < ys.length:=by rw [←Hm.out];exact hlt
    obtain⟨b1,o1,rfl,_,_,G1⟩:=zh (size:=4) (fun _=>rfl) (by omega) (HR.out.ext e1 (Nat.le_refl _)) l1
    obtain⟨b2,o2,rfl,_,_,G2⟩:=zh (size:=4) (fun _=>rfl) (by omega) (HS.out.ext e1 (Nat.le_refl _)) l2
    have HT:=hiD (fun he=>adc l1 l2 HK.out he)
    have HN:=hiD (agT l1 l2)
    have f0:=G1 0 _ rfl
    have g0:=G2 0 _ rfl
    have f1:=G1 1 _ rfl
    have g1:=G2 1 _ rfl
    have f2:=G1 2 _ rfl
    have g2:=G2 2 _ rfl
    have f3:=G1 3 _ rfl
    have g3:=G2 3 _ rfl
    generalize xs[k]=x at *
    generalize ys[k]=y at *
    obtain⟨x0,x1,x2,x3⟩:=x
    obtain⟨y0,y1,y2,y3⟩:=y
    (try simp only [Nat.add_zero]at f0 g0)
    clear G1 G2
    by_cases h0:x0=y0
    ·subst h0
     by_cases h1:x1=y1
     ·subst h1
      by_cases h2:x2=y2
      ·subst h2
       by_cases h3:x3=y3
       ·subst h3
        have e0:=zM x0
        have e2:=zM x2
        have HT2:=hiD (HT.out rfl)
        clear HT HN
        go_wp2_with fail
        refine wp_region_held_drew (S:=fun w'=>w'=wr.drew) (by kernel_rfl) rfl (fun hHeld=>?_)
        refine tW 0 9 ?_
        refine dnX ?_
        go_wp2_with fail
        go_roundw
        case rel=>exact⟨k+1,by omega,by go_num,HT2,blo⟩
        case measure=>simp [intOf];omega
       ·have HF:=hiD (HN.out (by simp [h3]))
        have e0:=zM x0
        have e2:=zM x2
        have c3:(x3 == y3)=false:=by simp [h3]
        clear h3 HT HN
        go_wp2_with fail
        refine wp_region_held_drew (S:=fun w'=>w'=wr.drew) (by kernel_rfl) rfl (fun hHeld=>?_)
        refine tW 0 9 ?_
        refine dnX ?_
        go_wp2_with fail
        go_ret
        exact⟨by rw [decide_eq_false HF.out];rfl,blo⟩
      ·have HF:=hiD (HN.out (by simp [h2]))
       have e0:=zM x0
       have c2:=xy h2
       clear h2 HT HN
       go_wp2_with fail
       refine wp_region_held_drew (S:=fun w'=>w'=wr.drew) (by kernel_rfl) rfl (fun hHeld=>?_)
       refine tW 0 9 ?_
       refine dnX ?_
       go_wp2_with fail
       go_ret
       exact⟨by rw [decide_eq_false HF.out];rfl,blo⟩
     ·have HF:=hiD (HN.out (by simp [h1]))
      have e0:=zM x0
      have c1:(x1 == y1)=false:=by simp [h1]
      clear h1 HT HN
      go_wp2_with fail
      refine wp_region_held_drew (S:=fun w'=>w'=wr.drew) (by kernel_rfl) rfl (fun hHeld=>?_)
      refine tW 0 9 ?_
      refine dnX ?_
      go_wp2_with fail
      go_ret
      exact⟨by rw [decide_eq_false HF.out];rfl,blo⟩
    ·have HF:=hiD (HN.out (by simp [h0]))
     have c0:=xy h0
     clear h0 HT HN
     go_wp2_with fail
     refine wp_region_held_drew (S:=fun w'=>w'=wr.drew) (by kernel_rfl) rfl (fun hHeld=>?_)
     refine tW 0 9 ?_
     refine dnX ?_
     go_wp2_with fail
     go_ret
     exact⟨by rw [decide_eq_false HF.out];rfl,blo⟩
   ·obtain rfl:k=n:=by omega
    have h1:=HK.out
    rw [List.take_of_length_le (by rw [←Hn.out];exact Nat.le_refl _),List.take_of_length_le (by rw [←Hm.out];exact Nat.le_refl _)]at h1
    have HF:=hiD h1
    clear h1
    go_wp2_with fail
    go_ret
    exact⟨by rw [decide_eq_true HF.out];rfl,e1⟩
 ·have HF:=hiD (show xs≠ys from fun e=>hne (by rw [Hn.out,Hm.out,e]))
  have hb:((n:Int) == (m:Int))=false:=by rw [beq_eq_false_iff_ne];omega
  go_enter Tryz.func52,Tryz.ntmps52
  go_wp2_with fail
  go_ret
  exact⟨by rw [decide_eq_false HF.out];rfl,Ext.refl _⟩
def abl(x y:Sna):Bool:=decide (x.name=y.name) && (decide (x.guid=y.guid) && (decide (x.tags.n=y.tags.n) && (decide (x.body.xs=y.body.xs) && (decide (x.own.xs=y.own.xs) && decide (x.tags.xs=y.tags.xs)))))
theorem aht(w:World)(x y:Sna)(hx:Sna.At w 0 w.heap.size x)(hy:Sna.At w 0 w.heap.size y):
 Calls Tryz.prog 112 #[.agg x.cells.toArray,.agg y.cells.toArray] w fun e w'=>e= .returned (.bool (abl x y))∧Ext w w':=by
 have HBk:=hiD (fun W (hW:Ext w W)=>adD W x.body.A y.body.A x.body.n y.body.n x.body.c y.body.c x.body.xs y.body.xs hx.body.len hy.body.len (Nat.le_trans hx.bodyS (by decide)) (Nat.le_trans hy.bodyS (by decide)) (Rd.at hx.body.rd hW (Nat.le_refl _)) (Rd.at hy.body.rd hW (Nat.le_refl _)))
 have HPr:=hiD (fun W (hW:Ext w W)=>ab1 W x.own.A y.own.A x.own.n y.own.n x.own.c y.own.c x.own.xs y.own.xs hx.own.len hy.own.len (Nat.le_trans hx.ownS (by decide)) (Nat.le_trans hy.ownS (by decide)) (Rd.at hx.own.rd hW (Nat.le_refl _)) (Rd.at hy.own.rd hW (Nat.le_refl _)))
 have HTx:=hiD hx.tags
 have HTy:=hiD hy.tags
 have hm:x.tags.n≤9223372036854775807:=Nat.le_trans (Nat.le_trans hx.tags.le hx.tags.cap) (by decide)
 have hm2:y.tags.n≤9223372036854775807:=Nat.le_trans (Nat.le_trans hy.tags.le hy.tags.cap) (by decide)
 have HV:=hiD (show abl x y=(decide (x.name=y.name) && (decide (x.guid=y.guid) && (decide (x.tags.n=y.tags.n) && (decide (x.body.xs=y.body.xs) && (decide (x.own.xs=y.own.xs) && decide (x.tags.xs=y.tags.xs))))))from rfl)
 generalize abl x y=V at *
 clear hx hy
 obtain⟨nm,gu,⟨bA,bn,bc,bd⟩,⟨tA,tn,tc,td⟩,⟨pA,pn,pc,pd⟩⟩:=x
 obtain⟨nm2,gu2,⟨eA,en,ec,ed⟩,⟨uA,tn2,uc,td2⟩,⟨rA,rn,rc,rd⟩⟩:=y
 dsimp only at HBk HPr HV hm hm2
 simp only [Sna.cells,Sl.val]
 generalize decide (bd=ed)=bs at *
 generalize decide (pd=rd)=ps at *
 go_enter Tryz.func112,Tryz.ntmps112
 go_upto_region 1 with fail
 generalize hwH:World.alloc (World.alloc w _) _=w1;have HH:=hiD (Heap.two hwH);clear hwH
 obtain⟨yb,hyb⟩: ∃b,b=w.heap.size+1:=⟨_,rfl⟩
 obtain⟨xb,hxb⟩: ∃b,b=w.heap.size:=⟨_,rfl⟩
 rw [←hyb,←hxb]at HH ⊢
 clear hyb hxb
 obtain⟨c0,c1,c2,c3,c4,-⟩:=zb (HH.out.boxAt 1 rfl)
 obtain⟨d0,d1,d2,d3,d4,-⟩:=zb (HH.out.boxAt 0 rfl)
 by_cases h0:nm=nm2
 ·subst h0
  have q0:=zM nm
  by_cases h1:gu=gu2
  ·subst h1
   by_cases h2:tn=tn2
   ·subst h2
    cases bs with
    | false=>
      obtain rfl:V=false:=by rw [HV.out];simp [*]
      clear HV
      go_wp2_with (first | (go_at_call 111;with_reducible refine cX HH (HBk.out _ HH.out.ext) ?_;clear HH;intro wb HH;clear c0 c1 c2 c3 c4 d0 d1 d2 d3 d4;obtain⟨c0,c1,c2,c3,c4,-⟩:=zb (HH.out.boxAt 1 rfl);obtain⟨d0,d1,d2,d3,d4,-⟩:=zb (HH.out.boxAt 0 rfl)) | (go_at_call 71;with_reducible refine cX HH (HPr.out _ HH.out.ext) ?_;clear HH;intro wo HH;clear c0 c1 c2 c3 c4 d0 d1 d2 d3 d4;obtain⟨c0,c1,c2,c3,c4,-⟩:=zb (HH.out.boxAt 1 rfl);obtain⟨d0,d1,d2,d3,d4,-⟩:=zb (HH.out.boxAt 0 rfl)))
      go_ret
      exact⟨rfl,HH.out.ext⟩
    | true=>
      cases ps with
      | false=>
        obtain rfl:V=false:=by rw [HV.out];simp [*]
        clear HV
        go_wp2_with (first | (go_at_call 111;with_reducible refine cX HH (HBk.out _ HH.out.ext) ?_;clear HH;intro wb HH;clear c0 c1 c2 c3 c4 d0 d1 d2 d3 d4;obtain⟨c0,c1,c2,c3,c4,-⟩:=zb (HH.out.boxAt 1 rfl);obtain⟨d0,d1,d2,d3,d4,-⟩:=zb (HH.out.boxAt 0 rfl)) | (go_at_call 71;with_reducible refine cX HH (HPr.out _ HH.out.ext) ?_;clear HH;intro wo HH;clear c0 c1 c2 c3 c4 d0 d1 d2 d3 d4;obtain⟨c0,c1,c2,c3,c4,-⟩:=zb (HH.out.boxAt 1 rfl);obtain⟨d0,d1,d2,d3,d4,-⟩:=zb (HH.out.boxAt 0 rfl)))
        go_ret
        exact⟨rfl,HH.out.ext⟩
      | true=>
        have HV2:=hiD (show V=decide (td=td2)by rw [HV.out];simp)
        clear HV
        go_upto_region 3 with(first | (go_at_call 111;with_reducible refine cX HH (HBk.out _ HH.out.ext) ?_;clear HH;intro wb HH;clear c0 c1 c2 c3 c4 d0 d1 d2 d3 d4;obtain⟨c0,c1,c2,c3,c4,-⟩:=zb (HH.out.boxAt 1 rfl);obtain⟨d0,d1,d2,d3,d4,-⟩:=zb (HH.out.boxAt 0 rfl)) | (go_at_call 71;with_reducible refine cX HH (HPr.out _ HH.out.ext) ?_;clear HH;intro wo HH;clear c0 c1 c2 c3 c4 d0 d1 d2 d3 d4;obtain⟨c0,c1,c2,c3,c4,-⟩:=zb (HH.out.boxAt 1 rfl);obtain⟨d0,d1,d2,d3,d4,-⟩:=zb (HH.out.boxAt 0 rfl)))
        clear HBk HPr
        go_wp2_with fail
        have HH0:=HH
        clear HH c0 c1 c2 c3 c4 d0 d1 d2 d3 d4
        go_loopw [5] (fun v wr=> ∃k:Nat,k≤tn∧v= .int .i64 (k:Int)∧Hid (td.take k=td2.take k)∧Hid (Heap w [.box yb [.string nm,.int .i64 gu,.slice eA en ec,.slice uA tn uc,.slice rA rn rc],.box xb [.string nm,.int .i64 gu,.slice bA bn bc,.slice tA tn tc,.slice pA pn pc]] wr)) (fun v _=>tn - (intOf v).toNat)
        case atStart=>exact⟨0,Nat.zero_le _,rfl,by rw [Hid];rfl,HH0⟩
        case round=>
         clear HH0
         obtain⟨k,hk,rfl,HK,HH⟩:=hrel
         by_cases hlt:k < tn
         ·have l1:k < td.length:=by rw [←HTx.out.len];exact hlt
          have l2:k < td2.length:=by rw [←HTy.out.len];exact hlt
          obtain⟨b1,o1,hA1,_,hb1,G1⟩:=zh (size:=1) (fun _=>rfl) (by omega) HTx.out.rd l1
          obtain⟨b2,o2,hA2,_,hb2,G2⟩:=zh (size:=1) (fun _=>rfl) (by omega) HTy.out.rd l2
          dsimp only at hA1 hA2
          subst hA1
          subst hA2
          have HT:=hiD (fun he=>adc l1 l2 HK.out he)
          have HN:=hiD (agT l1 l2)
          have f0:=G1 0 _ rfl
          have g0:=G2 0 _ rfl
          rw [Nat.mul_one,Nat.add_zero]at f0 g0
          clear G1 G2
          generalize td[k]=x at *
          generalize td2[k]=y at *
          have f0W: ∀W,Heap w [.box yb [.string nm,.int .i64 gu,.slice eA en ec,.slice (some ⟨b2,o2,none⟩) tn uc,.slice rA rn rc],.box xb [.string nm,.int .i64 gu,.slice bA bn bc,.slice (some ⟨b1,o1,none⟩) tn tc,.slice pA pn pc]] W→W.cell? ⟨b1,o1+k,none⟩=some (.string x):=fun W hW=>(Below.cell hW.ext (World.block_lt_of_cell? w _ f0)).trans f0
          have g0W: ∀W,Heap w [.box yb [.string nm,.int .i64 gu,.slice eA en ec,.slice (some ⟨b2,o2,none⟩) tn uc,.slice rA rn rc],.box xb [.string nm,.int .i64 gu,.slice bA bn bc,.slice (some ⟨b1,o1,none⟩) tn tc,.slice pA pn pc]] W→W.cell? ⟨b2,o2+k,none⟩=some (.string y):=fun W hW=>(Below.cell hW.ext (World.block_lt_of_cell? w _ g0)).trans g0
          clear f0 g0
          have hkn:(k:Int) < (tn:Int):=by omega
          have HD:=hiD (yW x y)
          go_upto_region 6 with(refine l1X HH 1 ?_)
          have HHd:=hiD (show Heap w [.box yb [.string nm,.int .i64 gu,.slice eA en ec,.slice (some ⟨b2,o2,none⟩) tn uc,.slice rA rn rc],.box xb [.string nm,.int .i64 gu,.slice bA bn bc,.slice (some ⟨b1,o1,none⟩) tn tc,.slice pA pn pc]] (World.drew wr)from HH.out.drew)
          clear HH
          refine wp_region_held_drew (S:=Heap w [.box yb [.string nm,.int .i64 gu,.slice eA en ec,.slice (some ⟨b2,o2,none⟩) tn uc,.slice rA rn rc],.box xb [.string nm,.int .i64 gu,.slice bA bn bc,.slice (some ⟨b1,o1,none⟩) tn tc,.slice pA pn pc]]) (by kernel_rfl) HHd.out (fun hHeld=>?_)
          generalize World.drew _=wd at *
          refine tW 0 1 ?_
          refine tH 1 1 ?_
          refine tW 2 4 ?_
          refine tH 6 0 ?_
          refine tW 7 3 ?_
          clear f0W g0W
          by_cases he:x=y
          ·have hd:(x.toList == y.toList)=true:=by rw [HD.out];exact decide_eq_true he
           have HK2:=hiD (HT.out he)
           clear he HT HN
           refine tW 10 1 ?_
           refine dnX ?_
           clear hHeld
           go_wp2_with fail
           go_roundw
           case rel=>exact⟨k+1,by omega,by go_num,HK2,HHd⟩
           case measure=>(first | (simp [intOf];done) | (simp [intOf];omega))
          ·have hd:(x.toList == y.toList)=false:=by rw [HD.out];exact decide_eq_false he
           obtain rfl:V=false:=by rw [HV2.out];exact decide_eq_false (HN.out he)
           clear he HT HN
           refine tW 10 1 ?_
           refine dnX ?_
           clear hHeld
           go_wp2_with fail
           go_ret
           exact⟨rfl,HHd.out.ext⟩
         ·obtain rfl:k=tn:=by omega
          have h1:=HK.out
          rw [List.take_of_length_le (by rw [←HTx.out.len];exact Nat.le_refl _),List.take_of_length_le (by rw [←HTy.out.len];exact Nat.le_refl _)]at h1
          have HF:=hiD (show V=true from HV2.out.trans (decide_eq_true h1))
          clear h1 HV2
          go_wp2_with (refine l1X HH 1 ?_)
          go_ret
          exact⟨by rw [HF.out];rfl,HH.out.ext⟩
   ·have q2:((tn:Int) == (tn2:Int))=false:=by rw [beq_eq_false_iff_ne];omega
    obtain rfl:V=false:=by rw [HV.out];simp [h2]
    clear HV
    go_wp2_with (first | (go_at_call 111;with_reducible refine cX HH (HBk.out _ HH.out.ext) ?_;clear HH;intro wb HH;clear c0 c1 c2 c3 c4 d0 d1 d2 d3 d4;obtain⟨c0,c1,c2,c3,c4,-⟩:=zb (HH.out.boxAt 1 rfl);obtain⟨d0,d1,d2,d3,d4,-⟩:=zb (HH.out.boxAt 0 rfl)) | (go_at_call 71;with_reducible refine cX HH (HPr.out _ HH.out.ext) ?_;clear HH;intro wo HH;clear c0 c1 c2 c3 c4 d0 d1 d2 d3 d4;obtain⟨c0,c1,c2,c3,c4,-⟩:=zb (HH.out.boxAt 1 rfl);obtain⟨d0,d1,d2,d3,d4,-⟩:=zb (HH.out.boxAt 0 rfl)))
    go_ret
    exact⟨rfl,HH.out.ext⟩
  ·have q1:(gu == gu2)=false:=by simp [h1]
   obtain rfl:V=false:=by rw [HV.out];simp [h1]
   clear HV
   go_wp2_with (first | (go_at_call 111;with_reducible refine cX HH (HBk.out _ HH.out.ext) ?_;clear HH;intro wb HH;clear c0 c1 c2 c3 c4 d0 d1 d2 d3 d4;obtain⟨c0,c1,c2,c3,c4,-⟩:=zb (HH.out.boxAt 1 rfl);obtain⟨d0,d1,d2,d3,d4,-⟩:=zb (HH.out.boxAt 0 rfl)) | (go_at_call 71;with_reducible refine cX HH (HPr.out _ HH.out.ext) ?_;clear HH;intro wo HH;clear c0 c1 c2 c3 c4 d0 d1 d2 d3 d4;obtain⟨c0,c1,c2,c3,c4,-⟩:=zb (HH.out.boxAt 1 rfl);obtain⟨d0,d1,d2,d3,d4,-⟩:=zb (HH.out.boxAt 0 rfl)))
   go_ret
   exact⟨rfl,HH.out.ext⟩
 ·have q0:=xy h0
  obtain rfl:V=false:=by rw [HV.out];simp [h0]
  clear HV
  go_wp2_with (first | (go_at_call 111;with_reducible refine cX HH (HBk.out _ HH.out.ext) ?_;clear HH;intro wb HH;clear c0 c1 c2 c3 c4 d0 d1 d2 d3 d4;obtain⟨c0,c1,c2,c3,c4,-⟩:=zb (HH.out.boxAt 1 rfl);obtain⟨d0,d1,d2,d3,d4,-⟩:=zb (HH.out.boxAt 0 rfl)) | (go_at_call 71;with_reducible refine cX HH (HPr.out _ HH.out.ext) ?_;clear HH;intro wo HH;clear c0 c1 c2 c3 c4 d0 d1 d2 d3 d4;obtain⟨c0,c1,c2,c3,c4,-⟩:=zb (HH.out.boxAt 1 rfl);obtain⟨d0,d1,d2,d3,d4,-⟩:=zb (HH.out.boxAt 0 rfl)))
  go_ret
  exact⟨rfl,HH.out.ext⟩
def abE:List Sna→List Sna→Bool
 | [], []=>true
 | x::xs,y::ys=>abl x y && abE xs ys
 | _,_=>false
theorem ahh: ∀(xs ys:List Sna) (k:Nat) (h:k < xs.length) (h2:k < ys.length),abl xs[k] ys[k]=false→abE xs ys=false
 | x::xs,y::ys,0,_,_,hq=>by
   have hq:abl x y=false:=hq
   rw [abE,hq];rfl
 | x::xs,y::ys,k+1,h,h2,hq=>by
   rw [abE,ahh xs ys k (by simpa using h) (by simpa using h2) hq,Bool.and_false]
theorem adX: ∀(xs ys:List Sna),xs.length=ys.length→(∀k (h:k < xs.length) (h2:k < ys.length),abl xs[k] ys[k]=true)→abE xs ys=true
 | [], [],_,_=>rfl
 | [],_::_,h,_=>by cases h
 | _::_, [],h,_=>by cases h
 | x::xs,y::ys,h,hq=>by
   have h0:abl x y=true:=hq 0 (by simp) (by simp)
   rw [abE,h0,adX xs ys (by simpa using h) (fun k h h2=>hq (k+1) (by simpa using h) (by simpa using h2))];rfl
def aaU(x y:Dst):Bool:=decide (x.path=y.path) && (decide (x.origin=y.origin) && (decide (x.snaps.n=y.snaps.n) && (decide (x.body.xs=y.body.xs) && (decide (x.own.xs=y.own.xs) && abE x.snaps.xs y.snaps.xs))))
theorem agE(w:World)(x y:Dst)(hx:Dst.At w 0 w.heap.size x)(hy:Dst.At w 0 w.heap.size y):
 Calls Tryz.prog 53 #[.agg x.cells.toArray,.agg y.cells.toArray] w fun e w'=>e= .returned (.bool (aaU x y))∧Ext w w':=by
 have HBk:=hiD (fun W (hW:Ext w W)=>adD W x.body.A y.body.A x.body.n y.body.n x.body.c y.body.c x.body.xs y.body.xs hx.body.len hy.body.len (Nat.le_trans hx.bodyS (by decide)) (Nat.le_trans hy.bodyS (by decide)) (Rd.at hx.body.rd hW (Nat.le_refl _)) (Rd.at hy.body.rd hW (Nat.le_refl _)))
 have HPr:=hiD (fun W (hW:Ext w W)=>ab1 W x.own.A y.own.A x.own.n y.own.n x.own.c y.own.c x.own.xs y.own.xs hx.own.len hy.own.len (Nat.le_trans hx.ownS (by decide)) (Nat.le_trans hy.ownS (by decide)) (Rd.at hx.own.rd hW (Nat.le_refl _)) (Rd.at hy.own.rd hW (Nat.le_refl _)))
 have HTx:=hiD hx.snaps
 have HTy:=hiD hy.snaps
 have hm:x.snaps.n≤9223372036854775807:=Nat.le_trans (Nat.le_trans hx.snaps.le hx.snaps.cap) (by decide)
 have hm2:y.snaps.n≤9223372036854775807:=Nat.le_trans (Nat.le_trans hy.snaps.le hy.snaps.cap) (by decide)
 have HV:=hiD (show aaU x y=(decide (x.path=y.path) && (decide (x.origin=y.origin) && (decide (x.snaps.n=y.snaps.n) && (decide (x.body.xs=y.body.xs) && (decide (x.own.xs=y.own.xs) && abE x.snaps.xs y.snaps.xs)))))from rfl)
 generalize aaU x y=V at *
 clear hx hy
 obtain⟨nm,gu,⟨bA,bn,bc,bd⟩,⟨tA,tn,tc,td⟩,⟨pA,pn,pc,pd⟩⟩:=x
 obtain⟨nm2,gu2,⟨eA,en,ec,ed⟩,⟨uA,tn2,uc,td2⟩,⟨rA,rn,rc,rd⟩⟩:=y
 dsimp only at HBk HPr HV hm hm2
 simp only [Dst.cells,Sl.val]
 generalize decide (bd=ed)=bs at *
 generalize decide (pd=rd)=ps at *
 go_enter Tryz.func53,Tryz.ntmps53
 go_upto_region 1 with fail
 generalize hwH:World.alloc (World.alloc w _) _=w1;have HH:=hiD (Heap.two hwH);clear hwH
 obtain⟨yb,hyb⟩: ∃b,b=w.heap.size+1:=⟨_,rfl⟩
 obtain⟨xb,hxb⟩: ∃b,b=w.heap.size:=⟨_,rfl⟩
 rw [←hyb,←hxb]at HH ⊢
 clear hyb hxb
 obtain⟨c0,c1,c2,c3,c4,-⟩:=zb (HH.out.boxAt 1 rfl)
 obtain⟨d0,d1,d2,d3,d4,-⟩:=zb (HH.out.boxAt 0 rfl)
 by_cases h0:nm=nm2
 ·subst h0
  have q0:=zM nm
  by_cases h1:gu=gu2
  ·subst h1
   have q1:=zM gu
   by_cases h2:tn=tn2
   ·subst h2
    cases bs with
    | false=>
      obtain rfl:V=false:=by rw [HV.out];simp [*]
      clear HV
      go_wp2_with (first | (go_at_call 111;with_reducible refine cX HH (HBk.out _ HH.out.ext) ?_;clear HH;intro wb HH;clear c0 c1 c2 c3 c4 d0 d1 d2 d3 d4;obtain⟨c0,c1,c2,c3,c4,-⟩:=zb (HH.out.boxAt 1 rfl);obtain⟨d0,d1,d2,d3,d4,-⟩:=zb (HH.out.boxAt 0 rfl)) | (go_at_call 71;with_reducible refine cX HH (HPr.out _ HH.out.ext) ?_;clear HH;intro wo HH;clear c0 c1 c2 c3 c4 d0 d1 d2 d3 d4;obtain⟨c0,c1,c2,c3,c4,-⟩:=zb (HH.out.boxAt 1 rfl);obtain⟨d0,d1,d2,d3,d4,-⟩:=zb (HH.out.boxAt 0 rfl)))
      go_ret
      exact⟨rfl,HH.out.ext⟩
    | true=>
      cases ps with
      | false=>
        obtain rfl:V=false:=by rw [HV.out];simp [*]
        clear HV
        go_wp2_with (first | (go_at_call 111;with_reducible refine cX HH (HBk.out _ HH.out.ext) ?_;clear HH;intro wb HH;clear c0 c1 c2 c3 c4 d0 d1 d2 d3 d4;obtain⟨c0,c1,c2,c3,c4,-⟩:=zb (HH.out.boxAt 1 rfl);obtain⟨d0,d1,d2,d3,d4,-⟩:=zb (HH.out.boxAt 0 rfl)) | (go_at_call 71;with_reducible refine cX HH (HPr.out _ HH.out.ext) ?_;clear HH;intro wo HH;clear c0 c1 c2 c3 c4 d0 d1 d2 d3 d4;obtain⟨c0,c1,c2,c3,c4,-⟩:=zb (HH.out.boxAt 1 rfl);obtain⟨d0,d1,d2,d3,d4,-⟩:=zb (HH.out.boxAt 0 rfl)))
        go_ret
        exact⟨rfl,HH.out.ext⟩
      | true=>
        have HV2:=hiD (show V=abE td td2 by rw [HV.out];simp)
        clear HV
        go_upto_region 3 with(first | (go_at_call 111;with_reducible refine cX HH (HBk.out _ HH.out.ext) ?_;clear HH;intro wb HH;clear c0 c1 c2 c3 c4 d0 d1 d2 d3 d4;obtain⟨c0,c1,c2,c3,c4,-⟩:=zb (HH.out.boxAt 1 rfl);obtain⟨d0,d1,d2,d3,d4,-⟩:=zb (HH.out.boxAt 0 rfl)) | (go_at_call 71;with_reducible refine cX HH (HPr.out _ HH.out.ext) ?_;clear HH;intro wo HH;clear c0 c1 c2 c3 c4 d0 d1 d2 d3 d4;obtain⟨c0,c1,c2,c3,c4,-⟩:=zb (HH.out.boxAt 1 rfl);obtain⟨d0,d1,d2,d3,d4,-⟩:=zb (HH.out.boxAt 0 rfl)))
        clear HBk HPr
        go_wp2_with fail
        have HH0:=HH
        clear HH c0 c1 c2 c3 c4 d0 d1 d2 d3 d4
        go_loopw [5] (fun v wr=> ∃k:Nat,k≤tn∧v= .int .i64 (k:Int)∧Hid (∀j (h:j < td.length) (h2:j < td2.length),j < k→abl td[j] td2[j]=true)∧Hid (Heap w [.box yb [.string nm,.string gu,.slice eA en ec,.slice uA tn uc,.slice rA rn rc],.box xb [.string nm,.string gu,.slice bA bn bc,.slice tA tn tc,.slice pA pn pc]] wr)) (fun v _=>tn - (intOf v).toNat)
        case atStart=>exact⟨0,Nat.zero_le _,rfl,hiD (fun j _ _ hj=>absurd hj (Nat.not_lt_zero _)),HH0⟩
        case round=>
         clear HH0
         obtain⟨k,hk,rfl,HK,HH⟩:=hrel
         by_cases hlt:k < tn
         ·have l1:k < td.length:=by rw [←HTx.out.len];exact hlt
          have l2:k < td2.length:=by rw [←HTy.out.len];exact hlt
          obtain⟨b1,o1,hA1,_,hb1,G1⟩:=zh (size:=5) (fun _=>rfl) (by omega) HTx.out.rd l1
          obtain⟨b2,o2,hA2,_,hb2,G2⟩:=zh (size:=5) (fun _=>rfl) (by omega) HTy.out.rd l2
          dsimp only at hA1 hA2
          subst hA1
          subst hA2
          have HT:=hiD (fun(he:abl td[k] td2[k]=true)=>show∀j (h:j < td.length) (h2:j < td2.length),j < k+1→abl td[j] td2[j]=true from fun j h h2 hj=>by
           rcases Nat.lt_or_ge j k with h3 | h3
           ·exact HK.out j h h2 h3
           ·obtain rfl:j=k:=by omega
            exact he)
          have HN:=hiD (ahh td td2 k l1 l2)
          have HSn:=hiD (fun W (hW:Ext w W)=>aht W td[k] td2[k] (Sna.At.on (HTx.out.all _ (List.getElem_mem l1)) hW (Nat.le_refl _)) (Sna.At.on (HTy.out.all _ (List.getElem_mem l2)) hW (Nat.le_refl _)))
          have HF:=hiD (fun W (hW:Heap w [.box yb [.string nm,.string gu,.slice eA en ec,.slice (some ⟨b2,o2,none⟩) tn uc,.slice rA rn rc],.box xb [.string nm,.string gu,.slice bA bn bc,.slice (some ⟨b1,o1,none⟩) tn tc,.slice pA pn pc]] W) i u hu=>(Below.cell hW.ext hb1).trans (G1 i u hu))
          have HG:=hiD (fun W (hW:Heap w [.box yb [.string nm,.string gu,.slice eA en ec,.slice (some ⟨b2,o2,none⟩) tn uc,.slice rA rn rc],.box xb [.string nm,.string gu,.slice bA bn bc,.slice (some ⟨b1,o1,none⟩) tn tc,.slice pA pn pc]] W) i u hu=>(Below.cell hW.ext hb2).trans (G2 i u hu))
          clear G1 G2
          generalize td[k]=x at *
          generalize td2[k]=y at *
          generalize abl x y=sq at *
          obtain⟨xa,xb9,⟨x1,x2,x3,x4⟩,⟨x5,x6,x7,x8⟩,⟨x9,x10,x11,x12⟩⟩:=x
          obtain⟨ya,yb9,⟨y1,y2,y3,y4⟩,⟨y5,y6,y7,y8⟩,⟨y9,y10,y11,y12⟩⟩:=y
          simp only [Sna.cells,Sl.val]at HSn HF HG
          have hkn:(k:Int) < (tn:Int):=by omega
          go_upto_region 6 with(refine l1X HH 1 ?_)
          have HHd:=hiD (show Heap w [.box yb [.string nm,.string gu,.slice eA en ec,.slice (some ⟨b2,o2,none⟩) tn uc,.slice rA rn rc],.box xb [.string nm,.string gu,.slice bA bn bc,.slice (some ⟨b1,o1,none⟩) tn tc,.slice pA pn pc]] (World.drew wr)from HH.out.drew)
          clear HH
          refine wp_region_held_drew (S:=Heap w [.box yb [.string nm,.string gu,.slice eA en ec,.slice (some ⟨b2,o2,none⟩) tn uc,.slice rA rn rc],.box xb [.string nm,.string gu,.slice bA bn bc,.slice (some ⟨b1,o1,none⟩) tn tc,.slice pA pn pc]]) (by kernel_rfl) HHd.out (fun hHeld=>?_)
          generalize World.drew _=wd at *
          refine tW 0 1 ?_
          refine tH 1 1 ?_
          refine tW 2 2 ?_
          refine tG 4 rfl (fun wT hST=>qm (HF.out wT hST) rfl aaj (by kernel_rfl) rfl rfl) hHeld ?_;refine lyX ?_
          refine tW 5 1 ?_
          refine tH 6 0 ?_
          refine tW 7 2 ?_
          refine tG 9 rfl (fun wT hST=>qm (HG.out wT hST) rfl aaj (by kernel_rfl) rfl rfl) hHeld ?_;refine lyX ?_
          clear hHeld HF HG
          refine oS 10 (fun K hK=>?_)
          go_simp
          refine cX HHd (HSn.out _ HHd.out.ext) ?_
          clear HHd
          intro w5 HH5
          go_wp2_with fail
          refine hK.out _ _ (HH5).out (fun hHeld=>?_)
          clear hK K
          refine lyX ?_
          cases sq with
          | true=>
            have HK2:=hiD (HT.out rfl)
            clear HT HN
            refine tW 11 1 ?_
            refine dnX ?_
            clear hHeld
            go_wp2_with fail
            go_roundw
            case rel=>exact⟨k+1,by omega,by go_num,HK2,HH5⟩
            case measure=>(first | (simp [intOf];done) | (simp [intOf];omega))
          | false=>
            obtain rfl:V=false:=by rw [HV2.out];exact HN.out rfl
            clear HT HN
            refine tW 11 1 ?_
            refine dnX ?_
            clear hHeld
            go_wp2_with fail
            go_ret
            exact⟨rfl,HH5.out.ext⟩
         ·obtain rfl:k=tn:=by omega
          have HF:=hiD (show V=true from HV2.out.trans (adX td td2 (by rw [←HTx.out.len,←HTy.out.len]) (fun j h h2=>HK.out j h h2 (by have:=HTx.out.len;dsimp only at this;omega))))
          clear HV2
          go_wp2_with (refine l1X HH 1 ?_)
          go_ret
          exact⟨by rw [HF.out];rfl,HH.out.ext⟩
   ·have q2:((tn:Int) == (tn2:Int))=false:=by rw [beq_eq_false_iff_ne];omega
    obtain rfl:V=false:=by rw [HV.out];simp [h2]
    clear HV
    go_wp2_with (first | (go_at_call 111;with_reducible refine cX HH (HBk.out _ HH.out.ext) ?_;clear HH;intro wb HH;clear c0 c1 c2 c3 c4 d0 d1 d2 d3 d4;obtain⟨c0,c1,c2,c3,c4,-⟩:=zb (HH.out.boxAt 1 rfl);obtain⟨d0,d1,d2,d3,d4,-⟩:=zb (HH.out.boxAt 0 rfl)) | (go_at_call 71;with_reducible refine cX HH (HPr.out _ HH.out.ext) ?_;clear HH;intro wo HH;clear c0 c1 c2 c3 c4 d0 d1 d2 d3 d4;obtain⟨c0,c1,c2,c3,c4,-⟩:=zb (HH.out.boxAt 1 rfl);obtain⟨d0,d1,d2,d3,d4,-⟩:=zb (HH.out.boxAt 0 rfl)))
    go_ret
    exact⟨rfl,HH.out.ext⟩
  ·have q1:=xy h1
   obtain rfl:V=false:=by rw [HV.out];simp [h1]
   clear HV
   go_wp2_with (first | (go_at_call 111;with_reducible refine cX HH (HBk.out _ HH.out.ext) ?_;clear HH;intro wb HH;clear c0 c1 c2 c3 c4 d0 d1 d2 d3 d4;obtain⟨c0,c1,c2,c3,c4,-⟩:=zb (HH.out.boxAt 1 rfl);obtain⟨d0,d1,d2,d3,d4,-⟩:=zb (HH.out.boxAt 0 rfl)) | (go_at_call 71;with_reducible refine cX HH (HPr.out _ HH.out.ext) ?_;clear HH;intro wo HH;clear c0 c1 c2 c3 c4 d0 d1 d2 d3 d4;obtain⟨c0,c1,c2,c3,c4,-⟩:=zb (HH.out.boxAt 1 rfl);obtain⟨d0,d1,d2,d3,d4,-⟩:=zb (HH.out.boxAt 0 rfl)))
   go_ret
   exact⟨rfl,HH.out.ext⟩
 ·have q0:=xy h0
  obtain rfl:V=false:=by rw [HV.out];simp [h0]
  clear HV
  go_wp2_with (first | (go_at_call 111;with_reducible refine cX HH (HBk.out _ HH.out.ext) ?_;clear HH;intro wb HH;clear c0 c1 c2 c3 c4 d0 d1 d2 d3 d4;obtain⟨c0,c1,c2,c3,c4,-⟩:=zb (HH.out.boxAt 1 rfl);obtain⟨d0,d1,d2,d3,d4,-⟩:=zb (HH.out.boxAt 0 rfl)) | (go_at_call 71;with_reducible refine cX HH (HPr.out _ HH.out.ext) ?_;clear HH;intro wo HH;clear c0 c1 c2 c3 c4 d0 d1 d2 d3 d4;obtain⟨c0,c1,c2,c3,c4,-⟩:=zb (HH.out.boxAt 1 rfl);obtain⟨d0,d1,d2,d3,d4,-⟩:=zb (HH.out.boxAt 0 rfl)))
  go_ret
  exact⟨rfl,HH.out.ext⟩
theorem Stg.At.okk{w:World}{x:Stg}(h:Stg.At w 0 w.heap.size x):x.ok w:=
 ⟨Nat.le_trans h.into (by decide),h.beg,h.begR,Nat.le_trans h.begN (by decide),h.begS,h.bodyN,Nat.le_trans h.bodyM (by decide),h.bodyR,h.bodyW,akA h.pos,akA h.next,h.su⟩
def aaW{α:Type}(p:α→α→Bool):List α→List α→Bool
 | [], []=>true
 | x::xs,y::ys=>p x y && aaW p xs ys
 | _,_=>false
theorem afA{α:Type}(p:α→α→Bool): ∀(xs ys:List α) (k:Nat) (h:k < xs.length) (h2:k < ys.length),p xs[k] ys[k]=false→aaW p xs ys=false
 | x::xs,y::ys,0,_,_,hq=>by
   have hq:p x y=false:=hq
   rw [aaW,hq];rfl
 | x::xs,y::ys,k+1,h,h2,hq=>by
   rw [aaW,afA p xs ys k (by simpa using h) (by simpa using h2) hq,Bool.and_false]
theorem acf{α:Type}(p:α→α→Bool): ∀(xs ys:List α),xs.length=ys.length→(∀k (h:k < xs.length) (h2:k < ys.length),p xs[k] ys[k]=true)→aaW p xs ys=true
 | [], [],_,_=>rfl
 | [],_::_,h,_=>by cases h
 | _::_, [],h,_=>by cases h
 | x::xs,y::ys,h,hq=>by
   have h0:p x y=true:=hq 0 (by simp) (by simp)
   rw [aaW,h0,acf p xs ys (by simpa using h) (fun k h h2=>hq (k+1) (by simpa using h) (by simpa using h2))];rfl
def agD(x y:Tnt):Bool:=decide (x.name=y.name) && (decide (x.quota=y.quota) && (decide (x.next=y.next) && (decide (x.sets.n=y.sets.n) && (decide (x.stages.n=y.stages.n) && (decide (x.grants.xs=y.grants.xs) && (decide (x.log.xs=y.log.xs) && (aaW aaU x.sets.xs y.sets.xs && aaW qV x.stages.xs y.stages.xs)))))))
theorem aeC(w:World)(x y:Tnt)(hx:Tnt.At w 0 w.heap.size x)(hy:Tnt.At w 0 w.heap.size y):
 Calls Tryz.prog 18 #[.agg x.cells.toArray,.agg y.cells.toArray] w fun e w'=>e= .returned (.bool (agD x y))∧Ext w w':=by
 have HGr:=hiD (fun W (hW:Ext w W)=>ahC W x.grants y.grants (yG hx.grants hW (Nat.le_refl _) fun _ _=>trivial) (yG hy.grants hW (Nat.le_refl _) fun _ _=>trivial))
 have HLg:=hiD (fun W (hW:Ext w W)=>aeg W x.log y.log (yG hx.log hW (Nat.le_refl _) fun _ _=>trivial) (yG hy.log hW (Nat.le_refl _) fun _ _=>trivial))
 have HSx:=hiD hx.sets
 have HSy:=hiD hy.sets
 have HAx:=hiD hx.stages
 have HAy:=hiD hy.stages
 have hm1:x.sets.n≤9223372036854775807:=Nat.le_trans (Nat.le_trans hx.sets.le hx.sets.cap) (by decide)
 have hm2:y.sets.n≤9223372036854775807:=Nat.le_trans (Nat.le_trans hy.sets.le hy.sets.cap) (by decide)
 have hm3:x.stages.n≤9223372036854775807:=Nat.le_trans (Nat.le_trans hx.stages.le hx.stages.cap) (by decide)
 have hm4:y.stages.n≤9223372036854775807:=Nat.le_trans (Nat.le_trans hy.stages.le hy.stages.cap) (by decide)
 have HV:=hiD (show agD x y=(decide (x.name=y.name) && (decide (x.quota=y.quota) && (decide (x.next=y.next) && (decide (x.sets.n=y.sets.n) && (decide (x.stages.n=y.stages.n) && (decide (x.grants.xs=y.grants.xs) && (decide (x.log.xs=y.log.xs) && (aaW aaU x.sets.xs y.sets.xs && aaW qV x.stages.xs y.stages.xs))))))))from rfl)
 generalize agD x y=V at *
 clear hx hy
 obtain⟨nm,qu,ne,⟨sA,sn,sc,ss⟩,⟨gA,gn,gc,g9⟩,⟨aA,an,ac,ax⟩,⟨lA,ln,lc,l9⟩⟩:=x
 obtain⟨nm2,qu2,ne2,⟨uA,sn2,uc,st⟩,⟨hA,hn,hc,h9⟩,⟨vA,an2,vc,ay⟩,⟨mA,mn,mc,m9⟩⟩:=y
 dsimp only at HV hm1 hm2 hm3 hm4
 simp only [Sl.val]at HGr HLg
 (try dsimp only at HGr)
 (try dsimp only at HLg)
 simp only [Tnt.cells,Sl.val]
 generalize decide (g9=h9)=gs at *
 generalize decide (l9=m9)=lg at *
 go_enter Tryz.func18,Tryz.ntmps18
 go_upto_region 1 with fail
 generalize hwH:World.alloc (World.alloc w _) _=w1;have HH:=hiD (Heap.two hwH);clear hwH
 obtain⟨yb,hyb⟩: ∃b,b=w.heap.size+1:=⟨_,rfl⟩
 obtain⟨xb,hxb⟩: ∃b,b=w.heap.size:=⟨_,rfl⟩
 rw [←hyb,←hxb]at HH ⊢
 clear hyb hxb
 obtain⟨c0,c1,c2,c3,c4,c5,c6,-⟩:=za (HH.out.boxAt 1 rfl)
 obtain⟨d0,d1,d2,d3,d4,d5,d6,-⟩:=za (HH.out.boxAt 0 rfl)
 by_cases h0:nm=nm2
 ·subst h0
  have q0:=zM nm
  by_cases h1:qu=qu2
  ·subst h1
   by_cases h2:ne=ne2
   ·subst h2
    by_cases h3:sn=sn2
    ·subst h3
     by_cases h4:an=an2
     ·subst h4
      cases gs with
      | false=>
        obtain rfl:V=false:=by rw [HV.out];simp [*]
        clear HV
        go_wp2_with (first | (go_at_call 51;with_reducible refine cX HH (HGr.out _ HH.out.ext) ?_;clear HH;intro wb HH;clear c0 c1 c2 c3 c4 c5 c6 d0 d1 d2 d3 d4 d5 d6;obtain⟨c0,c1,c2,c3,c4,c5,c6,-⟩:=za (HH.out.boxAt 1 rfl);obtain⟨d0,d1,d2,d3,d4,d5,d6,-⟩:=za (HH.out.boxAt 0 rfl)) | (go_at_call 52;with_reducible refine cX HH (HLg.out _ HH.out.ext) ?_;clear HH;intro wo HH;clear c0 c1 c2 c3 c4 c5 c6 d0 d1 d2 d3 d4 d5 d6;obtain⟨c0,c1,c2,c3,c4,c5,c6,-⟩:=za (HH.out.boxAt 1 rfl);obtain⟨d0,d1,d2,d3,d4,d5,d6,-⟩:=za (HH.out.boxAt 0 rfl)))
        go_ret
        exact⟨rfl,HH.out.ext⟩
      | true=>
        cases lg with
        | false=>
          obtain rfl:V=false:=by rw [HV.out];simp [*]
          clear HV
          go_wp2_with (first | (go_at_call 51;with_reducible refine cX HH (HGr.out _ HH.out.ext) ?_;clear HH;intro wb HH;clear c0 c1 c2 c3 c4 c5 c6 d0 d1 d2 d3 d4 d5 d6;obtain⟨c0,c1,c2,c3,c4,c5,c6,-⟩:=za (HH.out.boxAt 1 rfl);obtain⟨d0,d1,d2,d3,d4,d5,d6,-⟩:=za (HH.out.boxAt 0 rfl)) | (go_at_call 52;with_reducible refine cX HH (HLg.out _ HH.out.ext) ?_;clear HH;intro wo HH;clear c0 c1 c2 c3 c4 c5 c6 d0 d1 d2 d3 d4 d5 d6;obtain⟨c0,c1,c2,c3,c4,c5,c6,-⟩:=za (HH.out.boxAt 1 rfl);obtain⟨d0,d1,d2,d3,d4,d5,d6,-⟩:=za (HH.out.boxAt 0 rfl)))
          go_ret
          exact⟨rfl,HH.out.ext⟩
        | true=>
          have HV2:=hiD (show V=(aaW aaU ss st && aaW qV ax ay)by rw [HV.out];simp)
          clear HV
          go_upto_region 3 with(first | (go_at_call 51;with_reducible refine cX HH (HGr.out _ HH.out.ext) ?_;clear HH;intro wb HH;clear c0 c1 c2 c3 c4 c5 c6 d0 d1 d2 d3 d4 d5 d6;obtain⟨c0,c1,c2,c3,c4,c5,c6,-⟩:=za (HH.out.boxAt 1 rfl);obtain⟨d0,d1,d2,d3,d4,d5,d6,-⟩:=za (HH.out.boxAt 0 rfl)) | (go_at_call 52;with_reducible refine cX HH (HLg.out _ HH.out.ext) ?_;clear HH;intro wo HH;clear c0 c1 c2 c3 c4 c5 c6 d0 d1 d2 d3 d4 d5 d6;obtain⟨c0,c1,c2,c3,c4,c5,c6,-⟩:=za (HH.out.boxAt 1 rfl);obtain⟨d0,d1,d2,d3,d4,d5,d6,-⟩:=za (HH.out.boxAt 0 rfl)))
          clear HGr HLg
          go_wp2_with fail
          have HH0:=HH
          clear HH c0 c1 c2 c3 c4 c5 c6 d0 d1 d2 d3 d4 d5 d6
          go_loopw [5] (fun v wr=> ∃k:Nat,k≤sn∧v= .int .i64 (k:Int)∧Hid (∀j (h:j < ss.length) (h2:j < st.length),j < k→aaU ss[j] st[j]=true)∧Hid (Heap w [.box yb [.string nm,.int .i64 qu,.int .i64 ne,.slice uA sn uc,.slice hA hn hc,.slice vA an vc,.slice mA mn mc],.box xb [.string nm,.int .i64 qu,.int .i64 ne,.slice sA sn sc,.slice gA gn gc,.slice aA an ac,.slice lA ln lc]] wr)) (fun v _=>sn - (intOf v).toNat)
          case atStart=>exact⟨0,Nat.zero_le _,rfl,hiD (fun j _ _ hj=>absurd hj (Nat.not_lt_zero _)),HH0⟩
          case round=>
           clear HH0
           obtain⟨k,hk,rfl,HK,HH⟩:=hrel
           by_cases hlt:k < sn
           ·have l1:k < ss.length:=by rw [←HSx.out.len];exact hlt
            have l2:k < st.length:=by rw [←HSy.out.len];exact hlt
            obtain⟨b1,o1,hA1,_,hb1,G1⟩:=zh (size:=5) (fun _=>rfl) (by omega) HSx.out.rd l1
            obtain⟨b2,o2,hA2,_,hb2,G2⟩:=zh (size:=5) (fun _=>rfl) (by omega) HSy.out.rd l2
            dsimp only at hA1 hA2
            subst hA1
            subst hA2
            have HT:=hiD (fun(he:aaU ss[k] st[k]=true)=>show∀j (h:j < ss.length) (h2:j < st.length),j < k+1→aaU ss[j] st[j]=true from fun j h h2 hj=>by
             rcases Nat.lt_or_ge j k with h3 | h3
             ·exact HK.out j h h2 h3
             ·obtain rfl:j=k:=by omega
              exact he)
            have HN:=hiD (afA aaU ss st k l1 l2)
            have HSn:=hiD (fun W (hW:Ext w W)=>agE W ss[k] st[k] (Dst.At.on (HSx.out.all _ (List.getElem_mem l1)) hW (Nat.le_refl _)) (Dst.At.on (HSy.out.all _ (List.getElem_mem l2)) hW (Nat.le_refl _)))
            have HF:=hiD (fun W (hW:Heap w [.box yb [.string nm,.int .i64 qu,.int .i64 ne,.slice (some ⟨b2,o2,none⟩) sn uc,.slice hA hn hc,.slice vA an vc,.slice mA mn mc],.box xb [.string nm,.int .i64 qu,.int .i64 ne,.slice (some ⟨b1,o1,none⟩) sn sc,.slice gA gn gc,.slice aA an ac,.slice lA ln lc]] W) i u hu=>(Below.cell hW.ext hb1).trans (G1 i u hu))
            have HG:=hiD (fun W (hW:Heap w [.box yb [.string nm,.int .i64 qu,.int .i64 ne,.slice (some ⟨b2,o2,none⟩) sn uc,.slice hA hn hc,.slice vA an vc,.slice mA mn mc],.box xb [.string nm,.int .i64 qu,.int .i64 ne,.slice (some ⟨b1,o1,none⟩) sn sc,.slice gA gn gc,.slice aA an ac,.slice lA ln lc]] W) i u hu=>(Below.cell hW.ext hb2).trans (G2 i u hu))
            clear G1 G2
            generalize ss[k]=x at *
            generalize st[k]=y at *
            generalize aaU x y=sq at *
            have hkn:(k:Int) < (sn:Int):=by omega
            go_upto_region 6 with(refine l1X HH 1 ?_)
            have HHd:=hiD (show Heap w [.box yb [.string nm,.int .i64 qu,.int .i64 ne,.slice (some ⟨b2,o2,none⟩) sn uc,.slice hA hn hc,.slice vA an vc,.slice mA mn mc],.box xb [.string nm,.int .i64 qu,.int .i64 ne,.slice (some ⟨b1,o1,none⟩) sn sc,.slice gA gn gc,.slice aA an ac,.slice lA ln lc]] (World.drew wr)from HH.out.drew)
            clear HH
            refine wp_region_held_drew (S:=Heap w [.box yb [.string nm,.int .i64 qu,.int .i64 ne,.slice (some ⟨b2,o2,none⟩) sn uc,.slice hA hn hc,.slice vA an vc,.slice mA mn mc],.box xb [.string nm,.int .i64 qu,.int .i64 ne,.slice (some ⟨b1,o1,none⟩) sn sc,.slice gA gn gc,.slice aA an ac,.slice lA ln lc]]) (by kernel_rfl) HHd.out (fun hHeld=>?_)
            generalize World.drew _=wd at *
            refine tW 0 1 ?_
            refine tH 1 1 ?_
            refine tW 2 2 ?_
            refine tG 4 rfl (fun wT hST=>qm (HF.out wT hST) rfl xq (by kernel_rfl) rfl rfl) hHeld ?_;refine lyX ?_
            refine tW 5 1 ?_
            refine tH 6 0 ?_
            refine tW 7 2 ?_
            refine tG 9 rfl (fun wT hST=>qm (HG.out wT hST) rfl xq (by kernel_rfl) rfl rfl) hHeld ?_;refine lyX ?_
            clear hHeld HF HG
            refine oS 10 (fun K hK=>?_)
            (try go_simp)
            refine cX HHd (HSn.out _ HHd.out.ext) ?_
            clear HHd
            intro w5 HH5
            go_wp2_with fail
            refine hK.out _ _ (HH5).out (fun hHeld=>?_)
            clear hK K
            refine lyX ?_
            cases sq with
            | true=>
              have HK2:=hiD (HT.out rfl)
              clear HT HN
              refine tW 11 1 ?_
              refine dnX ?_
              clear hHeld
              go_wp2_with fail
              go_roundw
              case rel=>exact⟨k+1,by omega,by go_num,HK2,HH5⟩
              case measure=>(first | (simp [intOf];done) | (simp [intOf];omega))
            | false=>
              obtain rfl:V=false:=by rw [HV2.out,HN.out rfl];(try simp)
              clear HT HN
              refine tW 11 1 ?_
              refine dnX ?_
              clear hHeld
              go_wp2_with fail
              go_ret
              exact⟨rfl,HH5.out.ext⟩
           ·have hks:sn=k:=by omega
            subst hks
            have HV3:=hiD (show V=aaW qV ax ay by
             have q:=acf aaU ss st (by rw [←HSx.out.len,←HSy.out.len]) (fun j h h2=>HK.out j h h2 (by have:=HSx.out.len;dsimp only at this;omega))
             rw [HV2.out,q,Bool.true_and])
            clear HV2
            have HV2:=HV3
            clear HV3 HK hlt
            go_wp2_with (refine l1X HH 1 ?_)
            have HH0:=HH
            clear HH
            go_loopw [6] (fun v wr=> ∃k:Nat,k≤an∧v= .int .i64 (k:Int)∧Hid (∀j (h:j < ax.length) (h2:j < ay.length),j < k→qV ax[j] ay[j]=true)∧Hid (Heap w [.box yb [.string nm,.int .i64 qu,.int .i64 ne,.slice uA sn uc,.slice hA hn hc,.slice vA an vc,.slice mA mn mc],.box xb [.string nm,.int .i64 qu,.int .i64 ne,.slice sA sn sc,.slice gA gn gc,.slice aA an ac,.slice lA ln lc]] wr)) (fun v _=>an - (intOf v).toNat)
            case atStart=>exact⟨0,Nat.zero_le _,rfl,hiD (fun j _ _ hj=>absurd hj (Nat.not_lt_zero _)),HH0⟩
            case round=>
             clear HH0
             obtain⟨k,hk,rfl,HK,HH⟩:=hrel
             by_cases hlt:k < an
             ·have l1:k < ax.length:=by rw [←HAx.out.len];exact hlt
              have l2:k < ay.length:=by rw [←HAy.out.len];exact hlt
              obtain⟨b1,o1,hA1,_,hb1,G1⟩:=zh (size:=21) (fun _=>rfl) (by omega) HAx.out.rd l1
              obtain⟨b2,o2,hA2,_,hb2,G2⟩:=zh (size:=21) (fun _=>rfl) (by omega) HAy.out.rd l2
              dsimp only at hA1 hA2
              subst hA1
              subst hA2
              have HT:=hiD (fun(he:qV ax[k] ay[k]=true)=>show∀j (h:j < ax.length) (h2:j < ay.length),j < k+1→qV ax[j] ay[j]=true from fun j h h2 hj=>by
               rcases Nat.lt_or_ge j k with h3 | h3
               ·exact HK.out j h h2 h3
               ·obtain rfl:j=k:=by omega
                exact he)
              have HN:=hiD (afA qV ax ay k l1 l2)
              have HSn:=hiD (fun W (hW:Ext w W)=>agp W ax[k] ay[k] (Stg.ok.rd (Stg.At.okk (Stg.At.on (HAx.out.all _ (List.getElem_mem l1)) hW (Nat.le_refl _)))) (Stg.ok.rd (Stg.At.okk (Stg.At.on (HAy.out.all _ (List.getElem_mem l2)) hW (Nat.le_refl _)))))
              have HF:=hiD (fun W (hW:Heap w [.box yb [.string nm,.int .i64 qu,.int .i64 ne,.slice uA sn uc,.slice hA hn hc,.slice (some ⟨b2,o2,none⟩) an vc,.slice mA mn mc],.box xb [.string nm,.int .i64 qu,.int .i64 ne,.slice sA sn sc,.slice gA gn gc,.slice (some ⟨b1,o1,none⟩) an ac,.slice lA ln lc]] W) i u hu=>(Below.cell hW.ext hb1).trans (G1 i u hu))
              have HG:=hiD (fun W (hW:Heap w [.box yb [.string nm,.int .i64 qu,.int .i64 ne,.slice uA sn uc,.slice hA hn hc,.slice (some ⟨b2,o2,none⟩) an vc,.slice mA mn mc],.box xb [.string nm,.int .i64 qu,.int .i64 ne,.slice sA sn sc,.slice gA gn gc,.slice (some ⟨b1,o1,none⟩) an ac,.slice lA ln lc]] W) i u hu=>(Below.cell hW.ext hb2).trans (G2 i u hu))
              clear G1 G2
              generalize ax[k]=x at *
              generalize ay[k]=y at *
              generalize qV x y=sq at *
              have hkn:(k:Int) < (an:Int):=by omega
              go_upto_region 11 with(refine l1X HH 1 ?_)
              have HHd:=hiD (show Heap w [.box yb [.string nm,.int .i64 qu,.int .i64 ne,.slice uA sn uc,.slice hA hn hc,.slice (some ⟨b2,o2,none⟩) an vc,.slice mA mn mc],.box xb [.string nm,.int .i64 qu,.int .i64 ne,.slice sA sn sc,.slice gA gn gc,.slice (some ⟨b1,o1,none⟩) an ac,.slice lA ln lc]] (World.drew wr)from HH.out.drew)
              clear HH
              refine wp_region_held_drew (S:=Heap w [.box yb [.string nm,.int .i64 qu,.int .i64 ne,.slice uA sn uc,.slice hA hn hc,.slice (some ⟨b2,o2,none⟩) an vc,.slice mA mn mc],.box xb [.string nm,.int .i64 qu,.int .i64 ne,.slice sA sn sc,.slice gA gn gc,.slice (some ⟨b1,o1,none⟩) an ac,.slice lA ln lc]]) (by kernel_rfl) HHd.out (fun hHeld=>?_)
              generalize World.drew _=wd at *
              refine tW 0 1 ?_
              refine tH 1 1 ?_
              refine tW 2 2 ?_
              refine tG 4 rfl (fun wT hST=>qm (HF.out wT hST) rfl xT (by kernel_rfl) rfl rfl) hHeld ?_;refine lyX ?_
              refine tW 5 1 ?_
              refine tH 6 0 ?_
              refine tW 7 2 ?_
              refine tG 9 rfl (fun wT hST=>qm (HG.out wT hST) rfl xT (by kernel_rfl) rfl rfl) hHeld ?_;refine lyX ?_
              clear hHeld HF HG
              refine oS 10 (fun K hK=>?_)
              (try go_simp)
              refine cX HHd (HSn.out _ HHd.out.ext) ?_
              clear HHd
              intro w5 HH5
              go_wp2_with fail
              refine hK.out _ _ (HH5).out (fun hHeld=>?_)
              clear hK K
              refine lyX ?_
              cases sq with
              | true=>
                have HK2:=hiD (HT.out rfl)
                clear HT HN
                refine tW 11 1 ?_
                refine dnX ?_
                clear hHeld
                go_wp2_with fail
                go_roundw
                case rel=>exact⟨k+1,by omega,by go_num,HK2,HH5⟩
                case measure=>(first | (simp [intOf];done) | (simp [intOf];omega))
              | false=>
                obtain rfl:V=false:=by rw [HV2.out,HN.out rfl];(try simp)
                clear HT HN
                refine tW 11 1 ?_
                refine dnX ?_
                clear hHeld
                go_wp2_with fail
                go_ret
                exact⟨rfl,HH5.out.ext⟩
             ·have hks:an=k:=by omega
              subst hks
              have HF:=hiD (show V=true by
               have q:=acf qV ax ay (by rw [←HAx.out.len,←HAy.out.len]) (fun j h h2=>HK.out j h h2 (by have:=HAx.out.len;dsimp only at this;omega))
               rw [HV2.out,q])
              clear HV2
              go_wp2_with (refine l1X HH 1 ?_)
              go_ret
              exact⟨by rw [HF.out];rfl,HH.out.ext⟩
     ·have q4:((an:Int) == (an2:Int))=false:=by rw [beq_eq_false_iff_ne];omega
      obtain rfl:V=false:=by rw [HV.out];simp [h4]
      clear HV
      go_wp2_with (first | (go_at_call 51;with_reducible refine cX HH (HGr.out _ HH.out.ext) ?_;clear HH;intro wb HH;clear c0 c1 c2 c3 c4 c5 c6 d0 d1 d2 d3 d4 d5 d6;obtain⟨c0,c1,c2,c3,c4,c5,c6,-⟩:=za (HH.out.boxAt 1 rfl);obtain⟨d0,d1,d2,d3,d4,d5,d6,-⟩:=za (HH.out.boxAt 0 rfl)) | (go_at_call 52;with_reducible refine cX HH (HLg.out _ HH.out.ext) ?_;clear HH;intro wo HH;clear c0 c1 c2 c3 c4 c5 c6 d0 d1 d2 d3 d4 d5 d6;obtain⟨c0,c1,c2,c3,c4,c5,c6,-⟩:=za (HH.out.boxAt 1 rfl);obtain⟨d0,d1,d2,d3,d4,d5,d6,-⟩:=za (HH.out.boxAt 0 rfl)))
      go_ret
      exact⟨rfl,HH.out.ext⟩
    ·have q3:((sn:Int) == (sn2:Int))=false:=by rw [beq_eq_false_iff_ne];omega
     obtain rfl:V=false:=by rw [HV.out];simp [h3]
     clear HV
     go_wp2_with (first | (go_at_call 51;with_reducible refine cX HH (HGr.out _ HH.out.ext) ?_;clear HH;intro wb HH;clear c0 c1 c2 c3 c4 c5 c6 d0 d1 d2 d3 d4 d5 d6;obtain⟨c0,c1,c2,c3,c4,c5,c6,-⟩:=za (HH.out.boxAt 1 rfl);obtain⟨d0,d1,d2,d3,d4,d5,d6,-⟩:=za (HH.out.boxAt 0 rfl)) | (go_at_call 52;with_reducible refine cX HH (HLg.out _ HH.out.ext) ?_;clear HH;intro wo HH;clear c0 c1 c2 c3 c4 c5 c6 d0 d1 d2 d3 d4 d5 d6;obtain⟨c0,c1,c2,c3,c4,c5,c6,-⟩:=za (HH.out.boxAt 1 rfl);obtain⟨d0,d1,d2,d3,d4,d5,d6,-⟩:=za (HH.out.boxAt 0 rfl)))
     go_ret
     exact⟨rfl,HH.out.ext⟩
   ·have q2:(ne == ne2)=false:=by simp [h2]
    obtain rfl:V=false:=by rw [HV.out];simp [h2]
    clear HV
    go_wp2_with (first | (go_at_call 51;with_reducible refine cX HH (HGr.out _ HH.out.ext) ?_;clear HH;intro wb HH;clear c0 c1 c2 c3 c4 c5 c6 d0 d1 d2 d3 d4 d5 d6;obtain⟨c0,c1,c2,c3,c4,c5,c6,-⟩:=za (HH.out.boxAt 1 rfl);obtain⟨d0,d1,d2,d3,d4,d5,d6,-⟩:=za (HH.out.boxAt 0 rfl)) | (go_at_call 52;with_reducible refine cX HH (HLg.out _ HH.out.ext) ?_;clear HH;intro wo HH;clear c0 c1 c2 c3 c4 c5 c6 d0 d1 d2 d3 d4 d5 d6;obtain⟨c0,c1,c2,c3,c4,c5,c6,-⟩:=za (HH.out.boxAt 1 rfl);obtain⟨d0,d1,d2,d3,d4,d5,d6,-⟩:=za (HH.out.boxAt 0 rfl)))
    go_ret
    exact⟨rfl,HH.out.ext⟩
  ·have q1:(qu == qu2)=false:=by simp [h1]
   obtain rfl:V=false:=by rw [HV.out];simp [h1]
   clear HV
   go_wp2_with (first | (go_at_call 51;with_reducible refine cX HH (HGr.out _ HH.out.ext) ?_;clear HH;intro wb HH;clear c0 c1 c2 c3 c4 c5 c6 d0 d1 d2 d3 d4 d5 d6;obtain⟨c0,c1,c2,c3,c4,c5,c6,-⟩:=za (HH.out.boxAt 1 rfl);obtain⟨d0,d1,d2,d3,d4,d5,d6,-⟩:=za (HH.out.boxAt 0 rfl)) | (go_at_call 52;with_reducible refine cX HH (HLg.out _ HH.out.ext) ?_;clear HH;intro wo HH;clear c0 c1 c2 c3 c4 c5 c6 d0 d1 d2 d3 d4 d5 d6;obtain⟨c0,c1,c2,c3,c4,c5,c6,-⟩:=za (HH.out.boxAt 1 rfl);obtain⟨d0,d1,d2,d3,d4,d5,d6,-⟩:=za (HH.out.boxAt 0 rfl)))
   go_ret
   exact⟨rfl,HH.out.ext⟩
 ·have q0:=xy h0
  obtain rfl:V=false:=by rw [HV.out];simp [h0]
  clear HV
  go_wp2_with (first | (go_at_call 51;with_reducible refine cX HH (HGr.out _ HH.out.ext) ?_;clear HH;intro wb HH;clear c0 c1 c2 c3 c4 c5 c6 d0 d1 d2 d3 d4 d5 d6;obtain⟨c0,c1,c2,c3,c4,c5,c6,-⟩:=za (HH.out.boxAt 1 rfl);obtain⟨d0,d1,d2,d3,d4,d5,d6,-⟩:=za (HH.out.boxAt 0 rfl)) | (go_at_call 52;with_reducible refine cX HH (HLg.out _ HH.out.ext) ?_;clear HH;intro wo HH;clear c0 c1 c2 c3 c4 c5 c6 d0 d1 d2 d3 d4 d5 d6;obtain⟨c0,c1,c2,c3,c4,c5,c6,-⟩:=za (HH.out.boxAt 1 rfl);obtain⟨d0,d1,d2,d3,d4,d5,d6,-⟩:=za (HH.out.boxAt 0 rfl)))
  go_ret
  exact⟨rfl,HH.out.ext⟩
end Go.Proofs.YtckaneapjpiocaaGreatDoor
