/- The texts Rstg in one file. -/
import Derived.Test.YtckaneapjpiocaaGreatDoorP11
import Derived.Test.YtckaneapjpiocaaGreatDoorP12
set_option linter.unusedVariables false
set_option linter.unusedSimpArgs false
set_option maxHeartbeats 8000000
set_option maxRecDepth 100000
namespace Go.Proofs.YtckaneapjpiocaaGreatDoor
open Go.RowKit
def qd(x:Rec):Bool:=x.kind == 1 && zX x
theorem adf(x:Rec):qd x=(x.kind == 1 && decide (yT x=0)):=by
 unfold qd yT
 by_cases h:x.kind=1
 ·rw [if_neg (by omega),h]
  cases zX x <;> rfl
 ·have:(x.kind == 1)=false:=by simpa using h
  rw [this]
  rfl
theorem adY(w:World)(x:Rec)(hr:Rd w 0 w.heap.size x.oA (prps x.own))(hx:x.wf):
 Calls Tryz.prog 79 #[.agg x.cells.toArray] w fun e w'=>e= .returned (.bool (qd x))∧Ext w w':=by
 by_cases hk:x.kind=1
 ·have h:=afh w x hr hx hk
  rw [qd,hk]
  exact h
 ·have HF:=Lib.hid (show qd x=false by rw [qd];simp [hk])
  obtain⟨k,n,f,g,oA,on,oc,own,i,c,d,s0,s1,s2,s3⟩:=x
  have d1:(k == 1)=false:=by simpa using hk
  clear hr hx hk
  simp only [Rec.cells]
  go_enter Tryz.func79,Tryz.ntmps79
  go_upto_region 1 with fail
  generalize hwH:World.alloc w _=w1;have HH:=Lib.hid (Heap.one hwH);clear hwH
  go_wp2_with (refine zc HH.out rfl rfl rfl 0 rfl rfl (by decide+kernel) ?_)
  go_ret
  exact⟨by rw [HF.out];rfl,HH.out.ext⟩
theorem ad0(w:World)(x:Stg)(hx:x.ok w):
 Calls Tryz.prog 34 #[.agg x.cells.toArray] w fun e w'=>e= .returned (.bool (stB x))∧Ext w w':=by
 have HPa:=Lib.hid (fun W=>x7 x.into W (by have:=hx.into;omega))
 have HRe:=Lib.hid (fun W (hW:Ext w W)=>adY W x.beg (Rd.at hx.begR hW (Nat.le_refl _)) hx.beg)
 have HBk:=Lib.hid (fun W (hW:Ext w W)=>aap W x.bA x.bn x.bc x.body hx.bodyN (by have:=hx.bodyM;omega) (Rd.at hx.bodyR hW (Nat.le_refl _)) hx.bodyW)
 have HA1:=Lib.hid (fun W=>show Calls Tryz.prog 30 #[.int .i64 x.pos,.int .i64 0] W fun e w'=>e= .returned (.bool (amt x.pos))∧Ext W w' from ym W x.pos 0 hx.pos.1 hx.pos.2)
 have HA2:=Lib.hid (fun W=>show Calls Tryz.prog 30 #[.int .i64 x.next,.int .i64 0] W fun e w'=>e= .returned (.bool (amt x.next))∧Ext W w' from ym W x.next 0 hx.next.1 hx.next.2)
 have HS:=Lib.hid (show stB x=(!x.into.toList.isEmpty && (zv x.into && (qd x.beg && (decide (bkE x.body=0) && (amt x.pos && amt x.next)))))by rw [adf,stB,Bool.and_assoc])
 clear hx
 generalize stB x=V at *
 generalize qd x.beg=BG at *
 obtain⟨into,⟨kind,name,frm,guid,oA,on,oc,own,index,count,data,s0,s1,s2,s3⟩,bA,bn,bc,body,pos,next,⟨ua,ub,uc,ud⟩,dn⟩:=x
 dsimp only at HPa HBk HA1 HA2 HS
 simp only [Rec.cells]at HRe
 generalize hbE:bkE body=BE at HBk HS
 clear hbE
 by_cases c1:into.size=0
 ·obtain rfl:=y9 into c1
  have e0:(⟨#[]⟩:ByteArray).toList.isEmpty=true:=by rw [ByteArray.toList_eq];rfl
  have HF:=Lib.hid (show V=false by rw [HS.out,e0];rfl)
  clear c1 e0
  simp only [Stg.cells,Rec.cells,Su.cells,List.cons_append,List.nil_append];go_enter Tryz.func34,Tryz.ntmps34;go_upto_region 1 with fail;generalize hwH:World.alloc w _=w1;have HH:=Lib.hid (Heap.one hwH);clear hwH;go_wp2_with (first | (go_big_want;refine xK HH.out yG (by kernel_rfl) rfl rfl 0 rfl (Nat.le_of_ble_eq_true rfl) ?_) | (go_big_want;refine yH HH.out rfl rfl 0 rfl rfl (by decide+kernel) ?_) | (refine zc HH.out rfl rfl rfl 0 rfl rfl (by decide+kernel) ?_) | (go_at_call 73;(with_reducible refine(HPa.out _).mono ?_);rintro e wC ⟨rfl,eC⟩;replace HH:=Lib.hid (HH.out.later eC);clear eC) | (go_at_call 79;(with_reducible refine(HRe.out _ HH.out.ext).mono ?_);rintro e wC ⟨rfl,eC⟩;replace HH:=Lib.hid (HH.out.later eC);clear eC) | (go_at_call 75;(with_reducible refine(HBk.out _ HH.out.ext).mono ?_);rintro e wC ⟨rfl,eC⟩;replace HH:=Lib.hid (HH.out.later eC);clear eC) | (go_at_call 30;(with_reducible refine(HA1.out _).mono ?_);rintro e wC ⟨rfl,eC⟩;replace HH:=Lib.hid (HH.out.later eC);clear eC) | (go_at_call 30;(with_reducible refine(HA2.out _).mono ?_);rintro e wC ⟨rfl,eC⟩;replace HH:=Lib.hid (HH.out.later eC);clear eC));go_ret;exact⟨by rw [HF.out];rfl,HH.out.ext⟩
 ·have b0:into.toList.isEmpty=false:=by
   rw [ByteArray.toList_eq,List.isEmpty_eq_false_iff]
   intro e
   have:=zz into
   rw [e]at this
   exact c1 this.symm
  clear c1
  rw [b0,Bool.not_false,Bool.true_and]at HS
  by_cases c2:zv into=true
  ·rw [c2,Bool.true_and]at HS
   cases BG with
   | true=>
     rw [Bool.true_and]at HS
     by_cases c5:BE=0
     ·subst c5
      rw [decide_eq_true (rfl:(0:Int)=0),Bool.true_and]at HS
      by_cases c6:amt pos=true
      ·rw [c6,Bool.true_and]at HS
       by_cases c7:amt next=true
       ·have HF:=Lib.hid (show V=true by rw [HS.out,c7])
        simp only [Stg.cells,Rec.cells,Su.cells,List.cons_append,List.nil_append];go_enter Tryz.func34,Tryz.ntmps34;go_upto_region 1 with fail;generalize hwH:World.alloc w _=w1;have HH:=Lib.hid (Heap.one hwH);clear hwH;go_wp2_with (first | (go_big_want;refine xK HH.out yG (by kernel_rfl) rfl rfl 0 rfl (Nat.le_of_ble_eq_true rfl) ?_) | (go_big_want;refine yH HH.out rfl rfl 0 rfl rfl (by decide+kernel) ?_) | (refine zc HH.out rfl rfl rfl 0 rfl rfl (by decide+kernel) ?_) | (go_at_call 73;(with_reducible refine(HPa.out _).mono ?_);rintro e wC ⟨rfl,eC⟩;replace HH:=Lib.hid (HH.out.later eC);clear eC) | (go_at_call 79;(with_reducible refine(HRe.out _ HH.out.ext).mono ?_);rintro e wC ⟨rfl,eC⟩;replace HH:=Lib.hid (HH.out.later eC);clear eC) | (go_at_call 75;(with_reducible refine(HBk.out _ HH.out.ext).mono ?_);rintro e wC ⟨rfl,eC⟩;replace HH:=Lib.hid (HH.out.later eC);clear eC) | (go_at_call 30;(with_reducible refine(HA1.out _).mono ?_);rintro e wC ⟨rfl,eC⟩;replace HH:=Lib.hid (HH.out.later eC);clear eC) | (go_at_call 30;(with_reducible refine(HA2.out _).mono ?_);rintro e wC ⟨rfl,eC⟩;replace HH:=Lib.hid (HH.out.later eC);clear eC));go_ret;exact⟨by rw [HF.out];rfl,HH.out.ext⟩
       ·rw [Bool.not_eq_true]at c7
        have HF:=Lib.hid (show V=false by rw [HS.out,c7])
        simp only [Stg.cells,Rec.cells,Su.cells,List.cons_append,List.nil_append];go_enter Tryz.func34,Tryz.ntmps34;go_upto_region 1 with fail;generalize hwH:World.alloc w _=w1;have HH:=Lib.hid (Heap.one hwH);clear hwH;go_wp2_with (first | (go_big_want;refine xK HH.out yG (by kernel_rfl) rfl rfl 0 rfl (Nat.le_of_ble_eq_true rfl) ?_) | (go_big_want;refine yH HH.out rfl rfl 0 rfl rfl (by decide+kernel) ?_) | (refine zc HH.out rfl rfl rfl 0 rfl rfl (by decide+kernel) ?_) | (go_at_call 73;(with_reducible refine(HPa.out _).mono ?_);rintro e wC ⟨rfl,eC⟩;replace HH:=Lib.hid (HH.out.later eC);clear eC) | (go_at_call 79;(with_reducible refine(HRe.out _ HH.out.ext).mono ?_);rintro e wC ⟨rfl,eC⟩;replace HH:=Lib.hid (HH.out.later eC);clear eC) | (go_at_call 75;(with_reducible refine(HBk.out _ HH.out.ext).mono ?_);rintro e wC ⟨rfl,eC⟩;replace HH:=Lib.hid (HH.out.later eC);clear eC) | (go_at_call 30;(with_reducible refine(HA1.out _).mono ?_);rintro e wC ⟨rfl,eC⟩;replace HH:=Lib.hid (HH.out.later eC);clear eC) | (go_at_call 30;(with_reducible refine(HA2.out _).mono ?_);rintro e wC ⟨rfl,eC⟩;replace HH:=Lib.hid (HH.out.later eC);clear eC));go_ret;exact⟨by rw [HF.out];rfl,HH.out.ext⟩
      ·rw [Bool.not_eq_true]at c6
       have HF:=Lib.hid (show V=false by rw [HS.out,c6];rfl)
       simp only [Stg.cells,Rec.cells,Su.cells,List.cons_append,List.nil_append];go_enter Tryz.func34,Tryz.ntmps34;go_upto_region 1 with fail;generalize hwH:World.alloc w _=w1;have HH:=Lib.hid (Heap.one hwH);clear hwH;go_wp2_with (first | (go_big_want;refine xK HH.out yG (by kernel_rfl) rfl rfl 0 rfl (Nat.le_of_ble_eq_true rfl) ?_) | (go_big_want;refine yH HH.out rfl rfl 0 rfl rfl (by decide+kernel) ?_) | (refine zc HH.out rfl rfl rfl 0 rfl rfl (by decide+kernel) ?_) | (go_at_call 73;(with_reducible refine(HPa.out _).mono ?_);rintro e wC ⟨rfl,eC⟩;replace HH:=Lib.hid (HH.out.later eC);clear eC) | (go_at_call 79;(with_reducible refine(HRe.out _ HH.out.ext).mono ?_);rintro e wC ⟨rfl,eC⟩;replace HH:=Lib.hid (HH.out.later eC);clear eC) | (go_at_call 75;(with_reducible refine(HBk.out _ HH.out.ext).mono ?_);rintro e wC ⟨rfl,eC⟩;replace HH:=Lib.hid (HH.out.later eC);clear eC) | (go_at_call 30;(with_reducible refine(HA1.out _).mono ?_);rintro e wC ⟨rfl,eC⟩;replace HH:=Lib.hid (HH.out.later eC);clear eC) | (go_at_call 30;(with_reducible refine(HA2.out _).mono ?_);rintro e wC ⟨rfl,eC⟩;replace HH:=Lib.hid (HH.out.later eC);clear eC));go_ret;exact⟨by rw [HF.out];rfl,HH.out.ext⟩
     ·have d5:(BE == 0)=false:=by simpa using c5
      have HF:=Lib.hid (show V=false by rw [HS.out,decide_eq_false c5];rfl)
      clear c5
      simp only [Stg.cells,Rec.cells,Su.cells,List.cons_append,List.nil_append];go_enter Tryz.func34,Tryz.ntmps34;go_upto_region 1 with fail;generalize hwH:World.alloc w _=w1;have HH:=Lib.hid (Heap.one hwH);clear hwH;go_wp2_with (first | (go_big_want;refine xK HH.out yG (by kernel_rfl) rfl rfl 0 rfl (Nat.le_of_ble_eq_true rfl) ?_) | (go_big_want;refine yH HH.out rfl rfl 0 rfl rfl (by decide+kernel) ?_) | (refine zc HH.out rfl rfl rfl 0 rfl rfl (by decide+kernel) ?_) | (go_at_call 73;(with_reducible refine(HPa.out _).mono ?_);rintro e wC ⟨rfl,eC⟩;replace HH:=Lib.hid (HH.out.later eC);clear eC) | (go_at_call 79;(with_reducible refine(HRe.out _ HH.out.ext).mono ?_);rintro e wC ⟨rfl,eC⟩;replace HH:=Lib.hid (HH.out.later eC);clear eC) | (go_at_call 75;(with_reducible refine(HBk.out _ HH.out.ext).mono ?_);rintro e wC ⟨rfl,eC⟩;replace HH:=Lib.hid (HH.out.later eC);clear eC) | (go_at_call 30;(with_reducible refine(HA1.out _).mono ?_);rintro e wC ⟨rfl,eC⟩;replace HH:=Lib.hid (HH.out.later eC);clear eC) | (go_at_call 30;(with_reducible refine(HA2.out _).mono ?_);rintro e wC ⟨rfl,eC⟩;replace HH:=Lib.hid (HH.out.later eC);clear eC));go_ret;exact⟨by rw [HF.out];rfl,HH.out.ext⟩
   | false=>
     have HF:=Lib.hid (show V=false by rw [HS.out];rfl)
     simp only [Stg.cells,Rec.cells,Su.cells,List.cons_append,List.nil_append];go_enter Tryz.func34,Tryz.ntmps34;go_upto_region 1 with fail;generalize hwH:World.alloc w _=w1;have HH:=Lib.hid (Heap.one hwH);clear hwH;go_wp2_with (first | (go_big_want;refine xK HH.out yG (by kernel_rfl) rfl rfl 0 rfl (Nat.le_of_ble_eq_true rfl) ?_) | (go_big_want;refine yH HH.out rfl rfl 0 rfl rfl (by decide+kernel) ?_) | (refine zc HH.out rfl rfl rfl 0 rfl rfl (by decide+kernel) ?_) | (go_at_call 73;(with_reducible refine(HPa.out _).mono ?_);rintro e wC ⟨rfl,eC⟩;replace HH:=Lib.hid (HH.out.later eC);clear eC) | (go_at_call 79;(with_reducible refine(HRe.out _ HH.out.ext).mono ?_);rintro e wC ⟨rfl,eC⟩;replace HH:=Lib.hid (HH.out.later eC);clear eC) | (go_at_call 75;(with_reducible refine(HBk.out _ HH.out.ext).mono ?_);rintro e wC ⟨rfl,eC⟩;replace HH:=Lib.hid (HH.out.later eC);clear eC) | (go_at_call 30;(with_reducible refine(HA1.out _).mono ?_);rintro e wC ⟨rfl,eC⟩;replace HH:=Lib.hid (HH.out.later eC);clear eC) | (go_at_call 30;(with_reducible refine(HA2.out _).mono ?_);rintro e wC ⟨rfl,eC⟩;replace HH:=Lib.hid (HH.out.later eC);clear eC));go_ret;exact⟨by rw [HF.out];rfl,HH.out.ext⟩
  ·rw [Bool.not_eq_true]at c2
   have HF:=Lib.hid (show V=false by rw [HS.out,c2];rfl)
   simp only [Stg.cells,Rec.cells,Su.cells,List.cons_append,List.nil_append];go_enter Tryz.func34,Tryz.ntmps34;go_upto_region 1 with fail;generalize hwH:World.alloc w _=w1;have HH:=Lib.hid (Heap.one hwH);clear hwH;go_wp2_with (first | (go_big_want;refine xK HH.out yG (by kernel_rfl) rfl rfl 0 rfl (Nat.le_of_ble_eq_true rfl) ?_) | (go_big_want;refine yH HH.out rfl rfl 0 rfl rfl (by decide+kernel) ?_) | (refine zc HH.out rfl rfl rfl 0 rfl rfl (by decide+kernel) ?_) | (go_at_call 73;(with_reducible refine(HPa.out _).mono ?_);rintro e wC ⟨rfl,eC⟩;replace HH:=Lib.hid (HH.out.later eC);clear eC) | (go_at_call 79;(with_reducible refine(HRe.out _ HH.out.ext).mono ?_);rintro e wC ⟨rfl,eC⟩;replace HH:=Lib.hid (HH.out.later eC);clear eC) | (go_at_call 75;(with_reducible refine(HBk.out _ HH.out.ext).mono ?_);rintro e wC ⟨rfl,eC⟩;replace HH:=Lib.hid (HH.out.later eC);clear eC) | (go_at_call 30;(with_reducible refine(HA1.out _).mono ?_);rintro e wC ⟨rfl,eC⟩;replace HH:=Lib.hid (HH.out.later eC);clear eC) | (go_at_call 30;(with_reducible refine(HA2.out _).mono ?_);rintro e wC ⟨rfl,eC⟩;replace HH:=Lib.hid (HH.out.later eC);clear eC));go_ret;exact⟨by rw [HF.out];rfl,HH.out.ext⟩
end Go.Proofs.YtckaneapjpiocaaGreatDoor
