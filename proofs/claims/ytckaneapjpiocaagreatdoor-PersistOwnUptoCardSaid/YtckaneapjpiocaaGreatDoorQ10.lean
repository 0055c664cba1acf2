/- The texts Rstg in one file. -/
import Derived.Test.YtckaneapjpiocaaGreatDoorQ9
set_option linter.unusedVariables false
set_option linter.unusedSimpArgs false
set_option maxHeartbeats 8000000
set_option maxRecDepth 100000
namespace Go.Proofs.YtckaneapjpiocaaGreatDoor
open Go.RowKit
def abb(x:Rec):Bool:=x.kind == 1 && yv x
theorem aia(x:Rec):abb x=(x.kind == 1 && decide (yJ x=0)):=by
 unfold abb yJ
 by_cases h:x.kind=1
 ·rw [if_neg (by omega),h]
  cases yv x <;> rfl
 ·have:(x.kind == 1)=false:=by simpa using h
  rw [this]
  rfl
theorem aiy(w:World)(x:Rec)(hr:Rd w 0 w.heap.size x.oA (prps x.own))(hx:x.wf):
 Calls Tryz.prog 79 #[.agg x.cells.toArray] w fun e w'=>e= .returned (.bool (abb x))∧Ext w w':=by
 by_cases hk:x.kind=1
 ·have h:=aj6 w x hr hx hk
  rw [abb,hk]
  exact h
 ·have HF:=hiD (show abb x=false by rw [abb];simp [hk])
  obtain⟨k,n,f,g,oA,on,oc,own,i,c,d,s0,s1,s2,s3⟩:=x
  have d1:(k == 1)=false:=by simpa using hk
  clear hr hx hk
  simp only [Rec.cells]
  go_enter Tryz.func79,Tryz.ntmps79
  go_upto_region 1 with fail
  generalize hwH:World.alloc w _=w1;have HH:=hiD (Heap.one hwH);clear hwH
  go_wp2_with (refine l1X HH 0 ?_)
  go_ret
  exact⟨by rw [HF.out];rfl,HH.out.ext⟩
theorem aiM(w:World)(x:Stg)(hx:x.ok w):
 Calls Tryz.prog 34 #[.agg x.cells.toArray] w fun e w'=>e= .returned (.bool (stB x))∧Ext w w':=by
 have HPa:=hiD (fun W=>aa8 x.into W (by have:=hx.into;omega))
 have HRe:=hiD (fun W (hW:Ext w W)=>aiy W x.beg (Rd.at hx.begR hW (Nat.le_refl _)) hx.beg)
 have HBk:=hiD (fun W (hW:Ext w W)=>acT W x.bA x.bn x.bc x.body hx.bodyN (by have:=hx.bodyM;omega) (Rd.at hx.bodyR hW (Nat.le_refl _)) hx.bodyW)
 have HA1:=hiD (fun W=>show Calls Tryz.prog 30 #[.int .i64 x.pos,.int .i64 0] W fun e w'=>e= .returned (.bool (amt x.pos))∧Ext W w' from xI W x.pos 0 hx.pos.1 hx.pos.2)
 have HA2:=hiD (fun W=>show Calls Tryz.prog 30 #[.int .i64 x.next,.int .i64 0] W fun e w'=>e= .returned (.bool (amt x.next))∧Ext W w' from xI W x.next 0 hx.next.1 hx.next.2)
 have HS:=hiD (show stB x=(!x.into.toList.isEmpty && (zF x.into && (abb x.beg && (decide (bkE x.body=0) && (amt x.pos && amt x.next)))))by rw [aia,stB,Bool.and_assoc])
 clear hx
 generalize stB x=V at *
 generalize abb x.beg=BG at *
 obtain⟨into,⟨kind,name,frm,guid,oA,on,oc,own,index,count,data,s0,s1,s2,s3⟩,bA,bn,bc,body,pos,next,⟨ua,ub,uc,ud⟩,dn⟩:=x
 dsimp only at HPa HBk HA1 HA2 HS
 simp only [Rec.cells]at HRe
 generalize hbE:bkE body=BE at HBk HS
 clear hbE
 by_cases c1:into.size=0
 ·obtain rfl:=ql into c1
  have e0:(⟨#[]⟩:ByteArray).toList.isEmpty=true:=by rw [ByteArray.toList_eq];rfl
  have HF:=hiD (show V=false by rw [HS.out,e0];rfl)
  clear c1 e0
  simp only [Stg.cells,Rec.cells,Su.cells,List.cons_append,List.nil_append];go_enter Tryz.func34,Tryz.ntmps34;go_upto_region 1 with fail;generalize hwH:World.alloc w _=w1;have HH:=hiD (Heap.one hwH);clear hwH;go_wp2_with (first | (go_big_want;refine aaB HH.out ze (by kernel_rfl) rfl rfl 0 rfl (Nat.le_of_ble_eq_true rfl) ?_) | (go_big_want;refine xG HH.out rfl rfl 0 rfl rfl (by decide+kernel) ?_) | (refine l1X HH 0 ?_) | (go_at_call 73;(with_reducible refine(HPa.out _).mono ?_);rintro e wC ⟨rfl,eC⟩;replace HH:=hiD (HH.out.later eC);clear eC) | (go_at_call 79;(with_reducible refine(HRe.out _ HH.out.ext).mono ?_);rintro e wC ⟨rfl,eC⟩;replace HH:=hiD (HH.out.later eC);clear eC) | (go_at_call 75;(with_reducible refine(HBk.out _ HH.out.ext).mono ?_);rintro e wC ⟨rfl,eC⟩;replace HH:=hiD (HH.out.later eC);clear eC) | (go_at_call 30;(with_reducible refine(HA1.out _).mono ?_);rintro e wC ⟨rfl,eC⟩;replace HH:=hiD (HH.out.later eC);clear eC) | (go_at_call 30;(with_reducible refine(HA2.out _).mono ?_);rintro e wC ⟨rfl,eC⟩;replace HH:=hiD (HH.out.later eC);clear eC));go_ret;exact⟨by rw [HF.out];rfl,HH.out.ext⟩
 ·have b0:into.toList.isEmpty=false:=by
   rw [ByteArray.toList_eq,List.isEmpty_eq_false_iff]
   intro e
   have:=zv into
   rw [e]at this
   exact c1 this.symm
  clear c1
  rw [b0,Bool.not_false,Bool.true_and]at HS
  by_cases c2:zF into=true
  ·rw [c2,Bool.true_and]at HS
   cases BG with
   | true=>
     rw [Bool.true_and]at HS
     by_cases c5:BE=0
     ·subst c5
      rw [decide_eq_true (rfl:(0:Int)=0),Bool.true_and]at HS
      by_cases c6:amt pos=true
      ·rw [c6,Bool.true_and]at HS
       by_cases c7:amt next=true
       ·have HF:=hiD (show V=true by rw [HS.out,c7])
        simp only [Stg.cells,Rec.cells,Su.cells,List.cons_append,List.nil_append];go_enter Tryz.func34,Tryz.ntmps34;go_upto_region 1 with fail;generalize hwH:World.alloc w _=w1;have HH:=hiD (Heap.one hwH);clear hwH;go_wp2_with (first | (go_big_want;refine aaB HH.out ze (by kernel_rfl) rfl rfl 0 rfl (Nat.le_of_ble_eq_true rfl) ?_) | (go_big_want;refine xG HH.out rfl rfl 0 rfl rfl (by decide+kernel) ?_) | (refine l1X HH 0 ?_) | (go_at_call 73;(with_reducible refine(HPa.out _).mono ?_);rintro e wC ⟨rfl,eC⟩;replace HH:=hiD (HH.out.later eC);clear eC) | (go_at_call 79;(with_reducible refine(HRe.out _ HH.out.ext).mono ?_);rintro e wC ⟨rfl,eC⟩;replace HH:=hiD (HH.out.later eC);clear eC) | (go_at_call 75;(with_reducible refine(HBk.out _ HH.out.ext).mono ?_);rintro e wC ⟨rfl,eC⟩;replace HH:=hiD (HH.out.later eC);clear eC) | (go_at_call 30;(with_reducible refine(HA1.out _).mono ?_);rintro e wC ⟨rfl,eC⟩;replace HH:=hiD (HH.out.later eC);clear eC) | (go_at_call 30;(with_reducible refine(HA2.out _).mono ?_);rintro e wC ⟨rfl,eC⟩;replace HH:=hiD (HH.out.later eC);clear eC));go_ret;exact⟨by rw [HF.out];rfl,HH.out.ext⟩
       ·rw [Bool.not_eq_true]at c7
        have HF:=hiD (show V=false by rw [HS.out,c7])
        simp only [Stg.cells,Rec.cells,Su.cells,List.cons_append,List.nil_append];go_enter Tryz.func34,Tryz.ntmps34;go_upto_region 1 with fail;generalize hwH:World.alloc w _=w1;have HH:=hiD (Heap.one hwH);clear hwH;go_wp2_with (first | (go_big_want;refine aaB HH.out ze (by kernel_rfl) rfl rfl 0 rfl (Nat.le_of_ble_eq_true rfl) ?_) | (go_big_want;refine xG HH.out rfl rfl 0 rfl rfl (by decide+kernel) ?_) | (refine l1X HH 0 ?_) | (go_at_call 73;(with_reducible refine(HPa.out _).mono ?_);rintro e wC ⟨rfl,eC⟩;replace HH:=hiD (HH.out.later eC);clear eC) | (go_at_call 79;(with_reducible refine(HRe.out _ HH.out.ext).mono ?_);rintro e wC ⟨rfl,eC⟩;replace HH:=hiD (HH.out.later eC);clear eC) | (go_at_call 75;(with_reducible refine(HBk.out _ HH.out.ext).mono ?_);rintro e wC ⟨rfl,eC⟩;replace HH:=hiD (HH.out.later eC);clear eC) | (go_at_call 30;(with_reducible refine(HA1.out _).mono ?_);rintro e wC ⟨rfl,eC⟩;replace HH:=hiD (HH.out.later eC);clear eC) | (go_at_call 30;(with_reducible refine(HA2.out _).mono ?_);rintro e wC ⟨rfl,eC⟩;replace HH:=hiD (HH.out.later eC);clear eC));go_ret;exact⟨by rw [HF.out];rfl,HH.out.ext⟩
      ·rw [Bool.not_eq_true]at c6
       have HF:=hiD (show V=false by rw [HS.out,c6];rfl)
       simp only [Stg.cells,Rec.cells,Su.cells,List.cons_append,List.nil_append];go_enter Tryz.func34,Tryz.ntmps34;go_upto_region 1 with fail;generalize hwH:World.alloc w _=w1;have HH:=hiD (Heap.one hwH);clear hwH;go_wp2_with (first | (go_big_want;refine aaB HH.out ze (by kernel_rfl) rfl rfl 0 rfl (Nat.le_of_ble_eq_true rfl) ?_) | (go_big_want;refine xG HH.out rfl rfl 0 rfl rfl (by decide+kernel) ?_) | (refine l1X HH 0 ?_) | (go_at_call 73;(with_reducible refine(HPa.out _).mono ?_);rintro e wC ⟨rfl,eC⟩;replace HH:=hiD (HH.out.later eC);clear eC) | (go_at_call 79;(with_reducible refine(HRe.out _ HH.out.ext).mono ?_);rintro e wC ⟨rfl,eC⟩;replace HH:=hiD (HH.out.later eC);clear eC) | (go_at_call 75;(with_reducible refine(HBk.out _ HH.out.ext).mono ?_);rintro e wC ⟨rfl,eC⟩;replace HH:=hiD (HH.out.later eC);clear eC) | (go_at_call 30;(with_reducible refine(HA1.out _).mono ?_);rintro e wC ⟨rfl,eC⟩;replace HH:=hiD (HH.out.later eC);clear eC) | (go_at_call 30;(with_reducible refine(HA2.out _).mono ?_);rintro e wC ⟨rfl,eC⟩;replace HH:=hiD (HH.out.later eC);clear eC));go_ret;exact⟨by rw [HF.out];rfl,HH.out.ext⟩
     ·have d5:(BE == 0)=false:=by simpa using c5
      have HF:=hiD (show V=false by rw [HS.out,decide_eq_false c5];rfl)
      clear c5
      simp only [Stg.cells,Rec.cells,Su.cells,List.cons_append,List.nil_append];go_enter Tryz.func34,Tryz.ntmps34;go_upto_region 1 with fail;generalize hwH:World.alloc w _=w1;have HH:=hiD (Heap.one hwH);clear hwH;go_wp2_with (first | (go_big_want;refine aaB HH.out ze (by kernel_rfl) rfl rfl 0 rfl (Nat.le_of_ble_eq_true rfl) ?_) | (go_big_want;refine xG HH.out rfl rfl 0 rfl rfl (by decide+kernel) ?_) | (refine l1X HH 0 ?_) | (go_at_call 73;(with_reducible refine(HPa.out _).mono ?_);rintro e wC ⟨rfl,eC⟩;replace HH:=hiD (HH.out.later eC);clear eC) | (go_at_call 79;(with_reducible refine(HRe.out _ HH.out.ext).mono ?_);rintro e wC ⟨rfl,eC⟩;replace HH:=hiD (HH.out.later eC);clear eC) | (go_at_call 75;(with_reducible refine(HBk.out _ HH.out.ext).mono ?_);rintro e wC ⟨rfl,eC⟩;replace HH:=hiD (HH.out.later eC);clear eC) | (go_at_call 30;(with_reducible refine(HA1.out _).mono ?_);rintro e wC ⟨rfl,eC⟩;replace HH:=hiD (HH.out.later eC);clear eC) | (go_at_call 30;(with_reducible refine(HA2.out _).mono ?_);rintro e wC ⟨rfl,eC⟩;replace HH:=hiD (HH.out.later eC);clear eC));go_ret;exact⟨by rw [HF.out];rfl,HH.out.ext⟩
   | false=>
     have HF:=hiD (show V=false by rw [HS.out];rfl)
     simp only [Stg.cells,Rec.cells,Su.cells,List.cons_append,List.nil_append];go_enter Tryz.func34,Tryz.ntmps34;go_upto_region 1 with fail;generalize hwH:World.alloc w _=w1;have HH:=hiD (Heap.one hwH);clear hwH;go_wp2_with (first | (go_big_want;refine aaB HH.out ze (by kernel_rfl) rfl rfl 0 rfl (Nat.le_of_ble_eq_true rfl) ?_) | (go_big_want;refine xG HH.out rfl rfl 0 rfl rfl (by decide+kernel) ?_) | (refine l1X HH 0 ?_) | (go_at_call 73;(with_reducible refine(HPa.out _).mono ?_);rintro e wC ⟨rfl,eC⟩;replace HH:=hiD (HH.out.later eC);clear eC) | (go_at_call 79;(with_reducible refine(HRe.out _ HH.out.ext).mono ?_);rintro e wC ⟨rfl,eC⟩;replace HH:=hiD (HH.out.later eC);clear eC) | (go_at_call 75;(with_reducible refine(HBk.out _ HH.out.ext).mono ?_);rintro e wC ⟨rfl,eC⟩;replace HH:=hiD (HH.out.later eC);clear eC) | (go_at_call 30;(with_reducible refine(HA1.out _).mono ?_);rintro e wC ⟨rfl,eC⟩;replace HH:=hiD (HH.out.later eC);clear eC) | (go_at_call 30;(with_reducible refine(HA2.out _).mono ?_);rintro e wC ⟨rfl,eC⟩;replace HH:=hiD (HH.out.later eC);clear eC));go_ret;exact⟨by rw [HF.out];rfl,HH.out.ext⟩
  ·rw [Bool.not_eq_true]at c2
   have HF:=hiD (show V=false by rw [HS.out,c2];rfl)
   simp only [Stg.cells,Rec.cells,Su.cells,List.cons_append,List.nil_append];go_enter Tryz.func34,Tryz.ntmps34;go_upto_region 1 with fail;generalize hwH:World.alloc w _=w1;have HH:=hiD (Heap.one hwH);clear hwH;go_wp2_with (first | (go_big_want;refine aaB HH.out ze (by kernel_rfl) rfl rfl 0 rfl (Nat.le_of_ble_eq_true rfl) ?_) | (go_big_want;refine xG HH.out rfl rfl 0 rfl rfl (by decide+kernel) ?_) | (refine l1X HH 0 ?_) | (go_at_call 73;(with_reducible refine(HPa.out _).mono ?_);rintro e wC ⟨rfl,eC⟩;replace HH:=hiD (HH.out.later eC);clear eC) | (go_at_call 79;(with_reducible refine(HRe.out _ HH.out.ext).mono ?_);rintro e wC ⟨rfl,eC⟩;replace HH:=hiD (HH.out.later eC);clear eC) | (go_at_call 75;(with_reducible refine(HBk.out _ HH.out.ext).mono ?_);rintro e wC ⟨rfl,eC⟩;replace HH:=hiD (HH.out.later eC);clear eC) | (go_at_call 30;(with_reducible refine(HA1.out _).mono ?_);rintro e wC ⟨rfl,eC⟩;replace HH:=hiD (HH.out.later eC);clear eC) | (go_at_call 30;(with_reducible refine(HA2.out _).mono ?_);rintro e wC ⟨rfl,eC⟩;replace HH:=hiD (HH.out.later eC);clear eC));go_ret;exact⟨by rw [HF.out];rfl,HH.out.ext⟩
theorem ahH(w:World)(x y:Rec)(hx:Rd w 0 w.heap.size x.oA (prps x.own))(hxn:x.on=x.own.length)(hxm:x.on≤100000000)(hy:Rd w 0 w.heap.size y.oA (prps y.own))(hyn:y.on=y.own.length)(hym:y.on≤100000000):
 Calls Tryz.prog 113 #[.agg x.cells.toArray,.agg y.cells.toArray] w fun e w'=>e= .returned (.bool (adf x y))∧Ext w w':=by
 have HP:=hiD (fun W (hW:Ext w W)=>ab1 W x.oA y.oA x.on y.on x.oc y.oc x.own y.own hxn hyn (by omega) (by omega) (Rd.at hx hW (Nat.le_refl _)) (Rd.at hy hW (Nat.le_refl _)))
 have HS:=hiD (show adf x y=(x.kind == y.kind && (x.name.toList == y.name.toList && (x.frm == y.frm && (x.guid == y.guid && (x.index == y.index && (x.count == y.count && (x.data.toList == y.data.toList && (adu (sumR x) (sumR y) && decide (x.own=y.own)))))))))from rfl)
 clear hx hxn hxm hy hyn hym
 generalize adf x y=V at *
 obtain⟨kind,name,frm,guid,oA,on,oc,own,index,count,data,s0,s1,s2,s3⟩:=x
 obtain⟨kind',name',frm',guid',oA',on',oc',own',index',count',data',t0,t1,t2,t3⟩:=y
 dsimp only at HP
 simp only [adu,sumR]at HS
 generalize decide (own=own')=D at HP HS
 simp only [Rec.cells]
 go_enter Tryz.func113,Tryz.ntmps113
 go_upto_region 1 with fail
 generalize hwH:World.alloc (World.alloc w _) _=w1;have HH:=hiD (Heap.two hwH);clear hwH
 obtain⟨g0,g1,g2,g3,g4,g5,g6,g7,g8,g9,g10,g11⟩:=aox (HH.out.boxAt 1 rfl) w1 (Ext.refl _)
 obtain⟨k0,k1,k2,k3,k4,k5,k6,k7,k8,k9,k10,k11⟩:=aox (HH.out.boxAt 0 rfl) w1 (Ext.refl _)
 go_wp2_with (go_at_call 71;refine(HP.out w1 HH.out.ext).mono ?_;rintro e wC ⟨rfl,eC⟩)
 all_goals (go_ret;refine⟨aaP ?_,(by first | exact HH.out.ext | exact HH.out.ext.trans eC)⟩;rw [HS.out];(first | (simp [*];done) | trace_state))
theorem agp(w:World)(x y:Stg)(hx:x.rd w)(hy:y.rd w):
 Calls Tryz.prog 54 #[.agg x.cells.toArray,.agg y.cells.toArray] w fun e w'=>e= .returned (.bool (qV x y))∧Ext w w':=by
 have HR:=hiD (fun W (hW:Ext w W)=>ahH W x.beg y.beg (Rd.at hx.begR hW (Nat.le_refl _)) hx.begL hx.begN (Rd.at hy.begR hW (Nat.le_refl _)) hy.begL hy.begN)
 have HB:=hiD (fun W (hW:Ext w W)=>adD W x.bA y.bA x.bn y.bn x.bc y.bc x.body y.body hx.bodyN hy.bodyN (by have:=hx.bodyM;omega) (by have:=hy.bodyM;omega) (Rd.at hx.bodyR hW (Nat.le_refl _)) (Rd.at hy.bodyR hW (Nat.le_refl _)))
 have HS:=hiD (show qV x y=(x.into.toList == y.into.toList && (adf x.beg y.beg && (decide (x.body=y.body) && (x.pos == y.pos && (x.next == y.next && (adu x.su y.su && x.done == y.done))))))from rfl)
 clear hx hy
 generalize qV x y=V at *
 generalize adf x.beg y.beg=RB at *
 generalize decide (x.body=y.body)=DB at *
 obtain⟨into,⟨kind,name,frm,guid,oA,on,oc,own,index,count,data,s0,s1,s2,s3⟩,bA,bn,bc,body,pos,next,⟨ua,ub,uc,ud⟩,dn⟩:=x
 obtain⟨into',⟨kind',name',frm',guid',oA',on',oc',own',index',count',data',t0,t1,t2,t3⟩,bA',bn',bc',body',pos',next',⟨ua',ub',uc',ud'⟩,dn'⟩:=y
 dsimp only at HB
 simp only [Rec.cells]at HR
 simp only [adu]at HS
 simp only [Stg.cells,Rec.cells,Su.cells,List.cons_append,List.nil_append]
 go_enter Tryz.func54,Tryz.ntmps54
 go_upto_region 1 with fail
 generalize hwH:World.alloc (World.alloc w _) _=w1;have HH:=hiD (Heap.two hwH);clear hwH
 obtain⟨g0,g1,g2,g3,g4,g5,g6,g7,g8,g9,g10,g11,g12,g13,g14,g15,g16,g17,g18,g19,g20⟩:=afT (HH.out.boxAt 1 rfl) w1 (Ext.refl _)
 obtain⟨k0,k1,k2,k3,k4,k5,k6,k7,k8,k9,k10,k11,k12,k13,k14,k15,k16,k17,k18,k19,k20⟩:=afT (HH.out.boxAt 0 rfl) w1 (Ext.refl _)
 go_wp2_with (first
  | (go_at_call 113;(with_reducible refine(HR.out w1 HH.out.ext).mono ?_);rintro e wa ⟨rfl,ea⟩;clear g0 g1 g2 g3 g4 g5 g6 g7 g8 g9 g10 g11 g12 g13 g14 g15 g16 g17 g18 g19 g20 k0 k1 k2 k3 k4 k5 k6 k7 k8 k9 k10 k11 k12 k13 k14 k15 k16 k17 k18 k19 k20;obtain⟨g0,g1,g2,g3,g4,g5,g6,g7,g8,g9,g10,g11,g12,g13,g14,g15,g16,g17,g18,g19,g20⟩:=afT (HH.out.boxAt 1 rfl) wa ea;obtain⟨k0,k1,k2,k3,k4,k5,k6,k7,k8,k9,k10,k11,k12,k13,k14,k15,k16,k17,k18,k19,k20⟩:=afT (HH.out.boxAt 0 rfl) wa ea)
  | (go_at_call 111;(with_reducible refine(HB.out _ (HH.out.ext.trans ea)).mono ?_);rintro e wb ⟨rfl,eb⟩;clear g0 g1 g2 g3 g4 g5 g6 g7 g8 g9 g10 g11 g12 g13 g14 g15 g16 g17 g18 g19 g20 k0 k1 k2 k3 k4 k5 k6 k7 k8 k9 k10 k11 k12 k13 k14 k15 k16 k17 k18 k19 k20;obtain⟨g0,g1,g2,g3,g4,g5,g6,g7,g8,g9,g10,g11,g12,g13,g14,g15,g16,g17,g18,g19,g20⟩:=afT (HH.out.boxAt 1 rfl) wb (ea.trans eb);obtain⟨k0,k1,k2,k3,k4,k5,k6,k7,k8,k9,k10,k11,k12,k13,k14,k15,k16,k17,k18,k19,k20⟩:=afT (HH.out.boxAt 0 rfl) wb (ea.trans eb)))
 all_goals (go_ret;refine⟨aaP ?_,(by first | exact HH.out.ext | exact HH.out.ext.trans ea | exact HH.out.ext.trans (ea.trans eb))⟩;rw [HS.out];(first | (simp [*];done) | trace_state))
end Go.Proofs.YtckaneapjpiocaaGreatDoor
