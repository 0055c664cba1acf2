/- The texts Tr3 in one file. -/
import Derived.Test.YtckaneapjpiocaaGreatDoorQ8
import Derived.Test.YtckaneapjpiocaaGreatDoorQ10
set_option linter.unusedVariables false
set_option linter.unusedSimpArgs false
set_option maxHeartbeats 4000000
set_option maxRecDepth 100000
namespace Go.Proofs.YtckaneapjpiocaaGreatDoor
open Go.RowKit Go.Maps Go.Sort Go.Shelf
theorem tam(w:World)(a b:Int)(h1: -9223372036854775808≤a)(h2:a≤9223372036854775807):
 Calls Tryz.prog 80 #[.int .i64 a,.int .i64 b] w fun e w'=>e= .returned (.bool (decide (b≤a) && decide (a≤1099511627776)))∧Ext w w':=qh w a b h1 h2
theorem ajs(w:World)(x:Rec)(hr:Rd w 0 w.heap.size x.oA (prps x.own))(hx:x.wf)(hk:x.kind=1):
 Calls Tryz.prog 143 #[.agg x.cells.toArray] w fun e w'=>e= .returned (.bool (yv x))∧Ext w w':=by
 have HS:=hiD (show yv x=(zd x.name && decide (0≤x.frm) && decide (x.frm≤1099511627776) && decide (1≤x.guid) && decide (x.guid≤1099511627776) && decide (prE x.own=0) && x.index == 0 && x.count == 0 && x.data.toList == [] && xL x)by rw [yv,if_pos hk])
 obtain⟨k,n,f,g,oA,on,oc,own,i,c,d,s0,s1,s2,s3⟩:=x
 obtain⟨⟨h1,h2⟩,⟨h3,h4⟩,⟨h5,h6⟩,⟨h7,h8⟩,⟨h9,h10⟩,h11,h12,h13,h14,h15⟩:=hx
 simp only at hk h1 h2 h3 h4 h5 h6 h7 h8 h9 h10 h11 h12 h13 h14 h15 hr
 subst hk
 have H13:=hiD h13
 have H15:=hiD h15
 clear h13 h15
 generalize yv _=b at HS
 have hp:Hid (decide (prE own=0)=(prE own == 0)):=hiD (by rw [Bool.eq_iff_iff];simp)
 have HP:=hiD (fun w1 (e1:Ext w w1)=>aaH w1 oA on oc own H13.out h14 (Rd.at hr e1 (Nat.le_refl _)) H15.out)
 generalize prE own=pe at *
 simp only [Rec.cells]
 go_enter Tryz.func143,Tryz.ntmps143
 go_upto_region 1 with(fail)
 generalize hw1:World.alloc w _=w1;obtain⟨ew1,zw1,Gw1⟩:=aat hw1;have gw1_0:=Gw1 0 _ rfl;have gw1_1:=Gw1 1 _ rfl;have gw1_2:=Gw1 2 _ rfl;have gw1_3:=Gw1 3 _ rfl;have gw1_4:=Gw1 4 _ rfl;have gw1_5:=Gw1 5 _ rfl;have gw1_6:=Gw1 6 _ rfl;have gw1_7:=Gw1 7 _ rfl;have gw1_8:=Gw1 8 _ rfl;have gw1_9:=Gw1 9 _ rfl;have gw1_10:=Gw1 10 _ rfl;have gw1_11:=Gw1 11 _ rfl;have Zw1:=hiD zw1;clear zw1 hw1 Gw1;have rw1:=Ext.refl w1
 go_wp2_with (first
  | (go_at_call 44;(with_reducible refine(qq n _ h11).mono ?_);rintro e wa ⟨rfl,ea⟩;have xa:Ext w1 wa:=blo)
  | (go_at_call 80;(with_reducible refine(tam _ f 0 h1 h2).mono ?_);rintro e wb ⟨rfl,eb⟩;have xb:Ext w1 wb:=blo)
  | (go_at_call 80;(with_reducible refine(tam _ g 1 h3 h4).mono ?_);rintro e wc ⟨rfl,ec⟩;have xc:Ext w1 wc:=blo)
  | (go_at_call 117;refine(HP.out _ blo).mono ?_;rintro e wd ⟨rfl,ed⟩;have xd:Ext w1 wd:=blo))
 all_goals (go_ret;refine⟨aaP ?_,blo⟩;rw [HS.out];(first | (simp [*,xL];done) | (rw [hp.out];simp [*,xL];done) | trace_state))
theorem ahM(w:World)(x:Rec)(hr:Rd w 0 w.heap.size x.oA (prps x.own))(hx:x.wf):
 Calls Tryz.prog 143 #[.agg x.cells.toArray] w fun e w'=>e= .returned (.bool (abb x))∧Ext w w':=by
 by_cases hk:x.kind=1
 ·have h:=ajs w x hr hx hk
  rw [abb,hk]
  exact h
 ·have HF:=hiD (show abb x=false by rw [abb];simp [hk])
  obtain⟨k,n,f,g,oA,on,oc,own,i,c,d,s0,s1,s2,s3⟩:=x
  have d1:(k == 1)=false:=by simpa using hk
  clear hr hx hk
  simp only [Rec.cells]
  go_enter Tryz.func143,Tryz.ntmps143
  go_upto_region 1 with fail
  generalize hwH:World.alloc w _=w1;have HH:=hiD (Heap.one hwH);clear hwH
  go_wp2_with (refine l1X HH 0 ?_)
  go_ret
  exact⟨by rw [HF.out];rfl,HH.out.ext⟩
theorem zB{y:Int}(h:(Lit.int .i64 y).wf=true): -9223372036854775808≤y∧y≤9223372036854775807:=by
 simp only [Lit.wf,Bool.and_eq_true,decide_eq_true_eq]at h
 exact⟨h.1,h.2⟩
theorem abJ(s:ByteArray):s.toList.isEmpty=decide (s.size=0):=by
 rw [ByteArray.toList_eq]
 have:=zv s
 cases h:s.data.toList with
 | nil=>
   rw [h]at this
   rw [decide_eq_true (show s.size=0 from this.symm)];rfl
 | cons a l=>
   rw [h,List.length_cons]at this
   rw [decide_eq_false (by omega)];rfl
theorem am3(w:World)(x:Lin)(hM:xf w)(hx:x.sm):
 Calls Tryz.prog 85 #[.agg x.cells.toArray] w fun e w'=>e= .returned (.bool (!liB x))∧Ext w w':=by
 obtain⟨h1,h2,h3,h4⟩:=hx
 have HNm:=hiD (fun W=>qq x.user W (Nat.le_trans h1 (by decide)))
 have HPa:=hiD (fun W (hW:Ext w W)=>aaZ x.path W (hM.ext hW) (Nat.lt_of_le_of_lt h2 (by decide)))
 have HA1:=hiD (fun W=>qh W x.kind 0 (zB h3).1 (zB h3).2)
 have HA2:=hiD (fun W=>qh W x.err 0 (zB h4).1 (zB h4).2)
 have HV:=hiD (show(!liB x)=!((decide (x.user.size=0) || zd x.user) && (zF x.path && (zE x.kind 0 && zE x.err 0)))from rfl)
 have he:=abJ x.user
 clear h1 h2 h3 h4 hM
 generalize (!liB x)=V at *
 obtain⟨us,ki,pa,er⟩:=x
 dsimp only at *
 generalize decide (us.size=0)=b0 at *
 generalize zd us=b1 at *
 generalize zF pa=b2 at *
 generalize zE ki 0=b3 at *
 generalize zE er 0=b4 at *
 simp only [Lin.cells]
 cases b0 <;> cases b1 <;> cases b2 <;> cases b3 <;> cases b4 <;> (focus(go_enter Tryz.func85,Tryz.ntmps85;go_upto_region 1 with fail;generalize hwH:World.alloc w _=w1;have HH:=hiD (Heap.one hwH);clear hwH;go_wp2_with (first | (go_big_want;refine xG HH.out rfl rfl 0 rfl rfl (by decide+kernel) ?_) | (refine l1X HH 0 ?_) | (go_at_call 44;(with_reducible refine(HNm.out _).mono ?_);rintro e wC ⟨rfl,eC⟩;replace HH:=hiD (HH.out.later eC);clear eC) | (go_at_call 138;(with_reducible refine(HPa.out _ HH.out.ext).mono ?_);rintro e wC ⟨rfl,eC⟩;replace HH:=hiD (HH.out.later eC);clear eC) | (go_at_call 80;(with_reducible refine(HA1.out _).mono ?_);rintro e wC ⟨rfl,eC⟩;replace HH:=hiD (HH.out.later eC);clear eC) | (go_at_call 80;(with_reducible refine(HA2.out _).mono ?_);rintro e wC ⟨rfl,eC⟩;replace HH:=hiD (HH.out.later eC);clear eC));go_ret;exact⟨by rw [HV.out];rfl,HH.out.ext⟩))
end Go.Proofs.YtckaneapjpiocaaGreatDoor
