/- The texts Rblk in one file. -/
import Derived.Test.YtckaneapjpiocaaGreatDoorP9
set_option linter.unusedVariables false
set_option linter.unusedSimpArgs false
set_option maxHeartbeats 4000000
set_option maxRecDepth 100000
namespace Go.Proofs.YtckaneapjpiocaaGreatDoor
open Go.RowKit
theorem aap(w:World)(A:Option Addr)(n c:Nat)(xs:List Blk)(hn:n=xs.length)(hm:n≤9223372036854775807)(hr:Rd w 0 w.heap.size A (blks xs))(hwf: ∀x∈xs,x.wf):
 Calls Tryz.prog 75 #[.slice A n c] w fun e w'=>e= .returned (.int .i64 (bkE xs))∧Ext w w':=by
 have Hn:=Lib.hid hn
 have HW:=Lib.hid hwf
 have HR:=Lib.hid hr
 clear hn hwf hr
 go_enter Tryz.func75,Tryz.ntmps75
 go_wp2_with fail
 go_loopw [3] (fun i wr=> ∃k:Nat,k≤n∧i= .int .i64 k∧Hid (xk xs k=false)∧Ext w wr) (fun i _=>n - (intOf i).toNat)
 case atStart=>exact⟨0,Nat.zero_le _,rfl,Lib.hid rfl,Ext.refl _⟩
 case round=>
  obtain⟨k,hk,rfl,HK,e1⟩:=hrel
  by_cases hlt:k < n
  ·have hl:k < xs.length:=by rw [←Hn.out];exact hlt
   obtain⟨b1,o1,rfl,_,_,g0,g1⟩:=aaO (Rd.at HR.out e1 (Nat.le_refl _)) (k:=k) hl
   have hw9:=HW.out _ (List.getElem_mem hl)
   have hbad:=Lib.hid (aaA xs k hl)
   have hprev:0 < k→ ∃ip:Int,aam xs (k - 1)=ip∧ -9223372036854775808≤ip∧ip≤9223372036854775807∧wr.cell? ⟨b1,o1+(k - 1) * 2,none⟩=some (.int .i64 ip):=fun h0=>by
    have hl1:k - 1 < xs.length:=by omega
    obtain⟨b2,o2,he,_,_,g2,_⟩:=aaO (Rd.at HR.out e1 (Nat.le_refl _)) (k:=k - 1) hl1
    simp only [Option.some.injEq,Addr.mk.injEq,and_true]at he
    obtain⟨rfl,rfl⟩:=he
    have hw8:=HW.out _ (List.getElem_mem hl1)
    exact⟨_,aa7 xs (k - 1) hl1,hw8.1,hw8.2.1,g2⟩
   have HPrev:=Lib.hid hprev
   clear hprev
   generalize xs[k]=y at *
   obtain⟨i0,d0⟩:=y
   obtain⟨w1,w2,w3⟩:=hw9
   simp only at w1 w2 w3 g0 g1
   have w1: -9223372036854775808≤i0:=w1
   have w2:i0≤9223372036854775807:=w2
   have w3:d0.size≤9223372036854775807:=w3
   have hbad2:=Lib.hid (show qQ xs k=(yN i0 d0.size || (decide (0 < k) && decide (i0≤aam xs (k - 1))))from hbad.out)
   clear hbad
   have p0:(0:Int)≤k:=by omega
   have p1:(k:Int) < n:=by omega
   skip
   by_cases h1:i0 < 0
   ·have HB:=Lib.hid (show bkE xs=9 by rw [bkE,yY xs k _ hl (by rw [hbad2.out,yN];simp [h1])];rfl)
    go_wp2_with fail
    refine wp_region_held_drew (S:=fun w'=>w'=wr.drew) (by kernel_rfl) rfl (fun hHeld=>?_)
    refine tW 0 7 ?_
    refine sW 7 6 ?_
    refine tW 13 2 ?_
    refine sW 15 7 ?_
    refine tW 22 2 ?_
    refine sW 24 16 ?_
    refine tW 40 1 ?_
    refine wpAnyH_done (by kernel_rfl) ?_ _
    go_wp2_with fail
    go_ret
    exact⟨by rw [HB.out];rfl,blo⟩
   ·have h1':0≤i0:=by omega
    have d1:decide (i0 < 0)=false:=by simp;omega
    clear h1
    by_cases h2:1024≤i0
    ·have HB:=Lib.hid (show bkE xs=9 by rw [bkE,yY xs k _ hl (by rw [hbad2.out,yN];simp [h2])];rfl)
     go_wp2_with fail
     refine wp_region_held_drew (S:=fun w'=>w'=wr.drew) (by kernel_rfl) rfl (fun hHeld=>?_)
     refine tW 0 15 ?_
     refine sW 15 7 ?_
     refine tW 22 2 ?_
     refine sW 24 16 ?_
     refine tW 40 1 ?_
     refine wpAnyH_done (by kernel_rfl) ?_ _
     go_wp2_with fail
     go_ret
     exact⟨by rw [HB.out];rfl,blo⟩
    ·have h2':i0 < 1024:=by omega
     have d2:decide (1024≤i0)=false:=by simp;omega
     clear h2
     by_cases h3:d0.size=16
     ·have h3':((d0.size:Int) != 16)=false:=by simp [h3]
      have HD:=Lib.hid (show yN i0 d0.size=false by rw [yN];simp [h3];omega)
      clear h3
      rcases Nat.eq_zero_or_pos k with hk0 | hk0
      ·subst hk0
       rw [Nat.zero_mul,Nat.add_zero]at g0 g1
       have HB:=Lib.hid (show xk xs 1=false by rw [qz,HK.out,hbad2.out,HD.out];rfl)
       go_wp2_with fail
       refine wp_region_held_drew (S:=fun w'=>w'=wr.drew) (by kernel_rfl) rfl (fun hHeld=>?_)
       refine tW 0 27 ?_
       refine sW 27 12 ?_
       refine tW 39 2 ?_
       refine wpAnyH_done (by kernel_rfl) ?_ _
       go_wp2_with fail
       go_roundw
       case rel=>exact⟨1,by omega,by go_num,HB,blo⟩
       case measure=>simp [intOf];omega
      ·obtain⟨ip,hip,q1,q2,gp⟩:=HPrev.out hk0
       obtain⟨j,rfl⟩: ∃j:Nat,k=j+1:=⟨k - 1,by omega⟩
       rw [Nat.add_sub_cancel]at gp hip
       have HIP:=Lib.hid hip
       clear hip
       have p2:(j:Int)+1 - 1=j:=by omega
       have hwj:IntKind.i64.wrap (j:Int)=j:=IntWalk.i64_in _ (by omega)
       have p3:(j:Int) < n:=by omega
       have p4:(0:Int)≤j:=by omega
       have p5:(0:Int)≤(j:Int)+1:=by omega
       have d3:decide ((0:Int) < (j:Int)+1)=true:=by first | (simp;done) | (simp;omega)
       by_cases h4:i0≤ip
       ·have HB:=Lib.hid (show bkE xs=9 by rw [bkE,yY xs (j+1) _ hl (by rw [hbad2.out,HD.out,Nat.add_sub_cancel,HIP.out];simp [h4])];rfl)
        go_wp2_with fail
        refine wp_region_held_drew (S:=fun w'=>w'=wr.drew) (by kernel_rfl) rfl (fun hHeld=>?_)
        refine tW 0 41 ?_
        refine wpAnyH_done (by kernel_rfl) ?_ _
        go_wp2_with fail
        go_ret
        exact⟨by rw [HB.out];rfl,blo⟩
       ·have HB:=Lib.hid (show xk xs (j+1+1)=false by rw [qz,HK.out,hbad2.out,HD.out,Nat.add_sub_cancel,HIP.out];simp [h4])
        have h4':ip < i0:=by omega
        have d4:decide (i0≤ip)=false:=by simp;omega
        clear h4
        go_wp2_with fail
        refine wp_region_held_drew (S:=fun w'=>w'=wr.drew) (by kernel_rfl) rfl (fun hHeld=>?_)
        refine tW 0 41 ?_
        refine wpAnyH_done (by kernel_rfl) ?_ _
        go_wp2_with fail
        go_roundw
        case rel=>exact⟨j+1+1,by omega,by go_num,HB,blo⟩
        case measure=>simp [intOf];omega
     ·have h3':((d0.size:Int) != 16)=true:=by simp;omega
      have HB:=Lib.hid (show bkE xs=9 by rw [bkE,yY xs k _ hl (by rw [hbad2.out,yN];simp [h3])];rfl)
      clear h3
      go_wp2_with fail
      refine wp_region_held_drew (S:=fun w'=>w'=wr.drew) (by kernel_rfl) rfl (fun hHeld=>?_)
      refine tW 0 24 ?_
      refine sW 24 16 ?_
      refine tW 40 1 ?_
      refine wpAnyH_done (by kernel_rfl) ?_ _
      go_wp2_with fail
      go_ret
      exact⟨by rw [HB.out];rfl,blo⟩
  ·obtain rfl:k=n:=by omega
   have HB:=Lib.hid (show bkE xs=0 by rw [bkE,←Hn.out,HK.out];rfl)
   go_wp2_with fail
   go_ret
   exact⟨by rw [HB.out];rfl,e1⟩
end Go.Proofs.YtckaneapjpiocaaGreatDoor
