/- The texts Prs, Sbr in one file. -/
import Derived.Test.YtckaneapjpiocaaGreatDoorQ19
set_option linter.unusedVariables false
set_option linter.unusedSimpArgs false
set_option maxHeartbeats 8000000
set_option maxRecDepth 100000
namespace Go.Proofs.YtckaneapjpiocaaGreatDoor
open Go.RowKit
theorem aol{w:World}{lo hi b o:Nat}{l:List UInt8}{k:Nat}(h:Rd w lo hi (some ⟨b,o,none⟩) (bytes l))(hk:k < l.length):w.cell? ⟨b,o+k,none⟩=some (.int .u8 l[k].toNat):=by
 obtain⟨b1,o1,he,_,_,f0⟩:=ab4 h hk
 cases he
 exact f0
theorem aeq{y A:Rec}(h:y.bare=A)(ho:y.on=y.own.length)(hA:A.kind=1∨A.own= []):yJ y=yJ A:=by
 subst h
 obtain⟨kind,name,frm,guid,oA,on,oc,own,index,count,data,s0,s1,s2,s3⟩:=y
 dsimp only at ho
 subst ho
 rcases hA with hA | hA
 ·have hA':kind=1:=hA
  subst hA'
  rfl
 ·have hA':own= []:=hA
  subst hA'
  rfl
theorem ajY(k:Int)(ts:List ByteArray):(zX k ts).kind=1∨(zX k ts).own= []:=by
 unfold zX
 by_cases k1:k=1
 ·rw [if_pos k1];exact .inl rfl
 ·rw [if_neg k1]
  by_cases k2:k=2
  ·rw [if_pos k2];exact .inr rfl
  ·rw [if_neg k2]
   by_cases k3:k=3
   ·rw [if_pos k3];exact .inr rfl
   ·rw [if_neg k3];exact .inr rfl
theorem alj(w:World)(A:Option Addr)(n c:Nat)(l:List UInt8)(hn:n=l.length)(hnc:n≤c)(hr:Rd w 0 w.heap.size A (bytes l))(hb:n≤1000000000)(hc:c≤9223372036854775807):
 Calls Tryz.prog 109 #[.slice A n c] w (ang w l):=by
 rcases hl:l with _ | ⟨b,r⟩
 ·subst hl
  obtain rfl:n=0:=hn
  have HE:=hiD (show psE []=8 from rfl)
  clear hr hnc
  go_enter Tryz.func109,Tryz.ntmps109;go_upto_region 1 with fail;generalize hwH:World.alloc w _=w1;have HH:=hiD (Heap.one hwH);clear hwH
  go_wp2_with (first | (refine sSX HH ze 0 ?_;clear HH;intro wS HH));refine qK ze (by kernel_rfl) HH.out rfl rfl rfl rfl 0 rfl rfl rfl ?_;exact qJ HE.out (by decide) HH.out.ext
 ·rw [←hl]
  obtain⟨j0,hj0,hy0,hy1,hy2⟩:=info_parts aaT
  have Hn:=hiD hn
  have HV:=hiD (show psE l=if b.toNat < 1∨4 < b.toNat then 23 else if l.length < 3 then 8 else if l.length < 3+psN l then 8
   else if(rd (psT l)).1≠0∨yN b.toNat (rd (psT l)).2=false then 33 else if yJ (zX b.toNat (rd (psT l)).2)≠0 then 9 else 0 by subst hl;rfl)
  have HSA:=hiD (show psA l=if psE l=0 then zX b.toNat (rd (psT l)).2 else ae7 by subst hl;rfl)
  have HSM:=hiD (show psM l=if psE l=0 then 3+psN l else 0 from rfl)
  rw [←hn]at HV
  have h0:0 < l.length:=by rw [hl];simp
  have h00:l[0]'h0=b:=by subst hl;rfl
  obtain⟨b1,o1,rfl,hx1,hx2,hx3⟩:=ab4 hr (k:=0) h0
  clear hx1 hx2 hx3
  have HF0:=hiD (fun W (hW:Ext w W)=>show W.cell? ⟨b1,o1,none⟩=some (.int .u8 b.toNat)from by
   have h:=aol (hr.ext hW (Nat.le_refl _)) (k:=0) h0
   rw [h00]at h
   simpa using h)
  have hn1:1≤n:=by rw [hn];omega
  have hbb:=b.toNat_lt
  have z0:((n:Int) == 0)=false:=by simp;omega
  have HMid:=hiD (fun(k m:Nat) (hk:k+m≤n)=>hr.mid (k:=k) (m:=m) hn hk hnc)
  have HRdb:=hiD (ado (psT l))
  have HDl:=hiD (show∀k m,k+m≤n→((l.drop k).take m).length=m from fun k m h=>by simp only [List.length_take,List.length_drop];omega)
  have HTw:=hiD (show 3≤n→yK ((l.drop 1).take 2)=psN l∧qX ((l.drop 1).take 2)=0 from fun h=>af0 (l.drop 1) (by simp;omega))
  clear hn hr hl h0 h00
  have HPT:=hiD (show psT l=(l.drop 3).take (psN l)from rfl)
  generalize b.toNat=v at *
  by_cases q1:v < 1
  ·have HE:=hiD (show psE l=23 by rw [HV.out,if_pos (.inl q1)])
   go_enter Tryz.func109,Tryz.ntmps109;go_upto_region 1 with fail;generalize hwH:World.alloc w _=w1;have HH:=hiD (Heap.one hwH);clear hwH
   have f0:=HF0.out w1 HH.out.ext
   go_wp2_with (first | (refine sSX HH ze 0 ?_;clear HH;intro wS HH));refine qK ze (by kernel_rfl) HH.out rfl rfl rfl rfl 0 rfl rfl rfl ?_;exact qJ HE.out (by decide) HH.out.ext
  ·by_cases q2:4 < v
   ·have HE:=hiD (show psE l=23 by rw [HV.out,if_pos (.inr q2)])
    go_enter Tryz.func109,Tryz.ntmps109;go_upto_region 1 with fail;generalize hwH:World.alloc w _=w1;have HH:=hiD (Heap.one hwH);clear hwH
    have f0:=HF0.out w1 HH.out.ext
    go_wp2_with (first | (refine sSX HH ze 0 ?_;clear HH;intro wS HH));refine qK ze (by kernel_rfl) HH.out rfl rfl rfl rfl 0 rfl rfl rfl ?_;exact qJ HE.out (by decide) HH.out.ext
   ·have q12: ¬(v < 1∨4 < v):=by omega
    rw [if_neg q12]at HV
    by_cases q3:n < 3
    ·have HE:=hiD (show psE l=8 by rw [HV.out,if_pos q3])
     go_enter Tryz.func109,Tryz.ntmps109;go_upto_region 1 with fail;generalize hwH:World.alloc w _=w1;have HH:=hiD (Heap.one hwH);clear hwH
     have f0:=HF0.out w1 HH.out.ext
     go_wp2_with (first | (refine sSX HH ze 0 ?_;clear HH;intro wS HH));refine qK ze (by kernel_rfl) HH.out rfl rfl rfl rfl 0 rfl rfl rfl ?_;exact qJ HE.out (by decide) HH.out.ext
    ·rw [if_neg q3]at HV
     have hs13: ∀W,(Instr.slice 53 (.slice (some ⟨b1,o1,none⟩) n c) (some (.int .i64 1)) (some (.int .i64 3)) none).run Tryz.prog W= .ok (.slice (zy (some ⟨b1,o1,none⟩) c 1 1) 2 (c - 1)) W:=fun W=>adR W 53 5 j0 1 Tryz.underlying53 hj0 hy1 (some ⟨b1,o1,none⟩) n c 1 3 _ _ rfl rfl (by omega) (by omega)
     have HTw2:=hiD (HTw.out (by omega))
     have HNu:=hiD (fun W (hW:Ext w W)=>aaI W (zy (some ⟨b1,o1,none⟩) c 1 1) 2 (c - 1) 0 w.heap.size ((l.drop 1).take 2) (HDl.out 1 2 (by omega)).symm (by omega) ((HMid.out 1 2 (by omega)).ext hW (Nat.le_refl _)) hW.size)
     clear HTw
     go_enter Tryz.func109,Tryz.ntmps109;go_upto_region 1 with fail;generalize hwH:World.alloc w _=w1;have HH:=hiD (Heap.one hwH);clear hwH
     have f0:=HF0.out w1 HH.out.ext
     go_upto_region 7 with fail
     go_wp2_with fail
     refine(HNu.out _ HH.out.ext).mono ?_
     rintro e w2 ⟨rfl,e2⟩
     rw [HTw2.out.1,HTw2.out.2]
     have HH2:=hiD (HH.out.later e2)
     clear HH e2 f0 hs13 HNu HTw2
     have HH:=HH2
     clear HH2
     have hpn:psN l < 65536:=by
      have h1:=abP ((l.drop 1).take 2)
      have h2:((l.drop 1).take 2).length≤2:=by simp;omega
      exact Nat.lt_of_lt_of_le h1 (Nat.pow_le_pow_right (n:=256) (by omega) h2)
     by_cases q4:n < 3+psN l
     ·have HE:=hiD (show psE l=8 by rw [HV.out,if_pos q4])
      generalize psN l=m at *
      go_wp2_with (first | (refine sSX HH ze 0 ?_;clear HH;intro wS HH));refine qK ze (by kernel_rfl) HH.out rfl rfl rfl rfl 0 rfl rfl rfl ?_;exact qJ HE.out (by decide) HH.out.ext
     ·rw [if_neg q4]at HV
      have HT:=hiD (fun W (hW:Ext w W)=>aeK W (zy (some ⟨b1,o1,none⟩) c 3 1) (psN l) (c - 3) (psT l) (by rw [HPT.out];exact(HDl.out 3 (psN l) (by omega)).symm) (by omega) (by rw [HPT.out];exact((HMid.out 3 (psN l) (by omega)).ext hW (Nat.le_refl _)).more (Nat.le_refl _) hW.size) (by omega) (by omega))
      generalize psN l=m at *
      have hs3: ∀W,(Instr.slice 53 (.slice (some ⟨b1,o1,none⟩) n c) (some (.int .i64 3)) (some (.int .i64 (3+(m:Int)))) none).run Tryz.prog W= .ok (.slice (zy (some ⟨b1,o1,none⟩) c 3 1) m (c - 3)) W:=fun W=>by
       have h:=adR (P:=Tryz.prog) W 53 5 j0 1 Tryz.underlying53 hj0 hy1 (some ⟨b1,o1,none⟩) n c 3 (3+m) 3 (3+(m:Int)) rfl (by omega) (by omega) (by omega)
       rwa [Nat.add_sub_cancel_left]at h
      clear HMid HDl HPT
      go_upto_region 10 with fail
      go_wp2_with fail
      refine(HT.out _ HH.out.ext).mono ?_
      rintro e w3 ⟨v3,rfl,hown3,e3⟩
      obtain⟨A3,c3,rfl,hc3,hm3,_⟩:=zr hown3
      have HRr:=hiD (show Rdr.may w3 ⟨A3,c3,(rd (psT l)).2,true⟩from⟨(Rd.of_own hown3).m0,hc3,by simp only [maxLen]at hm3;exact hm3,fun s hs=>Nat.le_trans (HRdb.out.2 s hs) (by decide)⟩)
      have HH3:=hiD (HH.out.later e3)
      have E3:=hiD (HH.out.ext.trans e3)
      clear HH hown3 e3 hs3 HT hc3 hm3
      have HH:=HH3
      clear HH3
      have HRd:=hiD (ajb w3 v A3 (rd (psT l)).2.length c3 (rd (psT l)).2 rfl HRr.out (by omega) (Nat.le_trans HRdb.out.1 (by decide)) (fun s hs=>Nat.le_trans (HRdb.out.2 s hs) (by decide)))
      have HOk:=hiD (af9 v (rd (psT l)).2 (by omega) (Nat.le_trans HRdb.out.1 (by decide)) (fun s hs=>Nat.le_trans (HRdb.out.2 s hs) (by decide)))
      have HOw:=hiD (ajY v (rd (psT l)).2)
      generalize hE1:(rd (psT l)).1=E1 at *
      generalize (rd (psT l)).2=ts at *
      clear hE1 HRr HRdb
      have f0:=HF0.out _ E3.out
      go_upto_region 11 with fail
      go_wp2_with fail
      refine HRd.out.mono ?_
      generalize zX v ts=RA at *
      generalize yN v ts=RB at *
      rintro e w4 ⟨y,rfl,hy1,hy2,hy3,e4⟩
      have HH4:=hiD (HH.out.addRd e4 hy3 (Nat.le_refl _))
      have HY1:=hiD hy1
      have HY2:=hiD hy2
      have HY3:=hiD (hy3.m0)
      have HKc:=hiD (ahg (show y.bare=RA.bare by rw [←hy1];rfl) HOk.out)
      have HKe:=hiD (aeq hy1 hy2 HOw.out)
      have HCk:=hiD (fun W (hW:Ext w4 W)=>ad0 W y (Rd.at HY3.out hW (Nat.le_refl _)) (alt HKc.out hy2))
      clear HH e4 hy1 hy2 hy3 f0 HRd HOk HOw
      have HH:=HH4
      clear HH4
      generalize yJ y=RE at *
      obtain⟨kind,name,frm,guid,oA,on,oc,own,index,count,data,s0,s1,s2,s3⟩:=y
      simp only [Rec.cells]at HCk ⊢
      dsimp only at HY2 HY3 HH
      go_upto_region 12 with fail
      go_simp
      generalize hwA:World.alloc w4 _=w5
      have HEw:=hiD (show Ext w4 w5 by rw [←hwA];exact(Ext.refl w4).alloc _)
      have HH5:=hiD (HH.out.allocE hwA)
      clear hwA HH
      have HH:=HH5
      clear HH5
      by_cases q5:E1=0
      ·subst q5
       cases RB with
       | false=>
         have HE:=hiD (show psE l=33 by rw [HV.out,if_pos (.inr rfl)])
         go_wp2_with (first | (refine sSX HH ze 2 ?_;clear HH;intro wS HH));refine qK ze (by kernel_rfl) HH.out rfl rfl rfl rfl 2 rfl rfl rfl ?_;exact qJ HE.out (by decide) HH.out.ext
       | true=>
         rw [if_neg (by simp)]at HV
         go_upto_region 14 with fail
         go_wp2_with (refine lSX HH ze 0 ?_)
         refine(HCk.out _ ((Ext.refl w4).trans HEw.out)).mono ?_
         rintro e w6 ⟨rfl,e6⟩
         have HH6:=hiD (HH.out.later e6)
         have E6:=hiD (HEw.out.trans e6)
         clear HH e6 HCk
         have HH:=HH6
         clear HH6
         by_cases q6:RE=0
         ·have hE:=HV.out
          rw [←HKe.out,if_neg (by simpa using q6)]at hE
          have hA:=HSA.out
          rw [hE,if_pos rfl]at hA
          have hM:=HSM.out
          rw [hE,if_pos rfl]at hM
          have HE:=hiD hE
          have HA:=hiD hA
          have HM:=hiD hM
          subst q6
          clear hE hA hM HV HSA HSM HKe
          go_wp2_with (first | (refine lSX HH ze 0 ?_) | (refine sSX HH ze 2 ?_;clear HH;intro wS HH))
          refine qK ze (by kernel_rfl) HH.out rfl rfl rfl rfl 2 rfl rfl rfl ?_
          exact⟨⟨kind,name,frm,guid,oA,on,oc,own,index,count,data,s0,s1,s2,s3⟩,by rw [HE.out,HM.out];rfl,by rw [HA.out];exact HY1.out,HY2.out,HH.out.rdAt 1 rfl,HH.out.ext⟩
         ·have hE:=HV.out
          rw [←HKe.out,if_pos (by simpa using q6)]at hE
          have HE:=hiD hE
          clear hE
          have d3:(RE != 0)=true:=by simpa using q6
          go_wp2_with (first | (refine sSX HH ze 2 ?_;clear HH;intro wS HH));refine qK ze (by kernel_rfl) HH.out rfl rfl rfl rfl 2 rfl rfl rfl ?_;exact qJ HE.out (by decide) HH.out.ext
      ·have d3:(E1 != 0)=true:=by simpa using q5
       have HE:=hiD (show psE l=33 by rw [HV.out,if_pos (.inl q5)])
       go_wp2_with (first | (refine sSX HH ze 2 ?_;clear HH;intro wS HH));refine qK ze (by kernel_rfl) HH.out rfl rfl rfl rfl 2 rfl rfl rfl ?_;exact qJ HE.out (by decide) HH.out.ext
def Stg.bare(x:Stg):Stg:={ x with bA:=none,bn:=0,bc:=0,beg:=x.beg.bare }
theorem ajG(x y:Stg)(h:x.bare=y.bare):qV x y=true:=by
 obtain⟨into,⟨kind,name,frm,guid,oA,on,oc,own,index,count,data,s0,s1,s2,s3⟩,bA,bn,bc,body,pos,next,⟨ua,ub,uc,ud⟩,dn⟩:=x
 obtain⟨into',⟨kind',name',frm',guid',oA',on',oc',own',index',count',data',t0,t1,t2,t3⟩,bA',bn',bc',body',pos',next',⟨ua',ub',uc',ud'⟩,dn'⟩:=y
 simp only [Stg.bare,Rec.bare,Stg.mk.injEq,Rec.mk.injEq,Su.mk.injEq]at h
 obtain⟨rfl,⟨rfl,rfl,rfl,rfl,-,-,-,rfl,rfl,rfl,rfl,rfl,rfl,rfl,rfl⟩,-,-,-,rfl,rfl,rfl,⟨rfl,rfl,rfl,rfl⟩,rfl⟩:=h
 simp [qV,adf,adu,sumR]
end Go.Proofs.YtckaneapjpiocaaGreatDoor
