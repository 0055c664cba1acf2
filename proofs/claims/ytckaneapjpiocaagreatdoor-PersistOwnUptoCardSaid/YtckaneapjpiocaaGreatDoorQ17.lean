/- The texts Big, Bare in one file. -/
import Derived.Test.YtckaneapjpiocaaGreatDoorQ16
set_option linter.unusedVariables false
set_option linter.unusedSimpArgs false
set_option maxHeartbeats 8000000
set_option maxRecDepth 100000
namespace Go.Proofs.YtckaneapjpiocaaGreatDoor
open Go.RowKit
theorem adR{P:Program}(w:World)(t e:TypeId)(i:TypeInfo)(size:Nat)(ht:P.underlying t=some (.slice e))(hi:P.info? e=some i)(hs:i.size=size)(A:Option Addr)(n c k m:Nat)(K M:Int)(hK:K=(k:Int))(hM:M=(m:Int))(hk:k≤m)(hm:m≤c):
 (Instr.slice t (.slice A n c) (some (.int .i64 K)) (some (.int .i64 M)) none).run P w= .ok (.slice (zy A c k size) (m - k) (c - k)) w:=by
 subst hK
 subst hM
 subst hs
 have hb:(Instr.sliceBounds true n c (some (.int .i64 (k:Int))) (some (.int .i64 (m:Int))) none).run P w= .ok (k,m,c) w:=by
  simp [Instr.sliceBounds,run_sliceBound (P:=P) w .i64 (m:Int) c .sliceAcap (by omega) (by omega),run_sliceBound (P:=P) w .i64 (k:Int) m .sliceB (by omega) (by omega)]
 simp [Instr.slice,run_underlying ht,hb,sizeOf,typeInfo,hi,zy]
theorem Rd.mid{w:World}{lo hi n c k m:Nat}{A:Option Addr}{l:List UInt8}(h:Rd w lo hi A (bytes l))(hl:n=l.length)(hk:k+m≤n)(hc:n≤c):Rd w lo hi (zy A c k 1) (bytes ((l.drop k).take m)):=by
 have h1:=h.from_ (n:=n) (k:=k) (c:=c) (size:=1) (by rw [yS,hl,Nat.mul_one]) (by omega) hc
 rw [Nat.mul_one]at h1
 have h2:bytes ((l.drop k).take m)=((bytes l).drop k).take m:=by simp [bytes,List.map_drop,List.map_take]
 rw [h2]
 exact h1.take m
theorem aok(w:World)(A:Option Addr)(n c lo hi:Nat)(l:List UInt8)(hn:n=l.length)(h8:n≤8)(hr:Rd w lo hi A (bytes l))(hh:hi≤w.heap.size):
 Calls Tryz.prog 158 #[.slice A n c] w fun e w'=>e= .returned (.int .u64 (val l))∧Ext w w':=by
 have Hn:=hiD hn
 clear hn
 go_enter Tryz.func158,Tryz.ntmps158
 go_wp2_with fail
 go_loopw [3,8] (fun v i wr=> ∃k:Nat,k≤n∧i= .int .i64 k∧v= .int .u64 (val (l.take k))∧Ext w wr) (fun _ i _=>n - (intOf i).toNat)
 case atStart=>exact⟨0,Nat.zero_le _,rfl,rfl,Ext.refl _⟩
 case round=>
  obtain⟨k,hk,rfl,rfl,e1⟩:=hrel
  by_cases hlt:k < n
  ·obtain⟨b1,o1,rfl,_,_,f0⟩:=ab4 (hr.ext e1 hh) (k:=k) (by rw [←Hn.out];omega)
   have hvt:=hiD (agK l k (by rw [←Hn.out];omega))
   have h7:=ah3 l k (by omega)
   have hc:=(l[k]'(by rw [←Hn.out];omega)).toNat_lt
   generalize l[k]'(by rw [←Hn.out];omega)=y at *
   generalize val (l.take k)=q at *
   go_wp2_with fail
   go_roundw
   case rel=>exact⟨k+1,by omega,by go_num,by rw [alH q y.toNat h7 hc,hvt.out],blo⟩
   case measure=>simp [intOf];omega
  ·obtain rfl:k=n:=by omega
   have ht:val (l.take k)=val l:=by rw [List.take_of_length_le (by rw [←Hn.out];exact Nat.le_refl _)]
   rw [ht]
   clear ht
   go_wp2_with fail
   go_ret
   exact⟨rfl,e1⟩
def xJ(l:List UInt8)(k:Nat):Int:=val ((l.drop (k * 8)).take 8)
def qd(l:List UInt8):Su:=if l.length=32 then⟨xJ l 0,xJ l 1,xJ l 2,xJ l 3⟩else Su.zero
def acO(l:List UInt8):Int:=if l.length < 32 then 8 else if 32 < l.length then 5 else 0
def aor(l:List UInt8)(k:Nat):List Value:= [.int .u64 (if 0 < k then xJ l 0 else 0),.int .u64 (if 1 < k then xJ l 1 else 0),.int .u64 (if 2 < k then xJ l 2 else 0),.int .u64 (if 3 < k then xJ l 3 else 0)]
theorem agj(w:World)(A:Option Addr)(n c:Nat)(l:List UInt8)(hn:n=l.length)(hnc:n≤c)(hr:Rd w 0 w.heap.size A (bytes l))(hb:n≤1000000000)(hc:c≤9223372036854775807):
 Calls Tryz.prog 110 #[.slice A n c] w fun e w'=>e= .returned (.tuple #[.agg (qd l).cells.toArray,.int .i64 (acO l)])∧Ext w w':=by
 obtain⟨j0,hj0,hy0,hy1,hy2⟩:=info_parts aaT
 have Hn:=hiD hn
 have HS:=hiD (show qd l=if l.length=32 then⟨xJ l 0,xJ l 1,xJ l 2,xJ l 3⟩else Su.zero from rfl)
 have HE:=hiD (show acO l=if l.length < 32 then 8 else if 32 < l.length then 5 else 0 from rfl)
 rw [←hn]at HS HE
 have HBg:=hiD (fun(W:World) (hW:Ext w W) (k:Nat) (hk:k * 8+8≤n)=>aok W (zy A c (k * 8) 1) 8 (c - k * 8) 0 w.heap.size ((l.drop (k * 8)).take 8) (by simp;omega) (Nat.le_refl _) ((hr.mid hn hk hnc).ext hW (Nat.le_refl _)) hW.size)
 clear hn hr
 by_cases h1:n < 32
 ·rw [if_pos h1]at HE
  rw [if_neg (by omega)]at HS
  go_enter Tryz.func110,Tryz.ntmps110
  go_upto_region 1 with fail
  generalize hwH:World.alloc w _=w1;have HH:=hiD (Heap.one hwH);clear hwH
  go_wp2_with (refine sSX HH qw 0 ?_;clear HH;intro wS HH)
  refine yD qw (by kernel_rfl) HH.out rfl rfl rfl 0 rfl rfl rfl ?_
  rw [HS.out,HE.out]
  exact⟨rfl,HH.out.ext⟩
 ·rw [if_neg h1]at HE
  by_cases h2:32 < n
  ·rw [if_pos h2]at HE
   rw [if_neg (by omega)]at HS
   go_enter Tryz.func110,Tryz.ntmps110
   go_upto_region 1 with fail
   generalize hwH:World.alloc w _=w1;have HH:=hiD (Heap.one hwH);clear hwH
   go_wp2_with (refine sSX HH qw 0 ?_;clear HH;intro wS HH)
   refine yD qw (by kernel_rfl) HH.out rfl rfl rfl 0 rfl rfl rfl ?_
   rw [HS.out,HE.out]
   exact⟨rfl,HH.out.ext⟩
  ·rw [if_neg h2]at HE
   obtain rfl:n=32:=by omega
   rw [if_pos rfl]at HS
   have hsl: ∀W (k:Nat),k * 8+8≤32→(Instr.slice 53 (.slice A 32 c) (some (.int .i64 ((k * 8:Nat):Int))) (some (.int .i64 ((k * 8+8:Nat):Int))) none).run Tryz.prog W= .ok (.slice (zy A c (k * 8) 1) 8 (c - k * 8)) W:=fun W k hk=>by
    have h:=adR (P:=Tryz.prog) W 53 5 j0 1 Tryz.underlying53 hj0 hy1 A 32 c (k * 8) (k * 8+8) _ _ rfl rfl (by omega) (by omega)
    rwa [Nat.add_sub_cancel_left]at h
   go_enter Tryz.func110,Tryz.ntmps110
   go_upto_region 1 with fail
   generalize hwH:World.alloc w _=w1;have HH:=hiD (Heap.one hwH);clear hwH
   go_upto_region 7 with fail
   go_simp;generalize hwA:World.alloc _ _=w2;have HH2:=hiD ((HH).out.allocE hwA);clear hwA HH
   have HS2:=hiD (show Heap w [.box w1.heap.size (aor l 0),_] w2 from HH2.out)
   clear HH2
   go_loopw [16] (fun i wr=> ∃k:Nat,k≤4∧i= .int .i64 k∧Hid (Heap w [.box w1.heap.size (aor l k),.box w.heap.size [.int .u64 0,.int .u64 0,.int .u64 0,.int .u64 0]] wr)) (fun i _=>4 - (intOf i).toNat)
   case atStart=>exact⟨0,Nat.zero_le _,rfl,HS2⟩
   case round=>
    clear HS2
    obtain⟨k,hk,rfl,HH⟩:=hrel
    rcases(show k=0∨k=1∨k=2∨k=3∨k=4 by omega)with rfl | rfl | rfl | rfl | rfl
    ·have h5: ∀W,(Instr.slice 53 (.slice A 32 c) (some (.int .i64 0)) (some (.int .i64 8)) none).run Tryz.prog W= .ok (.slice (zy A c 0 1) 8 (c - 0)) W:=fun W=>hsl W 0 (by omega)
     go_upto_region 9 with fail
     go_wp2_with fail
     refine cX HH (HBg.out _ HH.out.ext 0 (by omega)) ?_
     clear HH
     intro w5 HH5
     have HH:=HH5
     clear HH5 hsl
     go_wp2_with (refine s1X HH 0 ?_;clear HH;intro wS HH)
     go_roundw
     case rel=>exact⟨1,by omega,rfl,HH⟩
     case measure=>simp [intOf]
    ·have h5: ∀W,(Instr.slice 53 (.slice A 32 c) (some (.int .i64 8)) (some (.int .i64 16)) none).run Tryz.prog W= .ok (.slice (zy A c 8 1) 8 (c - 8)) W:=fun W=>hsl W 1 (by omega)
     go_upto_region 9 with fail
     go_wp2_with fail
     refine cX HH (HBg.out _ HH.out.ext 1 (by omega)) ?_
     clear HH
     intro w5 HH5
     have HH:=HH5
     clear HH5 hsl
     go_wp2_with (refine s1X HH 0 ?_;clear HH;intro wS HH)
     go_roundw
     case rel=>exact⟨2,by omega,rfl,HH⟩
     case measure=>simp [intOf]
    ·have h5: ∀W,(Instr.slice 53 (.slice A 32 c) (some (.int .i64 16)) (some (.int .i64 24)) none).run Tryz.prog W= .ok (.slice (zy A c 16 1) 8 (c - 16)) W:=fun W=>hsl W 2 (by omega)
     go_upto_region 9 with fail
     go_wp2_with fail
     refine cX HH (HBg.out _ HH.out.ext 2 (by omega)) ?_
     clear HH
     intro w5 HH5
     have HH:=HH5
     clear HH5 hsl
     go_wp2_with (refine s1X HH 0 ?_;clear HH;intro wS HH)
     go_roundw
     case rel=>exact⟨3,by omega,rfl,HH⟩
     case measure=>simp [intOf]
    ·have h5: ∀W,(Instr.slice 53 (.slice A 32 c) (some (.int .i64 24)) (some (.int .i64 32)) none).run Tryz.prog W= .ok (.slice (zy A c 24 1) 8 (c - 24)) W:=fun W=>hsl W 3 (by omega)
     go_upto_region 9 with fail
     go_wp2_with fail
     refine cX HH (HBg.out _ HH.out.ext 3 (by omega)) ?_
     clear HH
     intro w5 HH5
     have HH:=HH5
     clear HH5 hsl
     go_wp2_with (refine s1X HH 0 ?_;clear HH;intro wS HH)
     go_roundw
     case rel=>exact⟨4,by omega,rfl,HH⟩
     case measure=>simp [intOf]
    ·go_upto_region 11 with fail
     go_wp2_with (first | (refine l1X HH 0 ?_) | (refine sSX HH qw 1 ?_;clear HH;intro wS HH))
     refine yD qw (by kernel_rfl) HH.out rfl rfl rfl 1 rfl rfl rfl ?_
     rw [HS.out,HE.out]
     exact⟨rfl,HH.out.ext⟩
def Rec.bare(x:Rec):Rec:={ x with oA:=none,on:=0,oc:=0 }
def ae7:Rec:=⟨0,⟨#[]⟩,0,0,none,0,0, [],0,0,⟨#[]⟩,0,0,0,0⟩
end Go.Proofs.YtckaneapjpiocaaGreatDoor
