/- The texts Pol in one file. -/
import Derived.Test.YtckaneapjpiocaaGreatDoorP30
set_option linter.unusedVariables false
set_option linter.unusedSimpArgs false
set_option maxHeartbeats 8000000
set_option maxRecDepth 100000
namespace Go.Proofs.YtckaneapjpiocaaGreatDoor
open Go.RowKit Go.Maps Go.Sort Go.Shelf
structure Pol where
 cap:Int
 ten:Sl Tnt
 forced:Sl Prp
 log:Sl Lin
def Pol.cells(x:Pol):List Value:= [.int .i64 x.cap,x.ten.val,x.forced.val,x.log.val]
structure Pol.At (w:World) (lo hi:Nat) (x:Pol):Prop where
 cap:(Lit.int .i64 x.cap).wf=true
 ten:Sl.At w lo hi Tnt.cells (Tnt.At w lo hi) x.ten
 tenS:x.ten.n≤1048576
 forced:Pps.At w lo hi x.forced
 forcedS:x.forced.n≤1048576
 log:Sl.At w lo hi Lin.cells Lin.sm x.log
theorem Pol.At.imp{w w':World}{lo hi lo' hi':Nat}{x:Pol}(h:Pol.At w lo hi x)(hr: ∀A cs,Rd w lo hi A cs→Rd w' lo' hi' A cs):Pol.At w' lo' hi' x:=
 ⟨h.cap,Sl.At.imp h.ten (hr _ _) (fun _ hx=>Tnt.At.imp hx hr),h.tenS,Sl.At.imp h.forced (hr _ _) (fun _ h=>h),h.forcedS,Sl.At.imp h.log (hr _ _) (fun _ h=>h)⟩
theorem Pol.At.on{w w':World}{lo hi:Nat}{x:Pol}(h:Pol.At w lo hi x)(e:Ext w w')(hh:hi≤w.heap.size):Pol.At w' lo w'.heap.size x:=h.imp (qv e hh)
def quo(p:Pol):List Int:=p.ten.xs.map Tnt.quota
theorem zS:(Tryz.prog.info? 61).map (·.size)=some 4:=by kernel_rfl
theorem afZ(m:Nat)(hm:m≤1000000000)(u:World):(Instr.makeSlice 54 (.int .i64 0) (.int .i64 (m:Int))).run Tryz.prog u= .ok (.slice (some ⟨u.heap.size,0,none⟩) 0 m) (u.alloc (.cells (ints (List.replicate m 0)).toArray 3)):=by
 obtain⟨i0,hi0,hz0,hz1,hz2⟩:=info_parts acu
 have h:=run_make (P:=Tryz.prog) u 54 3 i0 _ Tryz.underlying54 hi0 hz0 .i64 .i64 0 m (by omega) (by omega) (by rw [hz2];omega) (by omega)
 rw [hz1,Int.toNat_natCast,Nat.mul_one,ace]at h
 exact h
theorem Heap.row0c{w0 w:World}{its:List It}(H:Heap w0 its w)(m:Nat)(hm:m≤maxLen):Heap w0 (.row 3 1 (.slice (some ⟨w.heap.size,0,none⟩) 0 m) 0 []::its) (w.alloc (.cells (ints (List.replicate m 0)).toArray 3)):=
 H.addRow ((Ext.refl w).alloc _) ⟨rfl,.inr ⟨w.heap.size,m,_,rfl,Nat.le_refl _,heap_alloc_new w _,Nat.zero_le _,hm,by simp [ints],rfl⟩⟩
theorem aci(w:World)(p:Pol)(h:Pol.At w 0 w.heap.size p):
 Calls Tryz.prog 63 #[.agg p.cells.toArray] w fun e w'=>e= .returned (.tuple #[.int .i64 (yl (quo p)),.int .i64 (zY (quo p))])∧Ext w w':=by
 obtain⟨i0,hi0,hz0,hz1,hz2⟩:=info_parts acu
 have HTn:=Lib.hid h.ten
 have HQl:=Lib.hid (show(quo p).length=p.ten.n by rw [quo,List.length_map];exact h.ten.len.symm)
 have HQ:=Lib.hid (fun k (hk:k < p.ten.xs.length)=>show(quo p).take (k+1)=(quo p).take k++ [p.ten.xs[k].quota]by
  rw [List.take_succ_eq_append_getElem (by rw [quo,List.length_map];exact hk)];simp [quo])
 have HC:=Lib.hid (fun W A c (hr:Rd W 0 W.heap.size A (ints (quo p)))=>agi W A p.ten.n c (quo p) HQl.out.symm h.tenS hr)
 have hS:=h.tenS
 generalize quo p=Q at *
 generalize yl Q=aV at *
 generalize zY Q=aE at *
 clear h
 obtain⟨cap,⟨tA,tn,tc,tx⟩,⟨fA,fn,fc,fx⟩,⟨lA,ln,lc,lx⟩⟩:=p
 simp only [Pol.cells,Sl.val]
 dsimp only at HQl HQ HC hS
 have hTn:=Lib.hid (show tn=tx.length from HTn.out.len)
 go_enter Tryz.func63,Tryz.ntmps63
 go_upto_region 1 with fail
 generalize hwH:World.alloc w _=w1;have HH:=Lib.hid (Heap.one hwH);clear hwH
 have hmk:=fun u=>afZ tn (by omega) u
 go_upto_region 2 with(refine zc HH.out rfl rfl rfl 0 rfl rfl (by decide+kernel) ?_)
 clear hmk
 obtain⟨w2,hw2⟩: ∃w2,w2=w1.alloc (.cells (ints (List.replicate tn 0)).toArray 3):=⟨_,rfl⟩
 have HH2:=Lib.hid (show Heap w _ w2 by rw [hw2];exact HH.out.row0c tn (by simp only [maxLen];omega))
 rw [←hw2]
 clear hw2 HH
 generalize w1.heap.size=rb at *
 have HH:=HH2
 clear HH2
 go_wp2_with (refine zc HH.out rfl rfl rfl 1 rfl rfl (by decide+kernel) ?_)
 obtain⟨tv,htv⟩: ∃tv:List Value,tv= [.int .i64 cap,.slice tA tn tc,.slice fA fn fc,.slice lA ln lc]:=⟨_,rfl⟩
 rw [←htv]at HH
 clear htv
 go_loopw [4,14] (fun sv i wr=> ∃(k:Nat) (A:Option Addr) (c:Nat),k≤tn∧i= .int .i64 (k:Int)∧sv= .slice A k c∧Hid (Heap w [.row 3 1 (.slice A k c) k (ints (Q.take k)),.box w.heap.size tv] wr)) (fun _ i _=>tn - (intOf i).toNat)
 case atStart=>exact⟨0,_,_,Nat.zero_le _,rfl,rfl,HH⟩
 case round=>
  clear HH
  obtain⟨k,A,c,hk,rfl,rfl,HH⟩:=hrel
  by_cases hlt:k < tn
  ·have hl:k < tx.length:=by rw [←hTn.out];exact hlt
   obtain⟨b1,o1,hA1,_,hb1,G0⟩:=zk (size:=7) (fun _=>rfl) (by omega) (HTn.out.rd.ext HH.out.ext (Nat.le_refl _)) hl
   dsimp only at hA1
   subst hA1
   have HT:=Lib.hid (HQ.out k hl)
   have HG:=Lib.hid (fun j u hu=>G0 j u hu)
   clear G0
   generalize tx[k]=x at *
   obtain⟨name,quota,next,⟨sA,sn,sc,ss⟩,⟨gA,gn,gc,gs⟩,⟨aA,an,ac,ax⟩,⟨mA,mn,mc,ms⟩⟩:=x
   simp only [Tnt.cells,Sl.val]at HG
   dsimp only at HT
   have hkn:(k:Int) < (tn:Int):=by omega
   go_upto_region 5 with(first | (refine zV HG.out rfl zE (by kernel_rfl) rfl rfl rfl ?_) | (refine zt (HH.out.alloc _ _) zE rfl rfl rfl rfl 0 rfl rfl rfl rfl ?_;clear HH;intro wS HHS;have HH:=Lib.hid HHS;clear HHS))
   generalize wr.heap.size=xb at *
   go_wp2_with (first | (refine zc HH.out rfl rfl rfl 0 rfl rfl (by decide+kernel) ?_) | (refine xI (e:=3) (size:=1) (bytes:=8) (news:= [.int .i64 quota]) (lo:=w.heap.size) (.tmp 18) (.tmp 21) _ rfl rfl Tryz.underlying54 hi0 hz0 hz1 hz2 rfl (by omega) (HH.out.allocE rfl) 2 rfl rfl (m:=1) rfl rfl ((HH.out.allocE rfl).boxRd 0 rfl) (by simp [Value.oneCell']) (by simp only [maxLen];omega) (by omega) ?_;rintro v' w' h' ⟨A',c',rfl⟩))
   have HH2:=Lib.hid (show Heap w [.row 3 1 (.slice A' (k+1) c') (k+1) (ints (Q.take (k+1))),.box w.heap.size tv] w' by
    have e2:ints (Q.take (k+1))=ints (Q.take k)++ [.int .i64 quota]:=by rw [HT.out];simp [ints]
    rw [e2]
    exact h'.tail.tail)
   clear h' HH
   go_roundw
   case rel=>exact⟨k+1,A',c',by omega,by go_num,rfl,HH2⟩
   case measure=>(first | (simp [intOf];done) | (simp [intOf];omega))
  ·obtain rfl:k=tn:=by omega
   have hrd:=HH.out.rowRd 0 rfl
   rw [List.take_of_length_le (by rw [HQl.out];exact Nat.le_refl _)]at hrd
   have HR:=Lib.hid (show Rd wr 0 wr.heap.size A (ints Q)from hrd.m0)
   have HE:=Lib.hid HH.out.ext
   clear hrd
   go_wp2_with fail
   refine(HC.out _ _ _ HR.out).mono ?_
   rintro e w5 ⟨rfl,e5⟩
   go_wp2_with fail
   go_ret2
   exact⟨rfl,HE.out.trans e5⟩
theorem aeT(w:World)(p:Pol)(h:Pol.At w 0 w.heap.size p):
 Calls Tryz.prog 115 #[.agg p.cells.toArray] w fun e w'=>e= .returned (.tuple #[.int .i64 (yl (quo p)),.int .i64 (zY (quo p))])∧Ext w w':=by
 obtain⟨i0,hi0,hz0,hz1,hz2⟩:=info_parts acu
 have HTn:=Lib.hid h.ten
 have HQl:=Lib.hid (show(quo p).length=p.ten.n by rw [quo,List.length_map];exact h.ten.len.symm)
 have HQ:=Lib.hid (fun k (hk:k < p.ten.xs.length)=>show(quo p).take (k+1)=(quo p).take k++ [p.ten.xs[k].quota]by
  rw [List.take_succ_eq_append_getElem (by rw [quo,List.length_map];exact hk)];simp [quo])
 have HC:=Lib.hid (fun W A c (hr:Rd W 0 W.heap.size A (ints (quo p)))=>afJ W A p.ten.n c (quo p) HQl.out.symm h.tenS hr)
 have hS:=h.tenS
 generalize quo p=Q at *
 generalize yl Q=aV at *
 generalize zY Q=aE at *
 clear h
 obtain⟨cap,⟨tA,tn,tc,tx⟩,⟨fA,fn,fc,fx⟩,⟨lA,ln,lc,lx⟩⟩:=p
 simp only [Pol.cells,Sl.val]
 dsimp only at HQl HQ HC hS
 have hTn:=Lib.hid (show tn=tx.length from HTn.out.len)
 go_enter Tryz.func115,Tryz.ntmps115
 go_upto_region 1 with fail
 generalize hwH:World.alloc w _=w1;have HH:=Lib.hid (Heap.one hwH);clear hwH
 go_wp2_with fail
 have HH2:=Lib.hid (HH.out.row0 (e:=3) (size:=1))
 clear HH
 go_loopw [4,5] (fun sv i wr=> ∃(k:Nat) (A:Option Addr) (c:Nat),k≤tn∧i= .int .i64 (k:Int)∧sv= .slice A k c∧Hid (Heap w [.row 3 1 (.slice A k c) k (ints (Q.take k)),.box w.heap.size [.int .i64 cap,.slice tA tn tc,.slice fA fn fc,.slice lA ln lc]] wr)) (fun _ i _=>tn - (intOf i).toNat)
 case atStart=>exact⟨0,_,_,Nat.zero_le _,rfl,rfl,HH2⟩
 case round=>
  clear HH2
  obtain⟨k,A,c,hk,rfl,rfl,HH⟩:=hrel
  by_cases hlt:k < tn
  ·have hl:k < tx.length:=by rw [←hTn.out];exact hlt
   obtain⟨b1,o1,hA1,_,hb1,G0⟩:=zk (size:=7) (fun _=>rfl) (by omega) (HTn.out.rd.ext HH.out.ext (Nat.le_refl _)) hl
   dsimp only at hA1
   subst hA1
   have HT:=Lib.hid (HQ.out k hl)
   have g1:=G0 1 (.int .i64 tx[k].quota) rfl
   clear G0
   generalize tx[k].quota=quota at *
   have hkn:(k:Int) < (tn:Int):=by omega
   go_wp2_with (first | (refine zc HH.out rfl rfl rfl 1 rfl rfl (by decide+kernel) ?_) | (refine xI (e:=3) (size:=1) (bytes:=8) (news:= [.int .i64 quota]) (lo:=w.heap.size) (.tmp 13) (.tmp 20) _ rfl rfl Tryz.underlying54 hi0 hz0 hz1 hz2 rfl (by omega) (HH.out.allocE rfl) 1 rfl rfl (m:=1) rfl rfl ((HH.out.allocE rfl).boxRd 0 rfl) (by simp [Value.oneCell']) (by simp only [maxLen];omega) (by omega) ?_;rintro v' w' h' ⟨A',c',rfl⟩))
   have HH2:=Lib.hid (show Heap w [.row 3 1 (.slice A' (k+1) c') (k+1) (ints (Q.take (k+1))),.box w.heap.size [.int .i64 cap,.slice (some ⟨b1,o1,none⟩) tn tc,.slice fA fn fc,.slice lA ln lc]] w' by
    have e2:ints (Q.take (k+1))=ints (Q.take k)++ [.int .i64 quota]:=by rw [HT.out];simp [ints]
    rw [e2]
    exact h'.tail)
   clear h' HH
   go_roundw
   case rel=>exact⟨k+1,A',c',by omega,by go_num,rfl,HH2⟩
   case measure=>(first | (simp [intOf];done) | (simp [intOf];omega))
  ·obtain rfl:k=tn:=by omega
   have hrd:=HH.out.rowRd 0 rfl
   rw [List.take_of_length_le (by rw [HQl.out];exact Nat.le_refl _)]at hrd
   have HR:=Lib.hid (show Rd wr 0 wr.heap.size A (ints Q)from hrd.m0)
   have HE:=Lib.hid HH.out.ext
   clear hrd
   go_wp2_with (refine zc HH.out rfl rfl rfl 1 rfl rfl (by decide+kernel) ?_)
   refine(HC.out _ _ _ HR.out).mono ?_
   rintro e w5 ⟨rfl,e5⟩
   go_wp2_with fail
   go_ret2
   exact⟨rfl,HE.out.trans e5⟩
end Go.Proofs.YtckaneapjpiocaaGreatDoor
