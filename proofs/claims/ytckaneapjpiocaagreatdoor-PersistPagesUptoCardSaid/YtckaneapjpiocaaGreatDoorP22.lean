/- The texts Rf1 in one file. -/
import Derived.Test.YtckaneapjpiocaaGreatDoorP21
set_option linter.unusedVariables false
set_option linter.unusedSimpArgs false
set_option maxHeartbeats 4000000
set_option maxRecDepth 100000
namespace Go.Proofs.YtckaneapjpiocaaGreatDoor
open Go.RowKit Go.Maps Go.Sort Go.Shelf
theorem acf(w:World)(t:Tnt)(s:ByteArray)(h:Sl.At w 0 w.heap.size Dst.cells (Dst.At w 0 w.heap.size) t.sets):
 Calls Tryz.prog 31 #[.agg t.cells.toArray,.string s] w fun e w'=>e= .returned (.int .i64 (zw (fun x:Dst=>decide (x.path=s)) t.sets.xs))∧Ext w w':=by
 have HA:=Lib.hid h
 have HAt:=Lib.hid (qi (fun x:Dst=>decide (x.path=s)) t.sets.xs)
 have HNo:=Lib.hid (xM (fun x:Dst=>decide (x.path=s)) t.sets.xs)
 generalize zw (fun x:Dst=>decide (x.path=s)) t.sets.xs=V at *
 clear h
 obtain⟨name,quota,next,⟨A,n,c,xs⟩,⟨gA,gn,gc,gs⟩,⟨aA,an,ac,ax⟩,⟨lA,ln,lc,ls⟩⟩:=t
 have Hn:=Lib.hid (show n=xs.length from HA.out.len)
 have hm:n≤9223372036854775807:=Nat.le_trans (Nat.le_trans HA.out.le HA.out.cap) (by decide)
 dsimp only at HAt HNo
 simp only [Tnt.cells,Sl.val]
 go_enter Tryz.func31,Tryz.ntmps31
 go_upto_region 1 with fail
 generalize hwH:World.alloc w _=w1;have HH:=Lib.hid (Heap.one hwH);clear hwH
 have c3:=(HH.out.boxAt 0 rfl).cell 3 _ rfl
 go_wp2_with fail
 go_loopw [5] (fun i wr=> ∃k:Nat,k≤n∧i= .int .i64 (k:Int)∧Hid (∀x∈xs.take k,decide (x.path=s)=false)∧wr=w1) (fun i _=>n - (intOf i).toNat)
 case atStart=>exact⟨0,Nat.zero_le _,rfl,Lib.hid (by simp),rfl⟩
 case round=>
  obtain⟨k,hk,rfl,HK,rfl⟩:=hrel
  by_cases hlt:k < n
  ·have hl:k < xs.length:=by rw [←Hn.out];exact hlt
   obtain⟨b1,o1,hA1,_,hb1,G0⟩:=zk (size:=5) (fun _=>rfl) (by omega) (HA.out.rd.ext HH.out.ext (Nat.le_refl _)) hl
   dsimp only at hA1
   subst hA1
   have HY:=Lib.hid (HAt.out k hl HK.out)
   have HT:=Lib.hid (List.take_succ_eq_append_getElem hl)
   have HD:=Lib.hid (yh xs[k].path s)
   have g0:=G0 0 _ rfl
   generalize xs[k]=x at *
   have HE:=Lib.hid HH.out.ext
   simp only [Nat.add_zero]at g0
   obtain⟨y1,y2,y3,y4,y5⟩:=x
   dsimp only at HD HY g0
   clear G0
   by_cases he:y1=s
   ·have hd:(y1.toList == s.toList)=true:=by rw [HD.out];exact decide_eq_true he
    have HV:=Lib.hid (HY.out (decide_eq_true he))
    clear he HY HD
    go_wp2_with fail
    go_ret
    exact⟨by rw [HV.out];rfl,HE.out⟩
   ·have hd:(y1.toList == s.toList)=false:=by rw [HD.out];exact decide_eq_false he
    have he2:=Lib.hid he
    clear he HY HD
    go_wp2_with fail
    go_roundw
    case rel=>
     refine⟨k+1,by omega,by go_num,Lib.hid (fun z hz=>?_),by first | rfl | trivial⟩
     rw [HT.out]at hz
     rcases List.mem_append.1 hz with hz | hz
     ·exact HK.out z hz
     ·simp only [List.mem_singleton]at hz;subst hz;exact decide_eq_false he2.out
    case measure=>(first | (simp [intOf];done) | (simp [intOf];omega))
  ·obtain rfl:k=n:=by omega
   have h1:=HK.out
   rw [List.take_of_length_le (by rw [←Hn.out];exact Nat.le_refl _)]at h1
   have HZ:=Lib.hid (HNo.out h1)
   have HE:=Lib.hid HH.out.ext
   clear h1
   go_wp2_with fail
   go_ret
   exact⟨by rw [HZ.out];rfl,HE.out⟩
theorem aeC(w:World)(t:Dst)(s:ByteArray)(h:Sl.At w 0 w.heap.size Sna.cells (Sna.At w 0 w.heap.size) t.snaps):
 Calls Tryz.prog 78 #[.agg t.cells.toArray,.string s] w fun e w'=>e= .returned (.int .i64 (zw (fun x:Sna=>decide (x.name=s)) t.snaps.xs))∧Ext w w':=by
 have HA:=Lib.hid h
 have HAt:=Lib.hid (qi (fun x:Sna=>decide (x.name=s)) t.snaps.xs)
 have HNo:=Lib.hid (xM (fun x:Sna=>decide (x.name=s)) t.snaps.xs)
 generalize zw (fun x:Sna=>decide (x.name=s)) t.snaps.xs=V at *
 clear h
 obtain⟨path,orig,⟨bA,bn,bc,bd⟩,⟨A,n,c,xs⟩,⟨pA,pn,pc,ps⟩⟩:=t
 have Hn:=Lib.hid (show n=xs.length from HA.out.len)
 have hm:n≤9223372036854775807:=Nat.le_trans (Nat.le_trans HA.out.le HA.out.cap) (by decide)
 dsimp only at HAt HNo
 simp only [Dst.cells,Sl.val]
 go_enter Tryz.func78,Tryz.ntmps78
 go_upto_region 1 with fail
 generalize hwH:World.alloc w _=w1;have HH:=Lib.hid (Heap.one hwH);clear hwH
 have c3:=(HH.out.boxAt 0 rfl).cell 3 _ rfl
 go_wp2_with fail
 go_loopw [5] (fun i wr=> ∃k:Nat,k≤n∧i= .int .i64 (k:Int)∧Hid (∀x∈xs.take k,decide (x.name=s)=false)∧wr=w1) (fun i _=>n - (intOf i).toNat)
 case atStart=>exact⟨0,Nat.zero_le _,rfl,Lib.hid (by simp),rfl⟩
 case round=>
  obtain⟨k,hk,rfl,HK,rfl⟩:=hrel
  by_cases hlt:k < n
  ·have hl:k < xs.length:=by rw [←Hn.out];exact hlt
   obtain⟨b1,o1,hA1,_,hb1,G0⟩:=zk (size:=5) (fun _=>rfl) (by omega) (HA.out.rd.ext HH.out.ext (Nat.le_refl _)) hl
   dsimp only at hA1
   subst hA1
   have HY:=Lib.hid (HAt.out k hl HK.out)
   have HT:=Lib.hid (List.take_succ_eq_append_getElem hl)
   have HD:=Lib.hid (yh xs[k].name s)
   have g0:=G0 0 _ rfl
   generalize xs[k]=x at *
   have HE:=Lib.hid HH.out.ext
   simp only [Nat.add_zero]at g0
   obtain⟨y1,y2,y3,y4,y5⟩:=x
   dsimp only at HD HY g0
   clear G0
   by_cases he:y1=s
   ·have hd:(y1.toList == s.toList)=true:=by rw [HD.out];exact decide_eq_true he
    have HV:=Lib.hid (HY.out (decide_eq_true he))
    clear he HY HD
    go_wp2_with fail
    go_ret
    exact⟨by rw [HV.out];rfl,HE.out⟩
   ·have hd:(y1.toList == s.toList)=false:=by rw [HD.out];exact decide_eq_false he
    have he2:=Lib.hid he
    clear he HY HD
    go_wp2_with fail
    go_roundw
    case rel=>
     refine⟨k+1,by omega,by go_num,Lib.hid (fun z hz=>?_),by first | rfl | trivial⟩
     rw [HT.out]at hz
     rcases List.mem_append.1 hz with hz | hz
     ·exact HK.out z hz
     ·simp only [List.mem_singleton]at hz;subst hz;exact decide_eq_false he2.out
    case measure=>(first | (simp [intOf];done) | (simp [intOf];omega))
  ·obtain rfl:k=n:=by omega
   have h1:=HK.out
   rw [List.take_of_length_le (by rw [←Hn.out];exact Nat.le_refl _)]at h1
   have HZ:=Lib.hid (HNo.out h1)
   have HE:=Lib.hid HH.out.ext
   clear h1
   go_wp2_with fail
   go_ret
   exact⟨by rw [HZ.out];rfl,HE.out⟩
theorem afH(w:World)(x:Dst)(h:Dst.At w 0 w.heap.size x):
 Calls Tryz.prog 43 #[.agg x.cells.toArray] w fun e w'=>e= .returned (.int .i64 (chS x:Nat))∧Ext w w':=by
 have HA:=Lib.hid h.snaps
 have HV:=Lib.hid (show chS x=1+x.body.xs.length+(x.snaps.xs.map fun y:Sna=>1+y.body.xs.length).sum from rfl)
 have HSz:=Lib.hid (fun k=>show((x.snaps.xs.take k).map fun y:Sna=>1+y.body.xs.length).sum≤1099512676352 by
  have h1:=yy ((x.snaps.xs.take k).map fun y:Sna=>1+y.body.xs.length) 1048577 fun z hz=>by
   obtain⟨y,hy,rfl⟩:=List.mem_map.1 hz
   have hy2:=h.snaps.all y (List.mem_of_mem_take hy)
   have:=hy2.bodyS
   rw [hy2.body.len]at this
   omega
  have h2:(x.snaps.xs.take k).length≤1048576:=by rw [List.length_take];have:=h.snapsS;rw [h.snaps.len]at this;omega
  rw [List.length_map]at h1
  exact Nat.le_trans h1 (Nat.le_trans (Nat.mul_le_mul_right 1048577 h2) (by decide)))
 have hbn:x.body.n=x.body.xs.length:=h.body.len
 have hbm:x.body.n≤1048576:=h.bodyS
 have hnm:x.snaps.n≤1048576:=h.snapsS
 rw [←hbn]at HV
 have HSt:=Lib.hid (fun k (hk:k < x.snaps.xs.length)=>show((x.snaps.xs.take (k+1)).map fun y:Sna=>1+y.body.xs.length).sum=((x.snaps.xs.take k).map fun y:Sna=>1+y.body.xs.length).sum+(1+x.snaps.xs[k].body.n)by
  rw [List.take_succ_eq_append_getElem hk,List.map_append,List.sum_append,(h.snaps.all _ (List.getElem_mem hk)).body.len];simp)
 generalize chS x=V at *
 clear h hbn
 obtain⟨path,orig,⟨bA,bn,bc,bd⟩,⟨A,n,c,xs⟩,⟨pA,pn,pc,ps⟩⟩:=x
 have Hn:=Lib.hid (show n=xs.length from HA.out.len)
 dsimp only at HV HSz HSt hbm hnm
 simp only [Dst.cells,Sl.val]
 go_enter Tryz.func43,Tryz.ntmps43
 go_upto_region 1 with fail
 generalize hwH:World.alloc w _=w1;have HH:=Lib.hid (Heap.one hwH);clear hwH
 have c2:=(HH.out.boxAt 0 rfl).cell 2 _ rfl
 have c3:=(HH.out.boxAt 0 rfl).cell 3 _ rfl
 go_wp2_with fail
 go_loopw [3,4] (fun sv i wr=> ∃k sm:Nat,k≤n∧i= .int .i64 (k:Int)∧sv= .int .i64 (1+(bn:Int)+(sm:Int))∧Hid (sm=((xs.take k).map fun y:Sna=>1+y.body.xs.length).sum)∧wr=w1) (fun _ i _=>n - (intOf i).toNat)
 case atStart=>exact⟨0,0,Nat.zero_le _,rfl,by go_num,Lib.hid rfl,rfl⟩
 case round=>
  obtain⟨k,sm,hk,rfl,rfl,HK,rfl⟩:=hrel
  have hsz:sm≤1099512676352:=by rw [HK.out];exact HSz.out k
  by_cases hlt:k < n
  ·have hl:k < xs.length:=by rw [←Hn.out];exact hlt
   obtain⟨b1,o1,hA1,_,hb1,G0⟩:=zk (size:=5) (fun _=>rfl) (by omega) (HA.out.rd.ext HH.out.ext (Nat.le_refl _)) hl
   dsimp only at hA1
   subst hA1
   have HT:=Lib.hid (HSt.out k hl)
   have hyn:=(HA.out.all _ (List.getElem_mem hl)).bodyS
   have g2:=G0 2 _ rfl
   generalize xs[k]=x at *
   obtain⟨nm,gu,⟨dA,dn,dc,dd⟩,y4,y5⟩:=x
   simp only [Sl.val]at g2
   dsimp only at HT hyn
   clear G0
   have hw1:IntKind.i64.wrap (1+(bn:Int)+(sm:Int)+1)=1+(bn:Int)+(sm:Int)+1:=IntWalk.i64_in _ (by omega)
   have hw2:IntKind.i64.wrap (1+(bn:Int)+(sm:Int)+1+(dn:Int))=1+(bn:Int)+(sm:Int)+1+(dn:Int):=IntWalk.i64_in _ (by omega)
   go_wp2_with fail
   go_roundw
   case rel=>exact⟨k+1,sm+(1+dn),by omega,by go_num,by first | (go_num;done) | (simp [hw1,hw2];omega),Lib.hid (by rw [HT.out,HK.out]),by first | rfl | trivial⟩
   case measure=>(first | (simp [intOf];done) | (simp [intOf];omega))
  ·obtain rfl:k=n:=by omega
   have h1:=HK.out
   rw [List.take_of_length_le (by rw [←Hn.out];exact Nat.le_refl _)]at h1
   have HZ:=Lib.hid (show V=1+bn+sm by rw [HV.out,h1])
   have HE:=Lib.hid HH.out.ext
   clear h1 HV
   go_wp2_with fail
   go_ret
   exact⟨ab1 (by rw [HZ.out];omega),HE.out⟩
end Go.Proofs.YtckaneapjpiocaaGreatDoor
