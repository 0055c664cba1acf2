/- The texts Rf2 in one file. -/
import Derived.Test.YtckaneapjpiocaaGreatDoorP22
set_option linter.unusedVariables false
set_option linter.unusedSimpArgs false
set_option maxHeartbeats 4000000
set_option maxRecDepth 100000
namespace Go.Proofs.YtckaneapjpiocaaGreatDoor
open Go.RowKit Go.Maps Go.Sort Go.Shelf
theorem abw{w:World}{lo hi:Nat}{x:Dst}(h:Dst.At w lo hi x):chS x≤1099513724929:=by
 have h1:=yy (x.snaps.xs.map fun y:Sna=>1+y.body.xs.length) 1048577 fun z hz=>by
  obtain⟨y,hy,rfl⟩:=List.mem_map.1 hz
  have hy2:=h.snaps.all y hy
  have:=hy2.bodyS
  rw [hy2.body.len]at this
  omega
 have h2:x.snaps.xs.length≤1048576:=by have:=h.snapsS;rw [h.snaps.len]at this;exact this
 rw [List.length_map]at h1
 have h3:=Nat.le_trans h1 (Nat.le_trans (Nat.mul_le_mul_right 1048577 h2) (show 1048576 * 1048577≤1099512676352 by decide))
 have h4:=h.bodyS
 rw [h.body.len]at h4
 rw [chS]
 omega
theorem ac8(w:World)(t:Tnt)(h:Tnt.At w 0 w.heap.size t)(hs:t.sets.n≤32)(hg:t.stages.n≤4):
 Calls Tryz.prog 16 #[.agg t.cells.toArray] w fun e w'=>e= .returned (.int .i64 (chT t:Nat))∧Ext w w':=by
 have HSa:=Lib.hid h.sets
 have HTa:=Lib.hid h.stages
 have HV:=Lib.hid (show chT t=(t.sets.xs.map chS).sum+(t.stages.xs.map chG).sum from rfl)
 have HS1:=Lib.hid (fun k (hk:k < t.sets.xs.length)=>show((t.sets.xs.take (k+1)).map chS).sum=((t.sets.xs.take k).map chS).sum+chS t.sets.xs[k]by
  rw [List.take_succ_eq_append_getElem hk,List.map_append,List.sum_append];simp)
 have HS2:=Lib.hid (fun k (hk:k < t.stages.xs.length)=>show((t.stages.xs.take (k+1)).map chG).sum=((t.stages.xs.take k).map chG).sum+(1+t.stages.xs[k].bn)by
  rw [List.take_succ_eq_append_getElem hk,List.map_append,List.sum_append,(h.stages.all _ (List.getElem_mem hk)).bodyN];simp [chG])
 have HB1:=Lib.hid (fun k=>show((t.sets.xs.take k).map chS).sum≤35184439197728 by
  have h1:=yy ((t.sets.xs.take k).map chS) 1099513724929 fun z hz=>by
   obtain⟨y,hy,rfl⟩:=List.mem_map.1 hz
   exact abw (h.sets.all y (List.mem_of_mem_take hy))
  have h2:(t.sets.xs.take k).length≤32:=by rw [List.length_take];rw [h.sets.len]at hs;omega
  rw [List.length_map]at h1
  exact Nat.le_trans h1 (Nat.le_trans (Nat.mul_le_mul_right 1099513724929 h2) (by decide)))
 have HB2:=Lib.hid (fun k=>show((t.stages.xs.take k).map chG).sum≤4194308 by
  have h1:=yy ((t.stages.xs.take k).map chG) 1048577 fun z hz=>by
   obtain⟨y,hy,rfl⟩:=List.mem_map.1 hz
   have hy2:=h.stages.all y (List.mem_of_mem_take hy)
   have:=hy2.bodyM
   rw [hy2.bodyN]at this
   rw [chG];omega
  have h2:(t.stages.xs.take k).length≤4:=by rw [List.length_take];rw [h.stages.len]at hg;omega
  rw [List.length_map]at h1
  exact Nat.le_trans h1 (Nat.le_trans (Nat.mul_le_mul_right 1048577 h2) (by decide)))
 have HCa:=Lib.hid (fun(k:Nat) (hk:k < t.sets.xs.length) W (hW:Ext w W)=>afH W t.sets.xs[k] (Dst.At.on (h.sets.all _ (List.getElem_mem hk)) hW (Nat.le_refl _)))
 generalize chT t=V at *
 clear h
 obtain⟨name,quota,next,⟨sA,sn,sc,ss⟩,⟨gA,gn,gc,gs⟩,⟨aA,an,ac,ax⟩,⟨lA,ln,lc,ls⟩⟩:=t
 have Hsn:=Lib.hid (show sn=ss.length from HSa.out.len)
 have Han:=Lib.hid (show an=ax.length from HTa.out.len)
 dsimp only at HV HS1 HS2 HB1 HB2 HCa hs hg
 simp only [Tnt.cells,Sl.val]
 go_enter Tryz.func16,Tryz.ntmps16
 go_upto_region 1 with fail
 generalize hwH:World.alloc w _=w1;have HH:=Lib.hid (Heap.one hwH);clear hwH
 go_wp2_with fail
 go_loopw [3,4] (fun sv i wr=> ∃k sm:Nat,k≤sn∧i= .int .i64 (k:Int)∧sv= .int .i64 (sm:Int)∧Hid (sm=((ss.take k).map chS).sum)∧Hid (Heap w [.box w.heap.size [.string name,.int .i64 quota,.int .i64 next,.slice sA sn sc,.slice gA gn gc,.slice aA an ac,.slice lA ln lc]] wr)) (fun _ i _=>sn - (intOf i).toNat)
 case atStart=>exact⟨0,0,Nat.zero_le _,rfl,rfl,Lib.hid rfl,HH⟩
 case round=>
  clear HH
  obtain⟨k,sm,hk,rfl,rfl,HK,HH⟩:=hrel
  have hsz:sm≤35184439197728:=by rw [HK.out];exact HB1.out k
  have c3:=(HH.out.boxAt 0 rfl).cell 3 _ rfl
  have c5:=(HH.out.boxAt 0 rfl).cell 5 _ rfl
  by_cases hlt:k < sn
  ·have hl:k < ss.length:=by rw [←Hsn.out];exact hlt
   obtain⟨b1,o1,hA1,_,hb1,G0⟩:=zk (size:=5) (fun _=>rfl) (by omega) (HSa.out.rd.ext HH.out.ext (Nat.le_refl _)) hl
   dsimp only at hA1
   subst hA1
   have HT:=Lib.hid (HS1.out k hl)
   have HCk:=Lib.hid (HCa.out k hl wr HH.out.ext)
   have hcx:=abw (HSa.out.all _ (List.getElem_mem hl))
   generalize ss[k]=x at *
   obtain⟨path,orig,⟨bA,bn,bc,bd⟩,⟨fA,fn,fc,fs⟩,⟨pA,pn,pc,ps⟩⟩:=x
   generalize chS _=cx at *
   simp only [Dst.cells,Sl.val]at HCk
   have g0:=G0 0 _ rfl
   have g1:=G0 1 _ rfl
   have g2:=G0 2 _ rfl
   have g3:=G0 3 _ rfl
   have g4:=G0 4 _ rfl
   simp only [Nat.add_zero,Sl.val]at g0 g1 g2 g3 g4
   clear G0
   have hkn:(k:Int) < (sn:Int):=by omega
   have hw1:IntKind.i64.wrap ((sm:Int)+(cx:Int))=(sm:Int)+(cx:Int):=IntWalk.i64_in _ (by omega)
   go_wp2_with fail
   refine HCk.out.mono ?_
   rintro e w2 ⟨rfl,e2⟩
   have HH2:=Lib.hid (HH.out.later e2)
   go_wp2_with fail
   go_roundw
   case rel=>exact⟨k+1,sm+cx,by omega,by go_num,by first | (go_num;done) | (simp [hw1];done) | (simp [hw1];omega),Lib.hid (by rw [HT.out,HK.out]),HH2⟩
   case measure=>(first | (simp [intOf];done) | (simp [intOf];omega))
  ·obtain rfl:k=sn:=by omega
   have h1:=HK.out
   rw [List.take_of_length_le (by rw [←Hsn.out];exact Nat.le_refl _)]at h1
   have HZ:=Lib.hid (show V=sm+(ax.map chG).sum by rw [HV.out,h1])
   have HE:=Lib.hid HH.out.ext
   clear h1 HV
   go_wp2_with fail
   go_loopw [3,5] (fun sv i wr2=> ∃j s2:Nat,j≤an∧i= .int .i64 (j:Int)∧sv= .int .i64 ((sm:Int)+(s2:Int))∧Hid (s2=((ax.take j).map chG).sum)∧wr2=wr) (fun _ i _=>an - (intOf i).toNat)
   case atStart=>exact⟨0,0,Nat.zero_le _,rfl,by go_num,Lib.hid rfl,rfl⟩
   case round=>
    obtain⟨j,s2,hj,rfl,rfl,HK2,rfl⟩:=hrel
    have hsz2:s2≤4194308:=by rw [HK2.out];exact HB2.out j
    by_cases hlt2:j < an
    ·have hl2:j < ax.length:=by rw [←Han.out];exact hlt2
     obtain⟨b2,o2,hA2,_,hb2,G0⟩:=zk (size:=21) (fun _=>rfl) (by omega) (HTa.out.rd.ext HE.out (Nat.le_refl _)) hl2
     dsimp only at hA2
     subst hA2
     have HT:=Lib.hid (HS2.out j hl2)
     have hyn:=(HTa.out.all _ (List.getElem_mem hl2)).bodyM
     have g13:=G0 13 (.slice ax[j].bA ax[j].bn ax[j].bc) rfl
     generalize ax[j].bn=dn at *
     generalize ax[j].bA=dA at *
     generalize ax[j].bc=dc at *
     clear G0
     have hjn:(j:Int) < (an:Int):=by omega
     have hw1:IntKind.i64.wrap ((sm:Int)+(s2:Int)+1)=(sm:Int)+(s2:Int)+1:=IntWalk.i64_in _ (by omega)
     have hw2:IntKind.i64.wrap ((sm:Int)+(s2:Int)+1+(dn:Int))=(sm:Int)+(s2:Int)+1+(dn:Int):=IntWalk.i64_in _ (by omega)
     go_wp2_with fail
     go_roundw
     case rel=>exact⟨j+1,s2+(1+dn),by omega,by go_num,by first | (go_num;done) | (simp [hw1,hw2];omega),Lib.hid (by rw [HT.out,HK2.out]),by first | rfl | trivial⟩
     case measure=>(first | (simp [intOf];done) | (simp [intOf];omega))
    ·obtain rfl:j=an:=by omega
     have h1:=HK2.out
     rw [List.take_of_length_le (by rw [←Han.out];exact Nat.le_refl _)]at h1
     have HZ2:=Lib.hid (show V=sm+s2 by rw [HZ.out,h1])
     clear h1
     go_wp2_with fail
     go_ret
     exact⟨ab1 (by rw [HZ2.out];omega),HE.out⟩
theorem abB(w:World)(x:Lin)(hx:x.sm):
 Calls Tryz.prog 35 #[.agg x.cells.toArray] w fun e w'=>e= .returned (.bool (liB x))∧Ext w w':=by
 obtain⟨h1,h2,h3,h4⟩:=hx
 have HNm:=Lib.hid (fun W=>y0 x.user W (Nat.le_trans h1 (by decide)))
 have HPa:=Lib.hid (fun W (_:Ext w W)=>x7 x.path W (Nat.lt_of_le_of_lt h2 (by decide)))
 have HA1:=Lib.hid (fun W=>show Calls Tryz.prog 30 #[.int .i64 x.kind,.int .i64 0] W fun e w'=>e= .returned (.bool (zy x.kind 0))∧Ext W w' from ym W x.kind 0 (zr h3).1 (zr h3).2)
 have HA2:=Lib.hid (fun W=>show Calls Tryz.prog 30 #[.int .i64 x.err,.int .i64 0] W fun e w'=>e= .returned (.bool (zy x.err 0))∧Ext W w' from ym W x.err 0 (zr h4).1 (zr h4).2)
 have HV:=Lib.hid (show liB x=((decide (x.user.size=0) || zi x.user) && (zv x.path && (zy x.kind 0 && zy x.err 0)))from rfl)
 have he:=qD x.user
 clear h1 h2 h3 h4
 generalize liB x=V at *
 obtain⟨us,ki,pa,er⟩:=x
 dsimp only at *
 generalize decide (us.size=0)=b0 at *
 generalize zi us=b1 at *
 generalize zv pa=b2 at *
 generalize zy ki 0=b3 at *
 generalize zy er 0=b4 at *
 simp only [Lin.cells]
 cases b0 <;> cases b1 <;> cases b2 <;> cases b3 <;> cases b4 <;> (focus(go_enter Tryz.func35,Tryz.ntmps35;go_upto_region 1 with fail;generalize hwH:World.alloc w _=w1;have HH:=Lib.hid (Heap.one hwH);clear hwH;go_wp2_with (first | (go_big_want;refine yH HH.out rfl rfl 0 rfl rfl (by decide+kernel) ?_) | (refine zc HH.out rfl rfl rfl 0 rfl rfl (by decide+kernel) ?_) | (go_at_call 29;(with_reducible refine(HNm.out _).mono ?_);rintro e wC ⟨rfl,eC⟩;replace HH:=Lib.hid (HH.out.later eC);clear eC) | (go_at_call 73;(with_reducible refine(HPa.out _ HH.out.ext).mono ?_);rintro e wC ⟨rfl,eC⟩;replace HH:=Lib.hid (HH.out.later eC);clear eC) | (go_at_call 30;(with_reducible refine(HA1.out _).mono ?_);rintro e wC ⟨rfl,eC⟩;replace HH:=Lib.hid (HH.out.later eC);clear eC) | (go_at_call 30;(with_reducible refine(HA2.out _).mono ?_);rintro e wC ⟨rfl,eC⟩;replace HH:=Lib.hid (HH.out.later eC);clear eC));go_ret;exact⟨by rw [HV.out];rfl,HH.out.ext⟩))
end Go.Proofs.YtckaneapjpiocaaGreatDoor
