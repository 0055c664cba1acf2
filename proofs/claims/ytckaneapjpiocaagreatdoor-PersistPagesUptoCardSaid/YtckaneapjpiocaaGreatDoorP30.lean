/- The texts Usg, Cnt, Ldg, Bgh, Nd in one file. -/
import Derived.Test.YtckaneapjpiocaaGreatDoorP23
import Derived.Test.YtckaneapjpiocaaGreatDoorP29
set_option linter.unusedVariables false
set_option linter.unusedSimpArgs false
set_option maxHeartbeats 8000000
set_option maxRecDepth 100000
namespace Go.Proofs.YtckaneapjpiocaaGreatDoor
open Go.RowKit Go.Maps Go.Sort Go.Shelf
theorem aeK(w:World)(A:Option Addr)(n c:Nat)(hn:n≤1048576):Calls Tryz.prog 237 #[.slice A n c] w fun e w'=>e= .returned (.int .i64 (((n+1:Nat):Int)))∧w'=w:=by
 have hw1:IntKind.i64.wrap ((n:Int)+1)=(n:Int)+1:=IntWalk.i64_in _ (by omega)
 go_enter Tryz.func237,Tryz.ntmps237
 go_wp2_with fail
 go_ret
 exact⟨rfl,rfl⟩
theorem abp{w0 w:World}{its:List It}(b s j:Nat)(vs:List Value)(H:Heap w0 its w)(hj:its[j]?=some (.box b (.int .i64 (s:Int)::vs)))(A:Option Addr)(n c:Nat)(hn:n≤1048576)(hs:s≤1000000000000000):
 Calls Tryz.prog 223 #[.pointer (some ⟨b,0,none⟩),.slice A n c] w fun e w'=>e= .returned (.tuple #[])∧Heap w0 (its.set j (.box b (.int .i64 ((s+(n+1):Nat):Int)::vs))) w':=by
 have HH:=Lib.hid H
 have hw1:IntKind.i64.wrap ((s:Int)+((n+1:Nat):Int))=((s+(n+1):Nat):Int):=by rw [IntWalk.i64_in _ (by omega)];omega
 clear H
 go_enter Tryz.func223,Tryz.ntmps223
 have HH2:=Lib.hid HH.out.drew
 clear HH
 refine ab4 (fun k=>decide (k≤6)) (S:=Heap w0 its) (by kernel_rfl) HH2.out (fun hHeld=>?_)
 generalize World.drew _=wd at *
 refine tM 0 3 ?_
 refine mG 3 rfl (fun wT hST=>za hST rfl rfl j hj rfl (by kernel_rfl)) hHeld ?_
 (try simp only [Act.put,lyA,lyB,lyC])
 refine tM 4 1 ?_
 clear hHeld
 refine abn 5 rfl (by kernel_rfl) (by kernel_rfl) (fun K hK=>?_)
 go_simp
 refine(aeK _ A n c hn).mono ?_
 rintro e w2 ⟨rfl,rfl⟩
 go_wp2_with fail
 refine hK.out _ _ HH2.out (fun hHeld=>?_)
 clear hK K
 (try simp only [Act.put,lyA,lyB,lyC])
 clear hHeld
 refine qw 6 rfl (by kernel_rfl) (by kernel_rfl) (by kernel_rfl) (fun K hK=>?_)
 go_simp
 refine hK.out _ _ ?_
 clear hK K
 (try simp only [Act.put,lyA,lyB,lyC])
 refine ags 7 (v:=?_) rfl (by kernel_rfl) (by kernel_rfl) (by kernel_rfl) (by kernel_rfl) (fun _ _ _ h=>h) (by kernel_rfl) ?_ (fun h=>absurd h (adv (by kernel_rfl))) ?_;rotate_left;(focus(intro w;go_simp <;> with_reducible rfl));(try simp only [Act.put,lyA,lyB,lyC])
 refine ags 8 (v:=?_) rfl (by kernel_rfl) (by kernel_rfl) (by kernel_rfl) (by kernel_rfl) (fun _ _ _ h=>h) (by kernel_rfl) ?_ (fun h=>absurd h (adv (by kernel_rfl))) ?_;rotate_left;(focus(intro w;go_simp <;> with_reducible rfl));(try simp only [Act.put,lyA,lyB,lyC])
 refine qw 9 rfl (by kernel_rfl) (by kernel_rfl) (by kernel_rfl) (fun K hK=>?_)
 refine qG (v:= .int .i64 ((s+(n+1):Nat):Int)) HH2.out rfl rfl (by rw [←hw1];rfl) j hj (by simp) rfl (by kernel_rfl) ?_
 intro w9 hh9
 have HH9:=Lib.hid hh9
 clear hh9 HH2
 refine hK.out _ _ ?_
 clear hK K
 (try simp only [Act.put,lyA,lyB,lyC])
 refine aa4 (by kernel_rfl) ?_
 go_wp2_with fail
 go_end0
 exact⟨rfl,HH9.out⟩
theorem ac0{w0 w:World}{its:List It}(b s:Nat)(vs:List Value)(H:Heap w0 (.box b (.int .i64 (s:Int)::vs)::its) w)(x:Dst)(hx:Dst.At w0 0 w0.heap.size x)(hs:s≤100000000000000):
 Calls Tryz.prog 236 #[.agg x.cells.toArray,.func (.func 223) #[.pointer (some ⟨b,0,none⟩)] #[]] w fun e w'=>e= .returned (.tuple #[])∧Heap w0 (.box b (.int .i64 ((s+chS x:Nat):Int)::vs)::its) w':=by
 have HH:=Lib.hid H
 have HX:=Lib.hid hx
 have hbS:=hx.bodyS
 have hfS:=hx.snapsS
 have hcx:=abw hx
 have HV:=Lib.hid (show chS x=1+x.body.n+(x.snaps.xs.map fun y:Sna=>1+y.body.xs.length).sum by rw [chS,hx.body.len])
 have HS1:=Lib.hid (fun k (hk:k < x.snaps.xs.length)=>show((x.snaps.xs.take (k+1)).map fun y:Sna=>1+y.body.xs.length).sum=((x.snaps.xs.take k).map fun y:Sna=>1+y.body.xs.length).sum+(x.snaps.xs[k].body.n+1)by
  rw [List.take_succ_eq_append_getElem hk,List.map_append,List.sum_append,(hx.snaps.all _ (List.getElem_mem hk)).body.len];simp;omega)
 clear H hx
 generalize chS x=V at *
 obtain⟨Z,hZ⟩: ∃Z:Int,Z=((s+V:Nat):Int):=⟨_,rfl⟩
 rw [←hZ]
 have HZ:=Lib.hid hZ
 clear hZ
 obtain⟨path,orig,⟨bA,bn,bc,bd⟩,⟨fA,fn,fc,fs⟩,⟨pA,pn,pc,ps⟩⟩:=x
 simp only [Dst.cells,Sl.val]
 dsimp only at HV HS1 hbS hfS
 go_enter Tryz.func236,Tryz.ntmps236
 go_upto_region 1 with fail
 generalize hwA:World.alloc w _=w1
 have HH2:=Lib.hid (HH.out.allocE hwA)
 clear hwA HH
 have HH:=HH2
 clear HH2
 generalize w.heap.size=xb at *
 go_wp2_with (refine zc HH.out rfl rfl rfl 0 rfl rfl (by decide+kernel) ?_)
 refine(abp b s 1 vs HH.out rfl bA bn bc hbS (by omega)).mono ?_
 rintro e w2 ⟨rfl,h2⟩
 replace HH:=Lib.hid h2
 simp only [List.set_cons_succ,List.set_cons_zero]at HH
 clear h2
 go_wp2_with (refine zc HH.out rfl rfl rfl 0 rfl rfl (by decide+kernel) ?_)
 have HF:=Lib.hid (show fn=fs.length from HX.out.snaps.len)
 have HSn:=Lib.hid HX.out.snaps
 clear HX
 go_loopw [13] (fun i wr=> ∃k sm:Nat,k≤fn∧i= .int .i64 (k:Int)∧Hid (sm=((fs.take k).map fun y:Sna=>1+y.body.xs.length).sum)∧sm≤V∧Hid (Heap w0 (.box xb [.string path,.string orig,.slice bA bn bc,.slice fA fn fc,.slice pA pn pc]:: .box b (.int .i64 ((s+(bn+1)+sm:Nat):Int)::vs)::its) wr)) (fun i _=>fn - (intOf i).toNat)
 case atStart=>exact⟨0,0,Nat.zero_le _,rfl,Lib.hid rfl,Nat.zero_le _,HH⟩
 case round=>
  clear HH
  obtain⟨k,sm,hk,rfl,HK,hsm,HH⟩:=hrel
  by_cases hlt:k < fn
  ·have hl:k < fs.length:=by rw [←HF.out];exact hlt
   obtain⟨b1,o1,hA1,_,hb1,G0⟩:=zk (size:=5) (fun _=>rfl) (by omega) (HSn.out.rd.ext HH.out.ext (Nat.le_refl _)) hl
   dsimp only at hA1
   subst hA1
   have HT:=Lib.hid (HS1.out k hl)
   have hyS:=(HSn.out.all _ (List.getElem_mem hl)).bodyS
   have hle:sm+(fs[k].body.n+1)≤V:=by
    have h1:=HT.out
    rw [←HK.out]at h1
    have h2:((fs.take (k+1)).map fun y:Sna=>1+y.body.xs.length).sum≤(fs.map fun y:Sna=>1+y.body.xs.length).sum:=by
     conv=>rhs;rw [←List.take_append_drop (k+1) fs]
     rw [List.map_append,List.sum_append];omega
    have h3:=HV.out
    omega
   generalize fs[k]=x at *
   obtain⟨nm,gd,⟨yA,yn,yc,yd⟩,⟨tA,tn,tc,tx⟩,⟨qA,qn,qc,qx⟩⟩:=x
   dsimp only at hyS hle
   have HG:=Lib.hid (fun j u hu=>G0 j u hu)
   clear G0
   simp only [Sna.cells,Sl.val]at HG
   have hkn:(k:Int) < (fn:Int):=by omega
   go_upto_region 5 with(first | (refine zV HG.out rfl x0 (by kernel_rfl) rfl rfl rfl ?_) | (refine zt (HH.out.alloc _ _) x0 rfl rfl rfl rfl 0 rfl rfl rfl rfl ?_;clear HH;intro wS HHS;have HH:=Lib.hid HHS;clear HHS))
   generalize wr.heap.size=yb at *
   go_wp2_with (refine zc HH.out rfl rfl rfl 0 rfl rfl (by decide+kernel) ?_)
   refine(abp b (s+(bn+1)+sm) 2 vs HH.out rfl yA yn yc hyS (by omega)).mono ?_
   rintro e w3 ⟨rfl,h3⟩
   replace HH:=Lib.hid h3.tail
   simp only [List.set_cons_succ,List.set_cons_zero]at HH
   clear h3
   go_wp2_with fail
   go_roundw
   case rel=>exact⟨k+1,sm+(yn+1),by omega,by go_num,Lib.hid (by rw [HT.out,HK.out]),hle,by rw [←Nat.add_assoc];exact HH⟩
   case measure=>(first | (simp [intOf];done) | (simp [intOf];omega))
  ·obtain rfl:k=fn:=by omega
   have h1:=HK.out
   rw [List.take_of_length_le (by rw [←HF.out];exact Nat.le_refl _)]at h1
   have h2:=HV.out
   rw [←h1]at h2
   have h3:s+(bn+1)+sm=s+V:=by omega
   rw [h3,←HZ.out]at HH
   clear h1 h2 h3
   go_wp2_with fail
   go_end0
   exact⟨rfl,HH.out.tail⟩
theorem afE{w0 w:World}{its:List It}(b s:Nat)(vs:List Value)(H:Heap w0 (.box b (.int .i64 (s:Int)::vs)::its) w)(x:Dst)(hx:Dst.At w0 0 w0.heap.size x)(hs:s≤100000000000000):
 Calls Tryz.prog 222 #[.pointer (some ⟨b,0,none⟩),.agg x.cells.toArray] w fun e w'=>e= .returned (.tuple #[])∧Heap w0 (.box b (.int .i64 ((s+chS x:Nat):Int)::vs)::its) w':=by
 have HH:=Lib.hid H
 have HB:=Lib.hid (fun W (hW:Heap w0 (.box b (.int .i64 (s:Int)::vs)::(its++ [.box w.heap.size x.cells])) W)=>ac0 b s vs hW x hx hs)
 clear H hx
 generalize ((s+chS x:Nat):Int)=Z at *
 obtain⟨path,orig,⟨bA,bn,bc,bd⟩,⟨fA,fn,fc,fs⟩,⟨pA,pn,pc,ps⟩⟩:=x
 simp only [Dst.cells,Sl.val]at HB ⊢
 go_enter Tryz.func222,Tryz.ntmps222
 go_upto_region 1 with fail
 generalize hwA:World.alloc w _=w1
 have HH2:=Lib.hid (HH.out.allocE hwA)
 clear hwA HH
 have HH:=HH2
 clear HH2
 generalize w.heap.size=xb at *
 have HH3:=Lib.hid (show Heap w0 (.box b (.int .i64 (s:Int)::vs)::(its++ [.box xb [.string path,.string orig,.slice bA bn bc,.slice fA fn fc,.slice pA pn pc]])) w1 from(Heap.swap (a:= [_]) HH.out))
 go_wp2_with (refine zp HH.out xw (by kernel_rfl) rfl rfl rfl 0 rfl rfl ?_)
 refine(HB.out _ HH3.out).mono ?_
 rintro e w3 ⟨rfl,h3⟩
 replace HH:=Lib.hid h3
 clear h3
 go_wp2_with fail
 go_end0
 exact⟨rfl,HH.out.pre (a:= .box b (.int .i64 Z::vs)::its)⟩
def ahK(w w':World)(q:Int)(V:Nat)(e:Ending):Prop:= ∃b,e= .returned (.pointer (some ⟨b,0,none⟩))∧Heap w [.box b [.int .i64 (V:Int),.int .i64 q]] w'
theorem acC(w:World)(t:Tnt)(h:Tnt.At w 0 w.heap.size t)(hs:t.sets.n≤32)(hg:t.stages.n≤4):
 Calls Tryz.prog 198 #[.agg t.cells.toArray] w fun e w'=>ahK w w' t.quota (chT t) e:=by
 have HSa:=Lib.hid h.sets
 have HTa:=Lib.hid h.stages
 have HV:=Lib.hid (show chT t=(t.sets.xs.map chS).sum+(t.stages.xs.map chG).sum from rfl)
 have HS1:=Lib.hid (fun k (hk:k < t.sets.xs.length)=>show((t.sets.xs.take (k+1)).map chS).sum=((t.sets.xs.take k).map chS).sum+chS t.sets.xs[k]by
  rw [List.take_succ_eq_append_getElem hk,List.map_append,List.sum_append];simp)
 have HS2:=Lib.hid (fun k (hk:k < t.stages.xs.length)=>show((t.stages.xs.take (k+1)).map chG).sum=((t.stages.xs.take k).map chG).sum+(t.stages.xs[k].bn+1)by
  rw [List.take_succ_eq_append_getElem hk,List.map_append,List.sum_append,(h.stages.all _ (List.getElem_mem hk)).bodyN];simp [chG];omega)
 have HB1:=Lib.hid (fun k=>show((t.sets.xs.take k).map chS).sum≤35184439197728 by
  have h1:=yy ((t.sets.xs.take k).map chS) 1099513724929 fun z hz=>by
   obtain⟨y,hy,rfl⟩:=List.mem_map.1 hz
   exact abw (h.sets.all y (List.mem_of_mem_take hy))
  have h2:(t.sets.xs.take k).length≤32:=by rw [List.length_take];rw [h.sets.len]at hs;omega
  rw [List.length_map]at h1
  exact Nat.le_trans h1 (Nat.le_trans (Nat.mul_le_mul_right 1099513724929 h2) (by decide)))
 have HB2:=Lib.hid (fun k=>show((t.stages.xs.take k).map chG).sum≤4194308 by
  have h1:=yy ((t.stages.xs.take k).map chG) 1048577 fun z hz=>by
   obtain⟨y,hy,rfl⟩:=List.mem_map.1 hz
   have hy2:=h.stages.all y (List.mem_of_mem_take hy)
   have:=hy2.bodyM
   rw [hy2.bodyN]at this
   rw [chG];omega
  have h2:(t.stages.xs.take k).length≤4:=by rw [List.length_take];rw [h.stages.len]at hg;omega
  rw [List.length_map]at h1
  exact Nat.le_trans h1 (Nat.le_trans (Nat.mul_le_mul_right 1048577 h2) (by decide)))
 generalize hVV:chT t=V at *
 clear h hVV
 obtain⟨name,quota,next,⟨sA,sn,sc,ss⟩,⟨gA,gn,gc,gs⟩,⟨aA,an,ac,ax⟩,⟨lA,ln,lc,ls⟩⟩:=t
 have Hsn:=Lib.hid (show sn=ss.length from HSa.out.len)
 have Han:=Lib.hid (show an=ax.length from HTa.out.len)
 dsimp only at HV HS1 HS2 HB1 HB2 hs hg ⊢
 simp only [Tnt.cells,Sl.val]
 go_enter Tryz.func198,Tryz.ntmps198
 go_upto_region 1 with fail
 generalize hwH:World.alloc w _=w1;have HH:=Lib.hid (Heap.one hwH);clear hwH
 obtain⟨tv,htv⟩: ∃tv:List Value,tv= [.string name,.int .i64 quota,.int .i64 next,.slice sA sn sc,.slice gA gn gc,.slice aA an ac,.slice lA ln lc]:=⟨_,rfl⟩
 rw [←htv]at HH
 have HTV:=Lib.hid htv
 clear htv
 have c1:=(HH.out.boxAt 0 rfl).cell 1 (.int .i64 quota) (by rw [HTV.out];rfl)
 go_upto_region 2 with fail
 generalize hwA:World.alloc w1 _=w2
 have HH2:=Lib.hid (HH.out.allocE hwA)
 clear hwA HH c1
 have HH:=HH2
 clear HH2
 have htb:=HH.out.ext.size
 generalize w1.heap.size=cb at *
 have c3:=(HH.out.boxAt 1 rfl).cell 3 (.slice sA sn sc) (by rw [HTV.out];rfl)
 go_wp2_with fail
 go_loopw [15] (fun i wr=> ∃k sm:Nat,k≤sn∧i= .int .i64 (k:Int)∧Hid (sm=((ss.take k).map chS).sum)∧Hid (Heap w [.box cb [.int .i64 (sm:Int),.int .i64 quota],.box w.heap.size tv] wr)) (fun i _=>sn - (intOf i).toNat)
 case atStart=>exact⟨0,0,Nat.zero_le _,rfl,Lib.hid rfl,HH⟩
 case round=>
  clear HH c3 htb
  obtain⟨k,sm,hk,rfl,HK,HH⟩:=hrel
  have hsz:sm≤35184439197728:=by rw [HK.out];exact HB1.out k
  by_cases hlt:k < sn
  ·have hl:k < ss.length:=by rw [←Hsn.out];exact hlt
   obtain⟨b1,o1,hA1,_,hb1,G0⟩:=zk (size:=5) (fun _=>rfl) (by omega) (HSa.out.rd.ext HH.out.ext (Nat.le_refl _)) hl
   dsimp only at hA1
   subst hA1
   have HT:=Lib.hid (HS1.out k hl)
   have HSt:=Lib.hid (fun(W:World) (its:List It) (hW:Heap w (.box cb [.int .i64 (sm:Int),.int .i64 quota]::its) W)=>afE cb sm _ hW ss[k] (HSa.out.all _ (List.getElem_mem hl)) (by omega))
   generalize ss[k]=x at *
   generalize chS x=cx at *
   obtain⟨path,orig,⟨bA,bn,bc,bd⟩,⟨fA,fn,fc,fs⟩,⟨pA,pn,pc,ps⟩⟩:=x
   simp only [Dst.cells,Sl.val]at HSt
   have HG:=Lib.hid (fun j u hu=>G0 j u hu)
   clear G0
   simp only [Dst.cells,Sl.val]at HG
   have hkn:(k:Int) < (sn:Int):=by omega
   go_upto_region 5 with(first | (refine zV HG.out rfl xw (by kernel_rfl) rfl rfl rfl ?_) | (refine zt (HH.out.alloc _ _) xw rfl rfl rfl rfl 0 rfl rfl rfl rfl ?_;clear HH;intro wS HHS;have HH:=Lib.hid HHS;clear HHS))
   generalize wr.heap.size=xb at *
   have HH2:=Lib.hid HH.out.drew
   clear HH HG
   refine ab4 (fun k=>decide (k≤4)) (S:=Heap w [.box xb [.string path,.string orig,.slice bA bn bc,.slice fA fn fc,.slice pA pn pc],.box cb [.int .i64 (sm:Int),.int .i64 quota],.box w.heap.size tv]) (by kernel_rfl) HH2.out (fun hHeld=>?_)
   generalize World.drew _=wd at *
   refine tM 0 3 ?_
   refine mG 3 rfl (fun wT hST=>z6 hST xw (by kernel_rfl) rfl rfl 0 rfl (Nat.le_of_ble_eq_true rfl)) hHeld ?_;(try simp only [Act.put,lyA,lyB,lyC])
   clear hHeld
   refine qw 4 rfl (by kernel_rfl) (by kernel_rfl) (by kernel_rfl) (fun K hK=>?_)
   go_simp
   refine(HSt.out _ _ HH2.out.tail).mono ?_
   rintro e w4 ⟨rfl,h4⟩
   have HH4:=Lib.hid h4
   clear h4 HH2
   go_wp2_with fail
   refine hK.out _ _ ?_
   clear hK K
   (try simp only [Act.put,lyA,lyB,lyC])
   refine aa4 (by kernel_rfl) ?_
   go_wp2_with fail
   go_roundw
   case rel=>exact⟨k+1,sm+cx,by omega,by go_num,Lib.hid (by rw [HT.out,HK.out]),HH4⟩
   case measure=>(first | (simp [intOf];done) | (simp [intOf];omega))
  ·obtain rfl:k=sn:=by omega
   have h1:=HK.out
   rw [List.take_of_length_le (by rw [←Hsn.out];exact Nat.le_refl _)]at h1
   have HZ:=Lib.hid (show V=sm+(ax.map chG).sum by rw [HV.out,h1])
   have HE:=Lib.hid HH.out.ext
   clear h1 HV HS1 HB1
   have c5:=(HH.out.boxAt 1 rfl).cell 5 (.slice aA an ac) (by rw [HTV.out];rfl)
   go_wp2_with fail
   clear c5
   go_loopw [28] (fun i wr=> ∃j tq:Nat,j≤an∧i= .int .i64 (j:Int)∧Hid (tq=((ax.take j).map chG).sum)∧Hid (Heap w [.box cb [.int .i64 ((sm+tq:Nat):Int),.int .i64 quota],.box w.heap.size tv] wr)) (fun i _=>an - (intOf i).toNat)
   case atStart=>exact⟨0,0,Nat.zero_le _,rfl,Lib.hid rfl,HH⟩
   case round=>
    clear HH HK
    obtain⟨j,tq,hj,rfl,HK2,HH⟩:=hrel
    have hsz2:tq≤4194308:=by rw [HK2.out];exact HB2.out j
    by_cases hlt2:j < an
    ·have hl2:j < ax.length:=by rw [←Han.out];exact hlt2
     obtain⟨b2,o2,hA2,_,hb2,G0⟩:=zk (size:=21) (fun _=>rfl) (by omega) (HTa.out.rd.ext HH.out.ext (Nat.le_refl _)) hl2
     dsimp only at hA2
     subst hA2
     have HT:=Lib.hid (HS2.out j hl2)
     have hyn:=(HTa.out.all _ (List.getElem_mem hl2)).bodyM
     have HG:=Lib.hid (fun j u hu=>G0 j u hu)
     clear G0
     generalize ax[j]=x at *
     obtain⟨into,⟨kind,name,frm,guid,oA,on,oc,own,index,count,data,s0,s1,s2,s3⟩,bA,bn,bc,body,pos,next,⟨ua,ub,uc,ud⟩,dn⟩:=x
     simp only [Stg.cells,Rec.cells,Su.cells,List.cons_append,List.nil_append]at HG
     dsimp only at HT hyn
     have hjn:(j:Int) < (an:Int):=by omega
     go_upto_region 10 with(first | (refine zV HG.out rfl x6 (by kernel_rfl) rfl rfl rfl ?_) | (refine zt (HH.out.alloc _ _) x6 rfl rfl rfl rfl 0 rfl rfl rfl rfl ?_;clear HH;intro wS HHS;have HH:=Lib.hid HHS;clear HHS))
     generalize wr.heap.size=xb at *
     have HH2:=Lib.hid HH.out.drew
     clear HH HG
     obtain⟨xv,hxv⟩: ∃xv:List Value,Heap w [.box xb xv,.box cb [.int .i64 ((sm+tq:Nat):Int),.int .i64 quota],.box w.heap.size tv] (World.drew wS)∧xv[13]?=some (.slice bA bn bc):=⟨_,HH2.out,rfl⟩
     have HH3:=Lib.hid hxv.1
     have h13:=hxv.2
     clear hxv HH2
     refine ab4 (fun k=>decide (k≤5)) (S:=Heap w [.box xb xv,.box cb [.int .i64 ((sm+tq:Nat):Int),.int .i64 quota],.box w.heap.size tv]) (by kernel_rfl) HH3.out (fun hHeld=>?_)
     generalize World.drew _=wd at *
     refine tM 0 4 ?_
     refine mG 4 rfl (fun wT hST=>za hST rfl rfl 0 rfl h13 (by kernel_rfl)) hHeld ?_
     (try simp only [Act.put,lyA,lyB,lyC])
     clear hHeld
     refine qw 5 rfl (by kernel_rfl) (by kernel_rfl) (by kernel_rfl) (fun K hK=>?_)
     go_simp
     refine(abp cb (sm+tq) 1 _ HH3.out rfl bA bn bc hyn (by omega)).mono ?_
     rintro e w4 ⟨rfl,h4⟩
     have HH4:=Lib.hid h4.tail
     clear h4 HH3
     simp only [List.set_cons_succ,List.set_cons_zero]at HH4
     go_wp2_with fail
     refine hK.out _ _ ?_
     clear hK K
     (try simp only [Act.put,lyA,lyB,lyC])
     refine aa4 (by kernel_rfl) ?_
     go_wp2_with fail
     go_roundw
     case rel=>exact⟨j+1,tq+(bn+1),by omega,by go_num,Lib.hid (by rw [HT.out,HK2.out]),by rw [←Nat.add_assoc];exact HH4⟩
     case measure=>(first | (simp [intOf];done) | (simp [intOf];omega))
    ·obtain rfl:j=an:=by omega
     have h1:=HK2.out
     rw [List.take_of_length_le (by rw [←Han.out];exact Nat.le_refl _)]at h1
     have h2:sm+tq=V:=by rw [HZ.out,h1]
     rw [h2]at HH
     clear h1 h2 HZ HK2
     go_wp2_with fail
     go_ret
     exact⟨cb,rfl,HH.out.pre (a:= [_])⟩
theorem aeQ{w0 w:World}{b V:Nat}{q:Int}(H:Heap w0 [.box b [.int .i64 (V:Int),.int .i64 q]] w):
 Calls Tryz.prog 199 #[.pointer (some ⟨b,0,none⟩)] w fun e w'=>e= .returned (.bool (decide (q < (V:Int))))∧Heap w0 [.box b [.int .i64 (V:Int),.int .i64 q]] w':=by
 have HH:=Lib.hid H
 clear H
 go_enter Tryz.func199,Tryz.ntmps199
 go_upto_region 1 with fail
 have HH2:=Lib.hid HH.out.drew
 clear HH
 refine wp_region_held_drew (S:=Heap w0 [.box b [.int .i64 (V:Int),.int .i64 q]]) (by kernel_rfl) HH2.out (fun hHeld=>?_)
 generalize World.drew _=wd at *
 refine tW 0 4 ?_
 refine tG 4 rfl (fun wT hST=>za hST rfl rfl 0 rfl rfl (by kernel_rfl)) hHeld ?_;(try simp only [Act.put,lyA,lyB,lyC])
 refine tW 5 3 ?_
 refine tG 8 rfl (fun wT hST=>za hST rfl rfl 0 rfl rfl (by kernel_rfl)) hHeld ?_;(try simp only [Act.put,lyA,lyB,lyC])
 refine tW 9 2 ?_
 refine wpAnyH_done (by kernel_rfl) ?_ _
 go_wp2_with fail
 go_ret
 exact⟨rfl,HH2.out⟩
def xj(t:Tnt):Bool:=!decide (t.quota < (chT t:Int))
theorem afA(w:World)(t:Tnt)(h:Tnt.At w 0 w.heap.size t)(hs:t.sets.n≤32)(hg:t.stages.n≤4):
 Calls Tryz.prog 161 #[.agg t.cells.toArray] w fun e w'=>e= .returned (.bool (xj t))∧Ext w w':=by
 have HC:=Lib.hid (fun W (hW:Ext w W)=>acC W t (Tnt.At.on h hW (Nat.le_refl _)) hs hg)
 rw [xj]
 clear h hs hg
 generalize chT t=V at *
 obtain⟨name,quota,next,⟨sA,sn,sc,ss⟩,⟨gA,gn,gc,gs⟩,⟨aA,an,ac,ax⟩,⟨lA,ln,lc,ls⟩⟩:=t
 simp only [Tnt.cells,Sl.val]at *
 go_enter Tryz.func161,Tryz.ntmps161
 go_upto_region 1 with fail
 generalize hwH:World.alloc w _=w1;have HH:=Lib.hid (Heap.one hwH);clear hwH
 go_wp2_with (refine zp HH.out zE (by kernel_rfl) rfl rfl rfl 0 rfl rfl ?_)
 refine(HC.out _ HH.out.ext).mono ?_
 rintro e w2 ⟨b,rfl,h2⟩
 have HE:=Lib.hid (HH.out.ext)
 have H2:=Lib.hid h2
 clear HH h2
 go_wp2_with fail
 refine(aeQ H2.out).mono ?_
 rintro e w3 ⟨rfl,h3⟩
 go_wp2_with fail
 go_ret
 exact⟨rfl,HE.out.trans h3.ext⟩
def yj(z:Int):Bool:=decide (z < 0) || decide (1099511627776 < z)
theorem agH{z:Int}(h:yj z=false):0≤z∧z≤1099511627776:=by
 simp only [yj,Bool.or_eq_false_iff,decide_eq_false_iff_not]at h
 omega
theorem agl(z:Int)(w:World):Calls Tryz.prog 206 #[.int .i64 z] w fun e w'=>e= .returned (.bool (yj z))∧Ext w w':=by
 have h:Hid (yj z=(decide (z < 0) || decide (1099511627776 < z))):=Lib.hid rfl
 by_cases h0:z < 0
 ·go_enter Tryz.func206,Tryz.ntmps206
  go_wp2_with fail
  go_ret
  exact⟨by rw [h.out,decide_eq_true h0];rfl,Ext.refl _⟩
 ·have h1:0≤z:=by omega
  go_enter Tryz.func206,Tryz.ntmps206
  go_wp2_with fail
  go_ret
  exact⟨by rw [h.out,decide_eq_false (show¬z < 0 by omega)];rfl,Ext.refl _⟩
def ahG(l:List Int)(w:World)(e:Ending)(w':World):Prop:=
 ∃r:Int,e= .returned (.int .i64 r)∧l.any yj=decide (0≤r)∧ -1≤r∧Ext w w'
theorem agr(w:World)(A:Option Addr)(n c lo hi:Nat)(l:List Int)(hn:n=l.length)(hm:n≤9223372036854775807)(hr:Rd w lo hi A (ints l))(hh:hi≤w.heap.size):
 Calls Tryz.prog 225 #[.slice A n c,.func (.func 206) #[] #[]] w (ahG l w):=by
 have Hn:=Lib.hid hn
 clear hn
 go_enter Tryz.func225,Tryz.ntmps225
 go_wp2_with fail
 go_loopw [8] (fun i wr=> ∃k:Nat,k≤n∧i= .int .i64 k∧(l.take k).any yj=false∧Ext w wr) (fun i _=>n - (intOf i).toNat)
 case atStart=>exact⟨0,Nat.zero_le _,rfl,rfl,Ext.refl _⟩
 case round=>
  obtain⟨k,hk,rfl,hno,e1⟩:=hrel
  have HK:=Lib.hid hno
  clear hno
  by_cases hlt:k < n
  ·obtain⟨b1,o1,rfl,_,_,f0⟩:=aaZ (hr.ext e1 hh) (k:=k) (by rw [←Hn.out];omega)
   have hl:k < l.length:=by rw [←Hn.out];omega
   obtain⟨y,hy⟩: ∃y,y=l[k]'hl:=⟨_,rfl⟩
   rw [←hy]at f0
   have HY:=Lib.hid hy
   clear hy
   go_wp2_with fail
   refine(agl y _).mono ?_
   rintro e w2 ⟨rfl,e2⟩
   cases ho:yj y
   ·go_wp2_with fail
    go_roundw
    case rel=>
     refine⟨k+1,by omega,by go_num,?_,blo⟩
     rw [List.take_succ_eq_append_getElem hl,List.any_append,HK.out,←HY.out]
     simp [ho]
    case measure=>simp [intOf];omega
   ·go_wp2_with fail
    go_ret
    refine⟨k,rfl,?_,by omega,blo⟩
    have h1:l.any yj=true:=List.any_eq_true.2 ⟨y,by rw [HY.out];exact List.getElem_mem _,ho⟩
    rw [h1]
    simp
  ·go_wp2_with fail
   go_ret
   obtain rfl:k=n:=by omega
   have h1:=HK.out
   rw [List.take_of_length_le (by rw [←Hn.out];exact Nat.le_refl _)]at h1
   exact⟨-1,rfl,by rw [h1];rfl,by omega,e1⟩
theorem acr(w:World)(A:Option Addr)(n c lo hi:Nat)(l:List Int)(hn:n=l.length)(hm:n≤9223372036854775807)(hr:Rd w lo hi A (ints l))(hh:hi≤w.heap.size):
 Calls Tryz.prog 205 #[.slice A n c,.func (.func 206) #[] #[]] w fun e w'=>e= .returned (.bool (l.any yj))∧Ext w w':=by
 have Hn:=Lib.hid hn
 clear hn
 go_enter Tryz.func205,Tryz.ntmps205
 go_wp2_with fail
 refine(agr w A n c lo hi l Hn.out hm hr hh).mono ?_
 rintro e w2 ⟨r,rfl,hany,hr1,e2⟩
 have HA:=Lib.hid hany
 clear hany
 go_wp2_with fail
 go_ret
 exact⟨by rw [HA.out];rfl,e2⟩
def abk(l:List Int):Int:=if l.any yj then 4 else 0
theorem adJ(w:World)(A:Option Addr)(n c lo hi:Nat)(l:List Int)(hn:n=l.length)(hm:n≤9223372036854775807)(hr:Rd w lo hi A (ints l))(hh:hi≤w.heap.size):
 Calls Tryz.prog 172 #[.slice A n c] w fun e w'=>e= .returned (.int .i64 (abk l))∧Ext w w':=by
 have H:=Lib.hid (acr w A n c lo hi l hn hm hr hh)
 have hv:Hid (abk l=if l.any yj then 4 else 0):=Lib.hid rfl
 generalize l.any yj=b at *
 generalize abk l=v at *
 clear hr hn
 go_enter Tryz.func172,Tryz.ntmps172
 go_wp2_with fail
 refine H.out.mono ?_
 rintro e w2 ⟨rfl,e2⟩
 cases b
 all_goals
  go_wp2_with fail
  go_ret
  exact⟨by rw [hv.out];rfl,e2⟩
theorem acV(w:World)(A:Option Addr)(n c lo hi:Nat)(l:List Int)(hn:n=l.length)(hm:n≤9223372036854775807)(hr:Rd w lo hi A (ints l))(hh:hi≤w.heap.size):
 Calls Tryz.prog 196 #[.slice A n c] w fun e w'=>e= .returned (.bool (!l.any yj))∧Ext w w':=by
 have Hn:=Lib.hid hn
 clear hn
 go_enter Tryz.func196,Tryz.ntmps196
 go_wp2_with fail
 go_loopw [3] (fun i wr=> ∃k:Nat,k≤n∧i= .int .i64 k∧Hid ((l.take k).any yj=false)∧Ext w wr) (fun i _=>n - (intOf i).toNat)
 case atStart=>exact⟨0,Nat.zero_le _,rfl,Lib.hid rfl,Ext.refl _⟩
 case round=>
  obtain⟨k,hk,rfl,HK,e1⟩:=hrel
  by_cases hlt:k < n
  ·obtain⟨b1,o1,rfl,_,_,f0⟩:=aaZ (hr.ext e1 hh) (k:=k) (by rw [←Hn.out];omega)
   have hl:k < l.length:=by rw [←Hn.out];omega
   obtain⟨y,hy⟩: ∃y,y=l[k]'hl:=⟨_,rfl⟩
   rw [←hy]at f0
   have HY:=Lib.hid hy
   have hcase:(yj y=true∧y < 0)∨(yj y=true∧0≤y∧1099511627776 < y)∨(yj y=false∧0≤y∧y≤1099511627776):=by
    simp only [yj,Bool.or_eq_true,Bool.or_eq_false_iff,decide_eq_true_eq,decide_eq_false_iff_not]
    omega
   clear hy
   have bad:yj y=true→l.any yj=true:=fun ho=>List.any_eq_true.2 ⟨y,by rw [HY.out];exact List.getElem_mem _,ho⟩
   have HBad:=Lib.hid bad
   clear bad
   rcases hcase with⟨ho,h0⟩ | ⟨ho,h0,h1⟩ | ⟨ho,h0,h1⟩
   ·have HO:=Lib.hid ho
    clear ho
    go_wp2_with fail
    go_ret
    exact⟨by rw [HBad.out HO.out];rfl,e1⟩
   ·have HO:=Lib.hid ho
    clear ho
    go_wp2_with fail
    go_ret
    exact⟨by rw [HBad.out HO.out];rfl,e1⟩
   ·have HO:=Lib.hid ho
    clear ho
    go_wp2_with fail
    go_roundw
    case rel=>
     refine⟨k+1,by omega,by go_num,Lib.hid ?_,blo⟩
     rw [List.take_succ_eq_append_getElem hl,List.any_append,HK.out,←HY.out]
     simp [HO.out]
    case measure=>simp [intOf];omega
  ·go_wp2_with fail
   go_ret
   obtain rfl:k=n:=by omega
   have h1:=HK.out
   rw [List.take_of_length_le (by rw [←Hn.out];exact Nat.le_refl _)]at h1
   exact⟨by rw [h1];rfl,e1⟩
def zY(l:List Int):Int:=if l.any yj then 4 else if 1099511627776 < l.sum then 15 else 0
def yl(l:List Int):Int:=if zY l=0 then l.sum else 0
theorem abv{l:List Int}(h:l.any yj=false): ∀z∈l,0≤z∧z≤1099511627776:=fun z hz=>by
 rcases hz':yj z with _ | _
 ·exact agH hz'
 ·have:=List.any_eq_true.2 ⟨z,hz,hz'⟩
  rw [h]at this
  cases this
theorem aa3: ∀{l:List Int},(∀z∈l,0≤z)→0≤l.sum
 | [],_=>by simp
 | x::r,h=>by
   have h1:=h x (List.mem_cons_self ..)
   have h2:=aa3 (l:=r) fun z hz=>h z (List.mem_cons_of_mem _ hz)
   rw [List.sum_cons];omega
theorem acH(l:List Int)(k:Nat)(hk:k < l.length)(h: ∀z∈l,0≤z):(l.take (k+1)).sum=(l.take k).sum+l[k]∧(l.take (k+1)).sum≤l.sum∧0≤(l.take k).sum:=by
 have h1:(l.take (k+1)).sum=(l.take k).sum+l[k]:=by rw [List.take_succ_eq_append_getElem hk,List.sum_append];simp
 have h2:l.sum=(l.take (k+1)).sum+(l.drop (k+1)).sum:=by rw [←List.sum_append,List.take_append_drop]
 have h3:=aa3 (l:=l.drop (k+1)) fun z hz=>h z (List.mem_of_mem_drop hz)
 have h4:=aa3 (l:=l.take k) fun z hz=>h z (List.mem_of_mem_take hz)
 exact⟨h1,by omega,h4⟩
theorem agi(w:World)(A:Option Addr)(n c:Nat)(l:List Int)(hn:n=l.length)(hm:n≤1048576)(hr:Rd w 0 w.heap.size A (ints l)):
 Calls Tryz.prog 124 #[.slice A n c] w fun e w'=>e= .returned (.tuple #[.int .i64 (yl l),.int .i64 (zY l)])∧Ext w w':=by
 have HC:=Lib.hid (adJ w A n c 0 w.heap.size l hn (by omega) hr (Nat.le_refl _))
 have Hn:=Lib.hid hn
 by_cases hb:l.any yj=true
 ·have h1:zY l=4:=by rw [zY,if_pos hb]
  have h2:yl l=0:=by rw [yl,h1];rfl
  have h3:abk l=4:=by rw [abk,if_pos hb]
  rw [h1,h2]
  rw [h3]at HC
  clear h1 h2 h3 hb hr hn
  go_enter Tryz.func124,Tryz.ntmps124
  go_wp2_with fail
  refine HC.out.mono ?_
  rintro e w2 ⟨rfl,e2⟩
  go_wp2_with fail
  go_ret2
  exact⟨rfl,e2⟩
 ·have hb':l.any yj=false:=by simpa using hb
  have h3:abk l=0:=by rw [abk,if_neg hb]
  have hall:=Lib.hid (abv hb')
  have HST:=Lib.hid (fun k hk=>acH l k hk fun z hz=>(hall.out z hz).1)
  rw [h3]at HC
  have HE:Hid (zY l=if 1099511627776 < l.sum then 15 else 0):=Lib.hid (by rw [zY,if_neg hb])
  have HV:Hid (yl l=if zY l=0 then l.sum else 0):=Lib.hid rfl
  generalize zY l=E at *
  generalize yl l=V at *
  clear hb hb' h3 hn
  go_enter Tryz.func124,Tryz.ntmps124
  go_wp2_with fail
  refine HC.out.mono ?_
  rintro e w2 ⟨rfl,e2⟩
  go_wp2_with fail
  go_loopw [5,15] (fun s i wr=> ∃k:Nat,k≤n∧i= .int .i64 k∧ ∃z:Int,s= .int .i64 z∧Hid (z=(l.take k).sum)∧0≤z∧z≤1099511627776∧Ext w wr) (fun _ i _=>n - (intOf i).toNat)
  case atStart=>exact⟨0,Nat.zero_le _,rfl,0,rfl,Lib.hid rfl,by omega,by omega,e2⟩
  case round=>
   obtain⟨k,hk,rfl,z,rfl,HK,hz0,hz1,e1⟩:=hrel
   by_cases hlt:k < n
   ·obtain⟨b1,o1,rfl,_,_,f0⟩:=aaZ (Rd.at hr e1 (Nat.le_refl _)) (k:=k) (by rw [←Hn.out];omega)
    have hl:k < l.length:=by rw [←Hn.out];omega
    have h5:=HST.out k hl
    rw [←HK.out]at h5
    have h6:=hall.out _ (List.getElem_mem hl)
    generalize l[k]=y at *
    have HT:=Lib.hid h5
    clear h5
    have hkn:(k:Int) < (n:Int):=by omega
    have hw1:IntKind.i64.wrap (1099511627776 - y)=1099511627776 - y:=IntWalk.i64_in _ (by omega)
    have hw2:IntKind.i64.wrap (z+y)=z+y:=IntWalk.i64_in _ (by omega)
    by_cases hov:1099511627776 - y < z
    ·have h7:E=15:=by rw [HE.out,if_pos (by have:=HT.out;omega)]
     have h8:V=0:=by rw [HV.out,h7];rfl
     subst h7 h8
     go_wp2_with fail
     go_ret2
     exact⟨rfl,e1⟩
    ·go_wp2_with fail
     go_roundw
     case rel=>exact⟨k+1,by omega,by go_num,z+y,by go_num,Lib.hid HT.out.1.symm,by omega,by omega,e1⟩
     case measure=>(first | (simp [intOf];done) | (simp [intOf];omega))
   ·obtain rfl:k=n:=by omega
    have h1:=HK.out
    rw [List.take_of_length_le (by rw [←Hn.out];exact Nat.le_refl _)]at h1
    have h7:E=0:=by rw [HE.out,if_neg (by omega)]
    have h8:V=z:=by rw [HV.out,h7,h1];rfl
    subst h7 h8
    clear h1
    go_wp2_with fail
    go_ret2
    exact⟨rfl,e1⟩
theorem afJ(w:World)(A:Option Addr)(n c:Nat)(l:List Int)(hn:n=l.length)(hm:n≤1048576)(hr:Rd w 0 w.heap.size A (ints l)):
 Calls Tryz.prog 159 #[.slice A n c] w fun e w'=>e= .returned (.tuple #[.int .i64 (yl l),.int .i64 (zY l)])∧Ext w w':=by
 have HC:=Lib.hid (acV w A n c 0 w.heap.size l hn (by omega) hr (Nat.le_refl _))
 have Hn:=Lib.hid hn
 by_cases hb:l.any yj=true
 ·have h1:zY l=4:=by rw [zY,if_pos hb]
  have h2:yl l=0:=by rw [yl,h1];rfl
  rw [h1,h2]
  rw [hb]at HC
  clear h1 h2 hb hr hn
  go_enter Tryz.func159,Tryz.ntmps159
  go_wp2_with fail
  refine HC.out.mono ?_
  rintro e w2 ⟨rfl,e2⟩
  go_wp2_with fail
  go_ret2
  exact⟨rfl,e2⟩
 ·have hb':l.any yj=false:=by simpa using hb
  have hall:=Lib.hid (abv hb')
  have HST:=Lib.hid (fun k hk=>acH l k hk fun z hz=>(hall.out z hz).1)
  rw [hb']at HC
  have HE:Hid (zY l=if 1099511627776 < l.sum then 15 else 0):=Lib.hid (by rw [zY,if_neg hb])
  have HV:Hid (yl l=if zY l=0 then l.sum else 0):=Lib.hid rfl
  generalize zY l=E at *
  generalize yl l=V at *
  clear hb hb' hn
  go_enter Tryz.func159,Tryz.ntmps159
  go_wp2_with fail
  refine HC.out.mono ?_
  rintro e w2 ⟨rfl,e2⟩
  go_wp2_with fail
  go_loopw [4,5] (fun s i wr=> ∃k:Nat,k≤n∧i= .int .i64 k∧ ∃z:Int,s= .int .i64 z∧Hid (z=(l.take k).sum)∧0≤z∧z≤1099511627776∧Ext w wr) (fun _ i _=>n - (intOf i).toNat)
  case atStart=>exact⟨0,Nat.zero_le _,rfl,0,rfl,Lib.hid rfl,by omega,by omega,e2⟩
  case round=>
   obtain⟨k,hk,rfl,z,rfl,HK,hz0,hz1,e1⟩:=hrel
   by_cases hlt:k < n
   ·obtain⟨b1,o1,rfl,_,_,f0⟩:=aaZ (Rd.at hr e1 (Nat.le_refl _)) (k:=k) (by rw [←Hn.out];omega)
    have hl:k < l.length:=by rw [←Hn.out];omega
    have h5:=HST.out k hl
    rw [←HK.out]at h5
    have h6:=hall.out _ (List.getElem_mem hl)
    generalize l[k]=y at *
    have HT:=Lib.hid h5
    clear h5
    have hkn:(k:Int) < (n:Int):=by omega
    have hw2:IntKind.i64.wrap (z+y)=z+y:=IntWalk.i64_in _ (by omega)
    by_cases hov:1099511627776 < z+y
    ·have h7:E=15:=by rw [HE.out,if_pos (by have:=HT.out;omega)]
     have h8:V=0:=by rw [HV.out,h7];rfl
     subst h7 h8
     go_wp2_with fail
     go_ret2
     exact⟨rfl,e1⟩
    ·go_wp2_with fail
     go_roundw
     case rel=>exact⟨k+1,by omega,by go_num,z+y,by go_num,Lib.hid HT.out.1.symm,by omega,by omega,e1⟩
     case measure=>(first | (simp [intOf];done) | (simp [intOf];omega))
   ·obtain rfl:k=n:=by omega
    have h1:=HK.out
    rw [List.take_of_length_le (by rw [←Hn.out];exact Nat.le_refl _)]at h1
    have h7:E=0:=by rw [HE.out,if_neg (by omega)]
    have h8:V=z:=by rw [HV.out,h7,h1];rfl
    subst h7 h8
    clear h1
    go_wp2_with fail
    go_ret2
    exact⟨rfl,e1⟩
abbrev RdL:=List (Option Addr×List Value)
def It.bag(S:Nat→Prop)(L:RdL):It:=
 .any S (fun w=>(∀k,S k→k < w.heap.size)∧ ∀q∈L,RdK w S q.1 q.2) (fun w k h hk=>h.1 k hk) (fun w w' hs hk h=>⟨fun k h1=>Nat.lt_of_lt_of_le (h.1 k h1) hs,fun q hq hn=>by
  obtain⟨b,o,e,h1,h2,h3⟩:=h.2 q hq hn
  exact⟨b,o,e,Nat.lt_of_lt_of_le h1 hs,h2,fun j u hu=>(World.cell?_of_block (w:=w) (a:=⟨b,o+j,none⟩) (hk b h2)).trans (h3 j u hu)⟩⟩)
section
variable {w0 w w':World} {its:List It} {j:Nat} {S:Nat→Prop} {L L2:RdL}
theorem Heap.bag0(H:Heap w0 its w):Heap w0 (It.bag (fun _=>False) []::its) w:=
 H.add (Ext.refl w) ⟨fun k hk=>hk.elim,fun k hk=>hk.elim,fun q hq=>by cases hq⟩ (fun k hk=>hk.elim)
theorem Heap.bagExt(H:Heap w0 its w)(hj:its[j]?=some (It.bag S L))(e:Ext w w')(h: ∀q∈L2,Rd w' w.heap.size w'.heap.size q.1 q.2): ∃S',Heap w0 (its.set j (It.bag S' (L2++L))) w':=by
 have hb:=H.all j _ hj
 refine⟨fun k=>S k∨(w.heap.size≤k∧k < w'.heap.size),H.upd hj (Keep.of_ext e) ⟨fun k hk=>?_,fun k hk=>?_,fun q hq=>?_⟩ (fun k hk=>?_) (fun k hk=>?_) (fun k hk=>hb.1 k hk)⟩
 ·rcases hk with hk | hk
  ·exact hb.1 k hk
  ·exact Nat.le_trans H.ext.size hk.1
 ·rcases hk with hk | hk
  ·exact Nat.lt_of_lt_of_le (hb.2.1 k hk) e.size
  ·exact hk.2
 ·rcases List.mem_append.1 hq with hq | hq
  ·intro hn
   obtain⟨b,o,ha,h1,h2,h3⟩:=h q hq hn
   exact⟨b,o,ha,h2,.inr ⟨h1,h2⟩,h3⟩
  ·intro hn
   obtain⟨b,o,ha,h1,h2,h3⟩:=hb.2.2 q hq hn
   exact⟨b,o,ha,Nat.lt_of_lt_of_le h1 e.size,.inl h2,fun j u hu=>(Below.cell (p:=⟨b,o+j,none⟩) e h1).trans (h3 j u hu)⟩
 ·rcases hk with hk | hk
  ·exact .inl hk
  ·exact .inr hk.1
 ·rcases hk with hk | hk
  ·exact .inl hk
  ·exact .inr hk.1
theorem Heap.bagRd(H:Heap w0 its w)(hj:its[j]?=some (It.bag S L)){A:Option Addr}{cs:List Value}(hq:(A,cs)∈L):Rd w w0.heap.size w.heap.size A cs:=by
 have hb:=H.all j _ hj
 intro hn
 obtain⟨b,o,ha,h1,h2,h3⟩:=hb.2.2 _ hq hn
 exact⟨b,o,ha,hb.1 b h2,h1,h3⟩
end
theorem acu:(Tryz.prog.info? 3).map (fun i=>(i.zero,i.size,i.bytes))=some (some (.int .i64 0),1,8):=by kernel_rfl
theorem agX:(Tryz.prog.info? 56).map (fun i=>(i.zero,i.size,i.bytes))=some (some (.agg #[.string ⟨#[]⟩,.slice none 0 0,.slice none 0 0]),3,64):=by kernel_rfl
theorem agK:(Tryz.prog.info? 56).map (·.size)=some 3:=by kernel_rfl
theorem ace(m:Nat):madeCells (Value.int .i64 0).cells m=(ints (List.replicate m 0)).toArray:=by
 apply Array.toList_inj.1
 show(madeCells #[Value.int .i64 0] m).toList=_
 rw [toList_madeCells_one]
 simp [ints]
theorem adt(m:Nat)(hm:m≤1000000000)(u:World):(Instr.makeSlice 54 (.int .i64 (m:Int)) (.int .i64 (m:Int))).run Tryz.prog u= .ok (.slice (some ⟨u.heap.size,0,none⟩) m m) (u.alloc (.cells (ints (List.replicate m 0)).toArray 3)):=by
 obtain⟨i0,hi0,hz0,hz1,hz2⟩:=info_parts acu
 have h:=run_make (P:=Tryz.prog) u 54 3 i0 _ Tryz.underlying54 hi0 hz0 .i64 .i64 m m (by omega) (by omega) (by rw [hz2];omega) (by omega)
 rw [hz1,Int.toNat_natCast,Nat.mul_one,ace]at h
 exact h
def ad3(x:Ob):ByteArray×List UInt8×List Int:=(x.key,x.data.xs,x.locs.xs)
def ad4(l:List (ByteArray×List UInt8×List Int)):List ByteArray:=l.flatMap fun x=> [x.1,zl (x.2.1.length:Int),⟨(xq x.2.2).toArray⟩]
theorem abE: ∀(l:List Ob),(∀x∈l,x.data.n=x.data.xs.length)→qq l=ad4 (l.map ad3)
 | [],_=>rfl
 | x::l,h=>by
   have h1:=abE l fun y hy=>h y (List.mem_cons_of_mem _ hy)
   rw [qq]at h1 ⊢
   rw [List.flatMap_cons,h1,h x (List.mem_cons_self ..)]
   rfl
def aao(l:List Ob):List (ByteArray×List UInt8×List Int):=l.map fun x=>(x.key,x.data.xs,List.replicate (zN x.data.n) 0)
structure PlIn (ls:List Ob) (L:RdL) (o:Ob):Prop where
 src: ∃x∈ls,o.key=x.key∧o.data=x.data
 len:o.locs.n=o.locs.xs.length
 le:o.locs.n≤o.locs.c
 cap:o.locs.c≤maxLen
 mem:(o.locs.A,ints o.locs.xs)∈L
 wf: ∀y∈o.locs.xs,(Lit.int .i64 y).wf=true
theorem PlIn.more{ls:List Ob}{L:RdL}{o:Ob}(h:PlIn ls L o){L2:RdL}(hL: ∀q∈L,q∈L2):PlIn ls L2 o:=⟨h.src,h.len,h.le,h.cap,hL _ h.mem,h.wf⟩
theorem PlIn.at_{w0 w:World}{its:List It}{j:Nat}{S:Nat→Prop}{L:RdL}{ls:List Ob}{o:Ob}(h:PlIn ls L o)(hl: ∀x∈ls,Ob.At w0 0 w0.heap.size x)(H:Heap w0 its w)(hj:its[j]?=some (It.bag S L)):Ob.At w 0 w.heap.size o:=by
 obtain⟨x,hx,h1,h2⟩:=h.src
 refine⟨by rw [h1];exact(hl x hx).key,by rw [h2];exact Oct.At.on (hl x hx).data H.ext (Nat.le_refl _),⟨h.len,h.le,h.cap,?_,h.wf⟩⟩
 rw [acn]
 exact(H.bagRd hj h.mem).m0
theorem aeH(l:List ByteArray):(wB l).length≤67111938:=by
 unfold wB
 by_cases h:wE l=0
 ·have h1: ¬1024 < l.length:=fun h'=>by rw [wE,if_pos h']at h;cases h
  have h2:l.any yR=false:=by
   rw [wE,if_neg h1]at h
   cases hq:l.any yR with
   | false=>rfl
   | true=>rw [hq]at h;cases h
  rw [if_pos h]
  have:=ads l l.length h2 (Nat.le_refl _)
  rw [acc,List.take_of_length_le (Nat.le_refl _)]at this
  rw [zM]
  omega
 ·rw [if_neg h]
  simp
def kd(x:Ob):ByteArray×Nat:=(x.key,x.data.n)
theorem ag8(l:List Ob)(h: ∀x∈l,x.data.n=x.data.xs.length):ad4 (aao l)=ixT (l.map kd):=by
 induction l with
 | nil=>rfl
 | cons x l ih=>
   have h1:=ih fun y hy=>h y (List.mem_cons_of_mem _ hy)
   rw [aao,ad4,List.map_cons,List.flatMap_cons,←aao,←ad4,h1,List.map_cons,ixT,ixT,List.flatMap_cons]
   rw [←h x (List.mem_cons_self ..)]
   rfl
def smP(l:List Ob):Nat:=(l.map fun x=>zN x.data.n).sum
theorem af2(l:List Ob)(k:Nat)(h:k < l.length):smP (l.take (k+1))=smP (l.take k)+zN l[k].data.n:=by
 rw [List.take_succ_eq_append_getElem h,smP,smP,List.map_append,List.sum_append];simp
theorem ahi(l:List Ob)(B:Nat)(h: ∀x∈l,x.data.n≤B):smP l≤l.length * zN B:=by
 have:=yy (l.map fun x=>zN x.data.n) (zN B) fun y hy=>by
  obtain⟨x,hx,rfl⟩:=List.mem_map.1 hy
  have:=h x hx
  unfold zN
  omega
 rwa [List.length_map]at this
theorem acD(w:World)(s:Sl Ob)(h:Sl.At w 0 w.heap.size Ob.cells (Ob.At w 0 w.heap.size) s)(hN:s.n≤1000)(hD: ∀x∈s.xs,x.data.n≤100000000):
 Calls Tryz.prog 15 #[s.val] w fun e w'=>e= .returned (.int .i64 (yS (s.xs.map kd)))∧Ext w w':=by
 obtain⟨i0,hi0,hz0,hz1,hz2⟩:=info_parts agX
 have HL:=Lib.hid h
 have HD:=Lib.hid hD
 obtain⟨A0,n,c0,xs⟩:=s
 have Hn:=Lib.hid (show n=xs.length from h.len)
 have hmk:=adt
 have hn9:n≤1000:=hN
 clear h hD hN
 simp only [Sl.val]at *
 have HSm:=Lib.hid (fun k=>show smP (xs.take k)≤2000000000 by
  have h1:=ahi (xs.take k) 100000000 fun x hx=>HD.out x (List.mem_of_mem_take hx)
  have h2:(xs.take k).length≤1000:=by rw [List.length_take];have:=Hn.out;omega
  have h3:zN 100000000=1923077:=by decide
  rw [h3]at h1
  have h4:=Nat.mul_le_mul_right 1923077 h2
  omega)
 go_enter Tryz.func15,Tryz.ntmps15
 go_upto_region 4 with fail
 have HH:=Lib.hid (show Heap w [.row 56 3 (.slice none 0 0) 0 [],It.bag (fun _=>False) []] w from((Heap.start w).bag0).row0)
 go_loopw [3,4,6,7,12] (fun sv v _ _ i wr=> ∃(k:Nat) (os:List Ob) (A:Option Addr) (c:Nat) (S:Nat→Prop) (L:RdL),k≤n∧i= .int .i64 (k:Int)∧v= .slice A os.length c∧(∃sm:Nat,sv= .int .i64 (sm:Int)∧Hid (sm=smP (xs.take k)))∧Hid (os.map ad3=aao (xs.take k))∧Hid (∀o∈os,PlIn xs L o)∧
  Hid (Heap w [.row 56 3 (.slice A os.length c) os.length (os.flatMap Ob.cells),It.bag S L] wr)) (fun _ _ _ _ i _=>n - (intOf i).toNat)
 case atStart=>exact⟨0, [],none,0,_, [],Nat.zero_le _,rfl,rfl,⟨0,rfl,Lib.hid rfl⟩,Lib.hid rfl,Lib.hid (by simp),HH⟩
 case round=>
  clear HH
  obtain⟨k,os,A,c,S,L,hk,rfl,rfl,⟨sm,rfl,HSs⟩,HS,HP,HH⟩:=hrel
  have HOl:=Lib.hid (show os.length=k by have h:=congrArg List.length HS.out;rw [List.length_map,aao,List.length_map,List.length_take,←Hn.out]at h;omega)
  have hol:os.length≤1000:=by rw [HOl.out];omega
  by_cases hlt:k < n
  ·have l1:k < xs.length:=by rw [←Hn.out];exact hlt
   obtain⟨b1,o1,rfl,hb1,f0,f1,f2⟩:=agw (HL.out.rd.ext HH.out.ext (Nat.le_refl _)) l1
   have HT:=Lib.hid (show aao (xs.take (k+1))=aao (xs.take k)++ [(xs[k].key,xs[k].data.xs,List.replicate (zN xs[k].data.n) 0)]by rw [List.take_succ_eq_append_getElem l1,aao,aao,List.map_append];rfl)
   have HT2:=Lib.hid (af2 xs k l1)
   have HXm:=Lib.hid (List.getElem_mem l1)
   have HXd:=HD.out _ (List.getElem_mem l1)
   generalize xs[k]=x at *
   have HXe:=Lib.hid (show x.data.val= .slice x.data.A x.data.n x.data.c from rfl)
   rw [HXe.out]at f1
   have hcp:zN x.data.n≤2000000:=by unfold zN;omega
   have hsm1:sm≤2000000000:=by rw [HSs.out];exact HSm.out k
   have hsw:IntKind.i64.wrap ((sm:Int)+((zN x.data.n:Nat):Int))=((sm+zN x.data.n:Nat):Int):=by
    rw [IntWalk.i64_in _ (by omega)];omega
   go_upto_region 6 with(first | (refine zt (HH.out.alloc _ _) agK rfl rfl rfl rfl 0 rfl rfl rfl rfl ?_;clear HH;intro wS HHS;have HH:=Lib.hid HHS;clear HHS))
   obtain⟨tb,htb⟩: ∃b,b=wr.heap.size:=⟨_,rfl⟩
   rw [←htb]at HH ⊢
   clear htb f0 f1 f2
   go_upto_region 8 with(first | (refine zc HH.out rfl rfl rfl 0 rfl rfl (by decide+kernel) ?_) | (go_at_call 41;(with_reducible refine(acd _ x.data.n (by omega)).mono ?_);rintro e wC ⟨rfl,eC⟩;replace HH:=Lib.hid (HH.out.later eC);clear eC))
   have HHd:=Lib.hid (show Heap w [.box tb [.string x.key,.slice x.data.A x.data.n x.data.c,x.locs.val],.row 56 3 (.slice A os.length c) os.length (os.flatMap Ob.cells),It.bag S L] wC.drew from HH.out.drew)
   clear HH
   refine wp_region_held_drew (S:=Heap w [.box tb [.string x.key,.slice x.data.A x.data.n x.data.c,x.locs.val]]) (by kernel_rfl) (HHd.out.only 0 rfl) (fun hHeld=>?_)
   generalize World.drew _=wd at *
   refine tW 0 2 ?_
   refine tG 2 rfl (fun wT hST=>za hST rfl rfl 0 rfl rfl (by kernel_rfl)) hHeld ?_;(try simp only [Act.put,lyA,lyB,lyC])
   refine tW 3 1 ?_
   refine tG 4 rfl (fun wT hST=>za hST rfl rfl 0 rfl rfl (by kernel_rfl)) hHeld ?_;(try simp only [Act.put,lyA,lyB,lyC])
   refine tW 5 1 ?_
   clear hHeld
   refine oS 6 (fun K hK=>?_)
   have hmk2:=adt (zN x.data.n) (by omega)
   clear hmk
   go_simp
   generalize hwA:World.alloc wd _=w3
   obtain⟨S3,H3⟩:=HHd.out.bagExt (w':=w3) (j:=2) rfl (by rw [←hwA];exact(Ext.refl _).alloc _) (L2:= [(some ⟨wd.heap.size,0,none⟩,ints (List.replicate (zN x.data.n) 0))]) (fun q hq=>by
    simp only [List.mem_cons,List.not_mem_nil,or_false]at hq
    subst hq
    rw [←hwA]
    exact(aav wd (ints (List.replicate (zN x.data.n) 0)).toArray 3).more (Nat.le_refl _) (by rw [World.size_alloc];exact Nat.le_refl _))
   have HH3:=Lib.hid (show Heap w [.box tb [.string x.key,.slice x.data.A x.data.n x.data.c,x.locs.val],.row 56 3 (.slice A os.length c) os.length (os.flatMap Ob.cells),It.bag S3 ((some ⟨wd.heap.size,0,none⟩,ints (List.replicate (zN x.data.n) 0))::L)] w3 from H3)
   clear HHd H3 hwA hmk2
   refine hK.out _ _ ((HH3).out.only 0 rfl) (fun hHeld=>?_);clear hK K;(try simp only [Act.put,lyA,lyB,lyC])
   refine tW 7 1 ?_
   clear hHeld
   refine oS 8 (fun K hK=>?_)
   go_simp
   generalize hwA:World.alloc w3 _=w4
   have HH4:=Lib.hid (HH3.out.allocE hwA)
   clear HH3 hwA
   refine hK.out _ _ ((HH4).out.only 1 rfl) (fun hHeld=>?_);clear hK K;(try simp only [Act.put,lyA,lyB,lyC]);clear hHeld
   refine oS 9 (fun K hK=>?_)
   refine zP (.tmp 23) (.tmp 31) _ rfl Tryz.underlying33 hi0 hz0 hz1 hz2 rfl (by omega) HH4.out 2 rfl rfl (m:=1) rfl rfl (HH4.out.boxRd 0 rfl) (by simp [Value.oneCell']) (by simp only [maxLen];omega) (by omega) ?_
   rintro v7 w7 hh7 ⟨A7,c7,rfl⟩
   have HH7:=Lib.hid hh7
   clear hh7 HH4
   refine hK.out _ _ ((HH7).out.only 1 rfl) (fun hHeld=>?_);clear hK K;(try simp only [Act.put,lyA,lyB,lyC])
   refine tW 10 1 ?_
   refine wpAnyH_done (by kernel_rfl) ?_ _
   clear hHeld
   go_wp2_with fail
   go_roundw
   case rel=>
    refine⟨k+1,os++ [⟨x.key,x.data,⟨some ⟨wd.heap.size,0,none⟩,zN x.data.n,zN x.data.n,List.replicate (zN x.data.n) 0⟩⟩],A7,c7,S3,(some ⟨wd.heap.size,0,none⟩,ints (List.replicate (zN x.data.n) 0))::L,by omega,by go_num,by rw [List.length_append];rfl,⟨sm+zN x.data.n,by first | rfl | simp [hsw],Lib.hid (by rw [HT2.out,HSs.out])⟩,Lib.hid ?_,Lib.hid (fun o ho=>?_),Lib.hid ?_⟩
    ·rw [List.map_append,HS.out,HT.out];rfl
    ·rcases List.mem_append.1 ho with ho | ho
     ·exact(HP.out o ho).more (fun q hq=>List.mem_cons_of_mem _ hq)
     ·simp only [List.mem_singleton]at ho
      subst ho
      exact⟨⟨x,HXm.out,rfl,rfl⟩,by simp,Nat.le_refl _,by simp only [maxLen];omega,List.mem_cons_self ..,fun y hy=>by rw [(List.mem_replicate.1 hy).2];rfl⟩
    ·have h9:=HH7.out.tail.tail
     rw [List.length_append,List.flatMap_append]
     exact h9
   case measure=>simp [intOf];omega
  ·obtain rfl:n=k:=by omega
   have ht:xs.take n=xs:=List.take_of_length_le (by rw [←Hn.out];exact Nat.le_refl _)
   rw [ht]at HS HSs
   have hsm1:sm≤2000000000:=by rw [HSs.out];have:=HSm.out n;rwa [ht]at this
   clear ht
   by_cases h0:n=0
   ·subst h0
    have hx:xs= []:=List.length_eq_zero_iff.1 Hn.out.symm
    have HV:=Lib.hid (show yS (xs.map kd)=0 by rw [hx];rfl)
    clear hx
    go_wp2_with fail
    go_ret
    exact⟨ab1 (by rw [HV.out];rfl),HH.out.ext⟩
   ·have hat:=fun o ho=>(HP.out o ho).at_ (fun x hx=>HL.out.all x hx) HH.out (j:=1) rfl
    have HI:=Lib.hid (aeB wr ⟨A,os.length,c,os⟩ ⟨rfl,(qI (HH.out.rowAt 0 rfl)).1,(qI (HH.out.rowAt 0 rfl)).2,(HH.out.rowRd 0 rfl).m0,hat⟩ (by dsimp only;omega) (fun o ho=>by
     have h10:=List.mem_map_of_mem (f:=ad3) ho
     rw [HS.out,aao]at h10
     obtain⟨z,hz,h11⟩:=List.mem_map.1 h10
     have h12:List.replicate (zN z.data.n) 0=o.locs.xs:=congrArg (fun q=>q.2.2) h11
     have h13:=HD.out z hz
     rw [(HP.out o ho).len,←h12,List.length_replicate]
     unfold zN;omega))
    have HTx:=Lib.hid (show qq os=ixT (xs.map kd)by rw [abE os (fun o ho=>(hat o ho).data.len),HS.out,ag8 xs fun x hx=>(HL.out.all x hx).data.len])
    have HV:=Lib.hid (show yS (xs.map kd)=sm+zN (wB (ixT (xs.map kd))).length by
     have hx:(xs.map kd).isEmpty=false:=by
      have:=Hn.out
      cases xs with
      | nil=>exact absurd this h0
      | cons x xs=>rfl
     rw [yS,hx,HSs.out,smP,List.map_map];rfl)
    rw [HTx.out]at HI
    have HWl:=Lib.hid (aeH (ixT (xs.map kd)))
    generalize ixT (xs.map kd)=IT at *
    obtain⟨WB,hWB⟩: ∃WB,WB=wB IT:=⟨_,rfl⟩
    rw [←hWB]at HWl HV
    have HWB:=Lib.hid hWB.symm
    clear hWB
    have HW2:=Lib.hid (fun e w' (h:abT IT wr e w')=>show∃v E,e= .returned (.tuple #[v,.int .i64 E])∧w'.ownsRow wr.heap.size 5 1 v WB.length (bytes WB)∧Ext wr w' from by
     obtain⟨v,h1,h2,h3⟩:=h
     rw [HWB.out]at h2
     exact⟨v,_,h1,h2,h3⟩)
    have hne:((n:Int) == 0)=false:=by rw [beq_eq_false_iff_ne];omega
    have hlw:=HWl.out
    have hcw:zN WB.length≤1300000:=by unfold zN;omega
    have hsw:IntKind.i64.wrap ((sm:Int)+((zN WB.length:Nat):Int))=((sm+zN WB.length:Nat):Int):=by
     rw [IntWalk.i64_in _ (by omega)];omega
    simp only [Sl.val]at HI
    clear hat HTx HS HSs HP
    go_upto_region 12 with fail
    go_wp2_with fail
    refine HI.out.mono ?_
    intro e w8 h8
    obtain⟨v8,E8,rfl,hown8,e8⟩:=HW2.out _ _ h8
    obtain⟨A8,c8,rfl,_,_,_⟩:=zo hown8
    clear h8 hown8 HI HW2
    go_wp2_with fail
    refine(acd _ WB.length (by omega)).mono ?_
    rintro e w9 ⟨rfl,e9⟩
    go_wp2_with fail
    go_ret
    exact⟨ab1 (by rw [HV.out];first | rfl | omega | simp [hsw]),(HH.out.ext.trans e8).trans e9⟩
end Go.Proofs.YtckaneapjpiocaaGreatDoor
