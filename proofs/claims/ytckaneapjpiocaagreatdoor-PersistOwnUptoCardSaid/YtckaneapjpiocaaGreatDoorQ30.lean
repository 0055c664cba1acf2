/- The texts Usg in one file. -/
import Derived.Test.YtckaneapjpiocaaGreatDoorQ29
set_option linter.unusedVariables false
set_option linter.unusedSimpArgs false
set_option maxHeartbeats 8000000
set_option maxRecDepth 100000
namespace Go.Proofs.YtckaneapjpiocaaGreatDoor
open Go.RowKit Go.Maps Go.Sort Go.Shelf
theorem ajT(w:World)(A:Option Addr)(n c:Nat)(hn:n≤1048576):Calls Tryz.prog 237 #[.slice A n c] w fun e w'=>e= .returned (.int .i64 (((n+1:Nat):Int)))∧w'=w:=by
 have hw1:IntKind.i64.wrap ((n:Int)+1)=(n:Int)+1:=IntWalk.i64_in _ (by omega)
 go_enter Tryz.func237,Tryz.ntmps237
 go_wp2_with fail
 go_ret
 exact⟨rfl,rfl⟩
theorem aeT{w0 w:World}{its:List It}(b s j:Nat)(vs:List Value)(H:Heap w0 its w)(hj:its[j]?=some (.box b (.int .i64 (s:Int)::vs)))(A:Option Addr)(n c:Nat)(hn:n≤1048576)(hs:s≤1000000000000000):
 Calls Tryz.prog 223 #[.pointer (some ⟨b,0,none⟩),.slice A n c] w fun e w'=>e= .returned (.tuple #[])∧Heap w0 (its.set j (.box b (.int .i64 ((s+(n+1):Nat):Int)::vs))) w':=by
 have HH:=hiD H
 have hw1:IntKind.i64.wrap ((s:Int)+((n+1:Nat):Int))=((s+(n+1):Nat):Int):=by rw [IntWalk.i64_in _ (by omega)];omega
 clear H
 go_enter Tryz.func223,Tryz.ntmps223
 have HH2:=hiD HH.out.drew
 clear HH
 refine qe (fun k=>decide (k≤6)) (S:=Heap w0 its) (by kernel_rfl) HH2.out (fun hHeld=>?_)
 generalize World.drew _=wd at *
 refine tM 0 3 ?_
 refine mG 3 rfl (fun wT hST=>zk hST rfl rfl j hj rfl (by kernel_rfl)) hHeld ?_
 refine lyX ?_
 refine tM 4 1 ?_
 clear hHeld
 refine oMX 5 (fun K hK=>?_)
 go_simp
 refine(ajT _ A n c hn).mono ?_
 rintro e w2 ⟨rfl,rfl⟩
 go_wp2_with fail
 refine hK.out _ _ HH2.out (fun hHeld=>?_)
 clear hK K
 refine lyX ?_
 clear hHeld
 refine fMX 6 (fun K hK=>?_)
 go_simp
 refine hK.out _ _ ?_
 clear hK K
 refine lyX ?_
 refine yL 7 (v:=?_) rfl (by kernel_rfl) (by kernel_rfl) (by kernel_rfl) (by kernel_rfl) (fun _ _ _ h=>h) (by kernel_rfl) ?_ (fun h=>absurd h (aal (by kernel_rfl))) ?_;rotate_left;(focus(intro w;go_simp <;> with_reducible rfl));refine lyX ?_
 refine yL 8 (v:=?_) rfl (by kernel_rfl) (by kernel_rfl) (by kernel_rfl) (by kernel_rfl) (fun _ _ _ h=>h) (by kernel_rfl) ?_ (fun h=>absurd h (aal (by kernel_rfl))) ?_;rotate_left;(focus(intro w;go_simp <;> with_reducible rfl));refine lyX ?_
 refine fMX 9 (fun K hK=>?_)
 refine z8 (v:= .int .i64 ((s+(n+1):Nat):Int)) HH2.out rfl rfl (by rw [←hw1];rfl) j hj (by simp) rfl (by kernel_rfl) ?_
 intro w9 hh9
 have HH9:=hiD hh9
 clear hh9 HH2
 refine hK.out _ _ ?_
 clear hK K
 refine lyX ?_
 refine xD (by kernel_rfl) ?_
 go_wp2_with fail
 go_end0
 exact⟨rfl,HH9.out⟩
theorem ahI{w0 w:World}{its:List It}(b s:Nat)(vs:List Value)(H:Heap w0 (.box b (.int .i64 (s:Int)::vs)::its) w)(x:Dst)(hx:Dst.At w0 0 w0.heap.size x)(hs:s≤100000000000000):
 Calls Tryz.prog 236 #[.agg x.cells.toArray,.func (.func 223) #[.pointer (some ⟨b,0,none⟩)] #[]] w fun e w'=>e= .returned (.tuple #[])∧Heap w0 (.box b (.int .i64 ((s+chS x:Nat):Int)::vs)::its) w':=by
 have HH:=hiD H
 have HX:=hiD hx
 have hbS:=hx.bodyS
 have hfS:=hx.snapsS
 have hcx:=afe hx
 have HV:=hiD (show chS x=1+x.body.n+(x.snaps.xs.map fun y:Sna=>1+y.body.xs.length).sum by rw [chS,hx.body.len])
 have HS1:=hiD (fun k (hk:k < x.snaps.xs.length)=>show((x.snaps.xs.take (k+1)).map fun y:Sna=>1+y.body.xs.length).sum=((x.snaps.xs.take k).map fun y:Sna=>1+y.body.xs.length).sum+(x.snaps.xs[k].body.n+1)by
  rw [List.take_succ_eq_append_getElem hk,List.map_append,List.sum_append,(hx.snaps.all _ (List.getElem_mem hk)).body.len];simp;omega)
 clear H hx
 generalize chS x=V at *
 obtain⟨Z,hZ⟩: ∃Z:Int,Z=((s+V:Nat):Int):=⟨_,rfl⟩
 rw [←hZ]
 have HZ:=hiD hZ
 clear hZ
 obtain⟨path,orig,⟨bA,bn,bc,bd⟩,⟨fA,fn,fc,fs⟩,⟨pA,pn,pc,ps⟩⟩:=x
 simp only [Dst.cells,Sl.val]
 dsimp only at HV HS1 hbS hfS
 go_enter Tryz.func236,Tryz.ntmps236
 go_upto_region 1 with fail
 generalize hwA:World.alloc w _=w1
 have HH2:=hiD (HH.out.allocE hwA)
 clear hwA HH
 have HH:=HH2
 clear HH2
 generalize w.heap.size=xb at *
 go_wp2_with (refine l1X HH 0 ?_)
 refine(aeT b s 1 vs HH.out rfl bA bn bc hbS (by omega)).mono ?_
 rintro e w2 ⟨rfl,h2⟩
 replace HH:=hiD h2
 simp only [List.set_cons_succ,List.set_cons_zero]at HH
 clear h2
 go_wp2_with (refine l1X HH 0 ?_)
 have HF:=hiD (show fn=fs.length from HX.out.snaps.len)
 have HSn:=hiD HX.out.snaps
 clear HX
 go_loopw [13] (fun i wr=> ∃k sm:Nat,k≤fn∧i= .int .i64 (k:Int)∧Hid (sm=((fs.take k).map fun y:Sna=>1+y.body.xs.length).sum)∧sm≤V∧Hid (Heap w0 (.box xb [.string path,.string orig,.slice bA bn bc,.slice fA fn fc,.slice pA pn pc]:: .box b (.int .i64 ((s+(bn+1)+sm:Nat):Int)::vs)::its) wr)) (fun i _=>fn - (intOf i).toNat)
 case atStart=>exact⟨0,0,Nat.zero_le _,rfl,hiD rfl,Nat.zero_le _,HH⟩
 case round=>
  clear HH
  obtain⟨k,sm,hk,rfl,HK,hsm,HH⟩:=hrel
  by_cases hlt:k < fn
  ·have hl:k < fs.length:=by rw [←HF.out];exact hlt
   obtain⟨b1,o1,hA1,_,hb1,G0⟩:=zh (size:=5) (fun _=>rfl) (by omega) (HSn.out.rd.ext HH.out.ext (Nat.le_refl _)) hl
   dsimp only at hA1
   subst hA1
   have HT:=hiD (HS1.out k hl)
   have hyS:=(HSn.out.all _ (List.getElem_mem hl)).bodyS
   have hle:sm+(fs[k].body.n+1)≤V:=by
    have h1:=HT.out
    rw [←HK.out]at h1
    have h2:((fs.take (k+1)).map fun y:Sna=>1+y.body.xs.length).sum≤(fs.map fun y:Sna=>1+y.body.xs.length).sum:=by
     conv=>rhs;rw [←List.take_append_drop (k+1) fs]
     rw [List.map_append,List.sum_append];omega
    have h3:=HV.out
    omega
   generalize fs[k]=x at *
   obtain⟨nm,gd,⟨yA,yn,yc,yd⟩,⟨tA,tn,tc,tx⟩,⟨qA,qn,qc,qx⟩⟩:=x
   dsimp only at hyS hle
   have HG:=hiD (fun j u hu=>G0 j u hu)
   clear G0
   simp only [Sna.cells,Sl.val]at HG
   have hkn:(k:Int) < (fn:Int):=by omega
   go_upto_region 5 with(first | (refine yF HG.out rfl aaj (by kernel_rfl) rfl rfl rfl ?_) | (refine sSX (hiD (HH.out.alloc _ _)) aaj 0 ?_;clear HH;intro wS HH))
   generalize wr.heap.size=yb at *
   go_wp2_with (refine l1X HH 0 ?_)
   refine(aeT b (s+(bn+1)+sm) 2 vs HH.out rfl yA yn yc hyS (by omega)).mono ?_
   rintro e w3 ⟨rfl,h3⟩
   replace HH:=hiD h3.tail
   simp only [List.set_cons_succ,List.set_cons_zero]at HH
   clear h3
   go_wp2_with fail
   go_roundw
   case rel=>exact⟨k+1,sm+(yn+1),by omega,by go_num,hiD (by rw [HT.out,HK.out]),hle,by rw [←Nat.add_assoc];exact HH⟩
   case measure=>(first | (simp [intOf];done) | (simp [intOf];omega))
  ·obtain rfl:k=fn:=by omega
   have h1:=HK.out
   rw [List.take_of_length_le (by rw [←HF.out];exact Nat.le_refl _)]at h1
   have h2:=HV.out
   rw [←h1]at h2
   have h3:s+(bn+1)+sm=s+V:=by omega
   rw [h3,←HZ.out]at HH
   clear h1 h2 h3
   go_wp2_with fail
   go_end0
   exact⟨rfl,HH.out.tail⟩
theorem ams{w0 w:World}{its:List It}(b s:Nat)(vs:List Value)(H:Heap w0 (.box b (.int .i64 (s:Int)::vs)::its) w)(x:Dst)(hx:Dst.At w0 0 w0.heap.size x)(hs:s≤100000000000000):
 Calls Tryz.prog 222 #[.pointer (some ⟨b,0,none⟩),.agg x.cells.toArray] w fun e w'=>e= .returned (.tuple #[])∧Heap w0 (.box b (.int .i64 ((s+chS x:Nat):Int)::vs)::its) w':=by
 have HH:=hiD H
 have HB:=hiD (fun W (hW:Heap w0 (.box b (.int .i64 (s:Int)::vs)::(its++ [.box w.heap.size x.cells])) W)=>ahI b s vs hW x hx hs)
 clear H hx
 generalize ((s+chS x:Nat):Int)=Z at *
 obtain⟨path,orig,⟨bA,bn,bc,bd⟩,⟨fA,fn,fc,fs⟩,⟨pA,pn,pc,ps⟩⟩:=x
 simp only [Dst.cells,Sl.val]at HB ⊢
 go_enter Tryz.func222,Tryz.ntmps222
 go_upto_region 1 with fail
 generalize hwA:World.alloc w _=w1
 have HH2:=hiD (HH.out.allocE hwA)
 clear hwA HH
 have HH:=HH2
 clear HH2
 generalize w.heap.size=xb at *
 have HH3:=hiD (show Heap w0 (.box b (.int .i64 (s:Int)::vs)::(its++ [.box xb [.string path,.string orig,.slice bA bn bc,.slice fA fn fc,.slice pA pn pc]])) w1 from(Heap.swap (a:= [_]) HH.out))
 go_wp2_with (refine lSX HH xq 0 ?_)
 refine(HB.out _ HH3.out).mono ?_
 rintro e w3 ⟨rfl,h3⟩
 replace HH:=hiD h3
 clear h3
 go_wp2_with fail
 go_end0
 exact⟨rfl,HH.out.pre (a:= .box b (.int .i64 Z::vs)::its)⟩
def apg(w w':World)(q:Int)(V:Nat)(e:Ending):Prop:= ∃b,e= .returned (.pointer (some ⟨b,0,none⟩))∧Heap w [.box b [.int .i64 (V:Int),.int .i64 q]] w'
theorem agG(w:World)(t:Tnt)(h:Tnt.At w 0 w.heap.size t)(hs:t.sets.n≤32)(hg:t.stages.n≤4):
 Calls Tryz.prog 198 #[.agg t.cells.toArray] w fun e w'=>apg w w' t.quota (chT t) e:=by
 have HSa:=hiD h.sets
 have HTa:=hiD h.stages
 have HV:=hiD (show chT t=(t.sets.xs.map chS).sum+(t.stages.xs.map chG).sum from rfl)
 have HS1:=hiD (fun k (hk:k < t.sets.xs.length)=>show((t.sets.xs.take (k+1)).map chS).sum=((t.sets.xs.take k).map chS).sum+chS t.sets.xs[k]by
  rw [List.take_succ_eq_append_getElem hk,List.map_append,List.sum_append];simp)
 have HS2:=hiD (fun k (hk:k < t.stages.xs.length)=>show((t.stages.xs.take (k+1)).map chG).sum=((t.stages.xs.take k).map chG).sum+(t.stages.xs[k].bn+1)by
  rw [List.take_succ_eq_append_getElem hk,List.map_append,List.sum_append,(h.stages.all _ (List.getElem_mem hk)).bodyN];simp [chG];omega)
 have HB1:=hiD (fun k=>show((t.sets.xs.take k).map chS).sum≤35184439197728 by
  have h1:=qL ((t.sets.xs.take k).map chS) 1099513724929 fun z hz=>by
   obtain⟨y,hy,rfl⟩:=List.mem_map.1 hz
   exact afe (h.sets.all y (List.mem_of_mem_take hy))
  have h2:(t.sets.xs.take k).length≤32:=by rw [List.length_take];rw [h.sets.len]at hs;omega
  rw [List.length_map]at h1
  exact Nat.le_trans h1 (Nat.le_trans (Nat.mul_le_mul_right 1099513724929 h2) (by decide)))
 have HB2:=hiD (fun k=>show((t.stages.xs.take k).map chG).sum≤4194308 by
  have h1:=qL ((t.stages.xs.take k).map chG) 1048577 fun z hz=>by
   obtain⟨y,hy,rfl⟩:=List.mem_map.1 hz
   have hy2:=h.stages.all y (List.mem_of_mem_take hy)
   have:=hy2.bodyM
   rw [hy2.bodyN]at this
   rw [chG];omega
  have h2:(t.stages.xs.take k).length≤4:=by rw [List.length_take];rw [h.stages.len]at hg;omega
  rw [List.length_map]at h1
  exact Nat.le_trans h1 (Nat.le_trans (Nat.mul_le_mul_right 1048577 h2) (by decide)))
 generalize hVV:chT t=V at *
 clear h hVV
 obtain⟨name,quota,next,⟨sA,sn,sc,ss⟩,⟨gA,gn,gc,gs⟩,⟨aA,an,ac,ax⟩,⟨lA,ln,lc,ls⟩⟩:=t
 have Hsn:=hiD (show sn=ss.length from HSa.out.len)
 have Han:=hiD (show an=ax.length from HTa.out.len)
 dsimp only at HV HS1 HS2 HB1 HB2 hs hg ⊢
 simp only [Tnt.cells,Sl.val]
 go_enter Tryz.func198,Tryz.ntmps198
 go_upto_region 1 with fail
 generalize hwH:World.alloc w _=w1;have HH:=hiD (Heap.one hwH);clear hwH
 obtain⟨tv,htv⟩: ∃tv:List Value,tv= [.string name,.int .i64 quota,.int .i64 next,.slice sA sn sc,.slice gA gn gc,.slice aA an ac,.slice lA ln lc]:=⟨_,rfl⟩
 rw [←htv]at HH
 have HTV:=hiD htv
 clear htv
 have c1:=(HH.out.boxAt 0 rfl).cell 1 (.int .i64 quota) (by rw [HTV.out];rfl)
 go_upto_region 2 with fail
 generalize hwA:World.alloc w1 _=w2
 have HH2:=hiD (HH.out.allocE hwA)
 clear hwA HH c1
 have HH:=HH2
 clear HH2
 have htb:=HH.out.ext.size
 generalize w1.heap.size=cb at *
 have c3:=(HH.out.boxAt 1 rfl).cell 3 (.slice sA sn sc) (by rw [HTV.out];rfl)
 go_wp2_with fail
 go_loopw [15] (fun i wr=> ∃k sm:Nat,k≤sn∧i= .int .i64 (k:Int)∧Hid (sm=((ss.take k).map chS).sum)∧Hid (Heap w [.box cb [.int .i64 (sm:Int),.int .i64 quota],.box w.heap.size tv] wr)) (fun i _=>sn - (intOf i).toNat)
 case atStart=>exact⟨0,0,Nat.zero_le _,rfl,hiD rfl,HH⟩
 case round=>
  clear HH c3 htb
  obtain⟨k,sm,hk,rfl,HK,HH⟩:=hrel
  have hsz:sm≤35184439197728:=by rw [HK.out];exact HB1.out k
  by_cases hlt:k < sn
  ·have hl:k < ss.length:=by rw [←Hsn.out];exact hlt
   obtain⟨b1,o1,hA1,_,hb1,G0⟩:=zh (size:=5) (fun _=>rfl) (by omega) (HSa.out.rd.ext HH.out.ext (Nat.le_refl _)) hl
   dsimp only at hA1
   subst hA1
   have HT:=hiD (HS1.out k hl)
   have HSt:=hiD (fun(W:World) (its:List It) (hW:Heap w (.box cb [.int .i64 (sm:Int),.int .i64 quota]::its) W)=>ams cb sm _ hW ss[k] (HSa.out.all _ (List.getElem_mem hl)) (by omega))
   generalize ss[k]=x at *
   generalize chS x=cx at *
   obtain⟨path,orig,⟨bA,bn,bc,bd⟩,⟨fA,fn,fc,fs⟩,⟨pA,pn,pc,ps⟩⟩:=x
   simp only [Dst.cells,Sl.val]at HSt
   have HG:=hiD (fun j u hu=>G0 j u hu)
   clear G0
   simp only [Dst.cells,Sl.val]at HG
   have hkn:(k:Int) < (sn:Int):=by omega
   go_upto_region 5 with(first | (refine yF HG.out rfl xq (by kernel_rfl) rfl rfl rfl ?_) | (refine sSX (hiD (HH.out.alloc _ _)) xq 0 ?_;clear HH;intro wS HH))
   generalize wr.heap.size=xb at *
   have HH2:=hiD HH.out.drew
   clear HH HG
   refine qe (fun k=>decide (k≤4)) (S:=Heap w [.box xb [.string path,.string orig,.slice bA bn bc,.slice fA fn fc,.slice pA pn pc],.box cb [.int .i64 (sm:Int),.int .i64 quota],.box w.heap.size tv]) (by kernel_rfl) HH2.out (fun hHeld=>?_)
   generalize World.drew _=wd at *
   refine tM 0 3 ?_
   refine mG 3 rfl (fun wT hST=>zj hST xq (by kernel_rfl) rfl rfl 0 rfl (Nat.le_of_ble_eq_true rfl)) hHeld ?_;refine lyX ?_
   clear hHeld
   refine fMX 4 (fun K hK=>?_)
   go_simp
   refine(HSt.out _ _ HH2.out.tail).mono ?_
   rintro e w4 ⟨rfl,h4⟩
   have HH4:=hiD h4
   clear h4 HH2
   go_wp2_with fail
   refine hK.out _ _ ?_
   clear hK K
   refine lyX ?_
   refine xD (by kernel_rfl) ?_
   go_wp2_with fail
   go_roundw
   case rel=>exact⟨k+1,sm+cx,by omega,by go_num,hiD (by rw [HT.out,HK.out]),HH4⟩
   case measure=>(first | (simp [intOf];done) | (simp [intOf];omega))
  ·obtain rfl:k=sn:=by omega
   have h1:=HK.out
   rw [List.take_of_length_le (by rw [←Hsn.out];exact Nat.le_refl _)]at h1
   have HZ:=hiD (show V=sm+(ax.map chG).sum by rw [HV.out,h1])
   have HE:=hiD HH.out.ext
   clear h1 HV HS1 HB1
   have c5:=(HH.out.boxAt 1 rfl).cell 5 (.slice aA an ac) (by rw [HTV.out];rfl)
   go_wp2_with fail
   clear c5
   go_loopw [28] (fun i wr=> ∃j tq:Nat,j≤an∧i= .int .i64 (j:Int)∧Hid (tq=((ax.take j).map chG).sum)∧Hid (Heap w [.box cb [.int .i64 ((sm+tq:Nat):Int),.int .i64 quota],.box w.heap.size tv] wr)) (fun i _=>an - (intOf i).toNat)
   case atStart=>exact⟨0,0,Nat.zero_le _,rfl,hiD rfl,HH⟩
   case round=>
    clear HH HK
    obtain⟨j,tq,hj,rfl,HK2,HH⟩:=hrel
    have hsz2:tq≤4194308:=by rw [HK2.out];exact HB2.out j
    by_cases hlt2:j < an
    ·have hl2:j < ax.length:=by rw [←Han.out];exact hlt2
     obtain⟨b2,o2,hA2,_,hb2,G0⟩:=zh (size:=21) (fun _=>rfl) (by omega) (HTa.out.rd.ext HH.out.ext (Nat.le_refl _)) hl2
     dsimp only at hA2
     subst hA2
     have HT:=hiD (HS2.out j hl2)
     have hyn:=(HTa.out.all _ (List.getElem_mem hl2)).bodyM
     have HG:=hiD (fun j u hu=>G0 j u hu)
     clear G0
     generalize ax[j]=x at *
     obtain⟨into,⟨kind,name,frm,guid,oA,on,oc,own,index,count,data,s0,s1,s2,s3⟩,bA,bn,bc,body,pos,next,⟨ua,ub,uc,ud⟩,dn⟩:=x
     simp only [Stg.cells,Rec.cells,Su.cells,List.cons_append,List.nil_append]at HG
     dsimp only at HT hyn
     have hjn:(j:Int) < (an:Int):=by omega
     go_upto_region 10 with(first | (refine yF HG.out rfl xT (by kernel_rfl) rfl rfl rfl ?_) | (refine sSX (hiD (HH.out.alloc _ _)) xT 0 ?_;clear HH;intro wS HH))
     generalize wr.heap.size=xb at *
     have HH2:=hiD HH.out.drew
     clear HH HG
     obtain⟨xv,hxv⟩: ∃xv:List Value,Heap w [.box xb xv,.box cb [.int .i64 ((sm+tq:Nat):Int),.int .i64 quota],.box w.heap.size tv] (World.drew wS)∧xv[13]?=some (.slice bA bn bc):=⟨_,HH2.out,rfl⟩
     have HH3:=hiD hxv.1
     have h13:=hxv.2
     clear hxv HH2
     refine qe (fun k=>decide (k≤5)) (S:=Heap w [.box xb xv,.box cb [.int .i64 ((sm+tq:Nat):Int),.int .i64 quota],.box w.heap.size tv]) (by kernel_rfl) HH3.out (fun hHeld=>?_)
     generalize World.drew _=wd at *
     refine tM 0 4 ?_
     refine mG 4 rfl (fun wT hST=>zk hST rfl rfl 0 rfl h13 (by kernel_rfl)) hHeld ?_
     refine lyX ?_
     clear hHeld
     refine fMX 5 (fun K hK=>?_)
     go_simp
     refine(aeT cb (sm+tq) 1 _ HH3.out rfl bA bn bc hyn (by omega)).mono ?_
     rintro e w4 ⟨rfl,h4⟩
     have HH4:=hiD h4.tail
     clear h4 HH3
     simp only [List.set_cons_succ,List.set_cons_zero]at HH4
     go_wp2_with fail
     refine hK.out _ _ ?_
     clear hK K
     refine lyX ?_
     refine xD (by kernel_rfl) ?_
     go_wp2_with fail
     go_roundw
     case rel=>exact⟨j+1,tq+(bn+1),by omega,by go_num,hiD (by rw [HT.out,HK2.out]),by rw [←Nat.add_assoc];exact HH4⟩
     case measure=>(first | (simp [intOf];done) | (simp [intOf];omega))
    ·obtain rfl:j=an:=by omega
     have h1:=HK2.out
     rw [List.take_of_length_le (by rw [←Han.out];exact Nat.le_refl _)]at h1
     have h2:sm+tq=V:=by rw [HZ.out,h1]
     rw [h2]at HH
     clear h1 h2 HZ HK2
     go_wp2_with fail
     go_ret
     exact⟨cb,rfl,HH.out.pre (a:= [_])⟩
theorem aj8{w0 w:World}{b V:Nat}{q:Int}(H:Heap w0 [.box b [.int .i64 (V:Int),.int .i64 q]] w):
 Calls Tryz.prog 199 #[.pointer (some ⟨b,0,none⟩)] w fun e w'=>e= .returned (.bool (decide (q < (V:Int))))∧Heap w0 [.box b [.int .i64 (V:Int),.int .i64 q]] w':=by
 have HH:=hiD H
 clear H
 go_enter Tryz.func199,Tryz.ntmps199
 go_upto_region 1 with fail
 have HH2:=hiD HH.out.drew
 clear HH
 refine wp_region_held_drew (S:=Heap w0 [.box b [.int .i64 (V:Int),.int .i64 q]]) (by kernel_rfl) HH2.out (fun hHeld=>?_)
 generalize World.drew _=wd at *
 refine tW 0 4 ?_
 refine tH 4 0 ?_
 refine tW 5 3 ?_
 refine tH 8 0 ?_
 refine tW 9 2 ?_
 refine dnX ?_
 go_wp2_with fail
 go_ret
 exact⟨rfl,HH2.out⟩
def xQ(t:Tnt):Bool:=!decide (t.quota < (chT t:Int))
theorem alJ(w:World)(t:Tnt)(h:Tnt.At w 0 w.heap.size t)(hs:t.sets.n≤32)(hg:t.stages.n≤4):
 Calls Tryz.prog 161 #[.agg t.cells.toArray] w fun e w'=>e= .returned (.bool (xQ t))∧Ext w w':=by
 have HC:=hiD (fun W (hW:Ext w W)=>agG W t (Tnt.At.on h hW (Nat.le_refl _)) hs hg)
 rw [xQ]
 clear h hs hg
 generalize chT t=V at *
 obtain⟨name,quota,next,⟨sA,sn,sc,ss⟩,⟨gA,gn,gc,gs⟩,⟨aA,an,ac,ax⟩,⟨lA,ln,lc,ls⟩⟩:=t
 simp only [Tnt.cells,Sl.val]at *
 go_enter Tryz.func161,Tryz.ntmps161
 go_upto_region 1 with fail
 generalize hwH:World.alloc w _=w1;have HH:=hiD (Heap.one hwH);clear hwH
 go_wp2_with (refine lSX HH zt 0 ?_)
 refine(HC.out _ HH.out.ext).mono ?_
 rintro e w2 ⟨b,rfl,h2⟩
 have HE:=hiD (HH.out.ext)
 have H2:=hiD h2
 clear HH h2
 go_wp2_with fail
 refine(aj8 H2.out).mono ?_
 rintro e w3 ⟨rfl,h3⟩
 go_wp2_with fail
 go_ret
 exact⟨rfl,HE.out.trans h3.ext⟩
end Go.Proofs.YtckaneapjpiocaaGreatDoor
