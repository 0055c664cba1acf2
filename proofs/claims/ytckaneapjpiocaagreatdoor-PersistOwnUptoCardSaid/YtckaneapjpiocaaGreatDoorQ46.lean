/- The texts Prd, Plw, Prl, Psm2, Ppn, Alp, Pbr, Max in one file. -/
import Derived.Test.YtckaneapjpiocaaGreatDoorQ38
import Derived.Test.YtckaneapjpiocaaGreatDoorQ45
import Derived.Test.YtckaneapjpiocaaGreatDoorTie
import Derived.Test.YtckaneapjpiocaaGreatDoorCards
import Derived.Lay
import Derived.Deep.DeepHandedRow
set_option linter.unusedVariables false
set_option linter.unusedSimpArgs false
set_option maxHeartbeats 16000000
set_option maxRecDepth 100000
namespace Go.Proofs.YtckaneapjpiocaaGreatDoor
open Go.RowKit Go.Maps Go.Sort Go.Shelf
abbrev adK:List Value:= [.int .i64 0,.slice none 0 0,.slice none 0 0,.slice none 0 0]
theorem ajP{w0 w:World}{its:List It}{tb eb:Nat}{x0 x1 x2 x3 ev:Value}(q:Int)(older:List PanicEntry)(HH:Hid (Heap w0 (.box tb [x0,x1,x2,x3]:: .box eb [ev]::its) w)):
 CallsD Tryz.prog 64 #[.pointer (some ⟨tb,0,none⟩),.pointer (some ⟨eb,0,none⟩)] (.panicking ({ v:=aae q,recovered:=false } ::older)) w fun e u' w'=>
  e= .returned (.tuple #[])∧u'= .panicking ({ v:=aae q,recovered:=true } ::older)∧Heap w0 (.box tb adK:: .box eb [.int .i64 q]::its) w':=by
 refine callsD_of_wpS Tryz.func64 rfl fun c₀ cs hu=>?_
 simp only [Tryz.ntmps64,List.size_toArray,List.length_cons,List.length_nil,Nat.reduceAdd,Nat.reduceSub,Array.replicate_succ,Array.replicate_zero,List.push_toArray,List.append_toArray,List.nil_append,List.cons_append]
 apply wpS_seq
 apply abN (l:= [0,1,2,3,4,5,6]) rfl
 refine aj5 (w':=w) (cs':={ c₀ with mode:= .panicking ({ v:=aae q,recovered:=true } ::older) } ::cs) (v:=aae q) rfl (by kernel_rfl) (by rfl) (by simp only [recoverD,hu]) ?_
 simp only [Act.put]
 refine zZ (w':=w) (v:= .tuple #[.int .i64 q,.bool true]) rfl (by kernel_rfl) (by kernel_rfl) ?_
 refine zZ (w':=w) (v:= .tuple #[.int .i64 q,.bool true]) rfl (by kernel_rfl) (by kernel_rfl) ?_
 refine zZ (w':=w) (v:= .int .i64 q) rfl (by kernel_rfl) (by kernel_rfl) ?_
 refine zZ (w':=w) (v:= .bool true) rfl (by kernel_rfl) (by kernel_rfl) ?_
 refine zZ (w':=w) (v:= .int .i64 q) rfl (by kernel_rfl) (by kernel_rfl) ?_
 refine zZ (w':=w) (v:= .bool true) rfl (by kernel_rfl) (by kernel_rfl) ?_
 refine aec ?_
 simp only [Exit.thenS]
 refine wpS_of_wp ?_
 go_wp2_with (first | (refine sSX HH aag 0 ?_;clear HH;intro wS HH) | (refine s1X HH 1 ?_;clear HH;intro wS HH))
 exact⟨rfl,.panicking ({ v:=aae q,recovered:=true } ::older),rfl,.tuple #[],by kernel_rfl,rfl,rfl,HH.out⟩
theorem am8{w0 w:World}{its:List It}{p1 p2:Value}(HH:Hid (Heap w0 its w)):
 CallsD Tryz.prog 64 #[p1,p2] .returning w fun e u' w'=>e= .returned (.tuple #[])∧u'= .returning∧Heap w0 its w':=by
 refine callsD_of_wpS Tryz.func64 rfl fun c₀ cs hu=>?_
 simp only [Tryz.ntmps64,List.size_toArray,List.length_cons,List.length_nil,Nat.reduceAdd,Nat.reduceSub,Array.replicate_succ,Array.replicate_zero,List.push_toArray,List.append_toArray,List.nil_append,List.cons_append]
 apply wpS_seq
 apply abN (l:= [0,1,2,3,4,5,6]) rfl
 refine afH (w':=w) rfl (by kernel_rfl) (by rfl) (by simp only [recoverD,hu]) ?_
 simp only [Act.put]
 refine zZ (w':=w) (v:= .tuple #[.int .i64 0,.bool false]) rfl (by kernel_rfl) (by kernel_rfl) ?_
 refine zZ (w':=w) (v:= .tuple #[.int .i64 0,.bool false]) rfl (by kernel_rfl) (by kernel_rfl) ?_
 refine zZ (w':=w) (v:= .int .i64 0) rfl (by kernel_rfl) (by kernel_rfl) ?_
 refine zZ (w':=w) (v:= .bool false) rfl (by kernel_rfl) (by kernel_rfl) ?_
 refine zZ (w':=w) (v:= .int .i64 0) rfl (by kernel_rfl) (by kernel_rfl) ?_
 refine zZ (w':=w) (v:= .bool false) rfl (by kernel_rfl) (by kernel_rfl) ?_
 refine aec ?_
 simp only [Exit.thenS]
 refine wpS_of_wp ?_
 go_wp2_with fail
 refine⟨rfl,.returning,?_,.tuple #[],by kernel_rfl,rfl,rfl,HH.out⟩
 cases c₀
 simp_all
section
variable {w0 w:World} {its:List It} {R:Ending→World→Prop} {tmps:Array Value}
abbrev aoC(tb eb:Nat):List Deferred:= [⟨.fn (.func 64) #[.pointer (some ⟨tb,0,none⟩),.pointer (some ⟨eb,0,none⟩)],#[]⟩]
theorem aa0{tb eb:Nat}{x0 x1 x2 x3 ev:Value}(q:Int)(H:Heap w0 (.box tb [x0,x1,x2,x3]:: .box eb [ev]::its) w)
 (h4:tmps.getD 2 undef= .pointer (some ⟨tb,0,none⟩)) (h5:tmps.getD 3 undef= .pointer (some ⟨eb,0,none⟩)) (hR: ∀w',Ext w0 w'→R (.returned (.tuple #[.agg adK.toArray,.int .i64 q])) w'):
 Leaves Tryz.prog Tryz.f25 tmps R (aoC tb eb) (.panicking [{ v:=aae q,recovered:=false }]) w:=by
 refine leaves_cons (f:=64) (args:= #[.pointer (some ⟨tb,0,none⟩),.pointer (some ⟨eb,0,none⟩)]) (by simp) (by simp [go_sem]) ?_
 refine(ajP q [] (hiD H)).mono ?_
 rintro e u' w'' ⟨rfl,rfl,H2⟩
 simp only [settle,List.dropWhile]
 exact ac2 aag (by kernel_rfl) (by kernel_rfl) H2 rfl h4 h5 0 1 rfl rfl rfl (hR _ H2.ext)
theorem aof{tb eb:Nat}{x0 x1 x2 x3 ev:Value}(H:Heap w0 (.box tb [x0,x1,x2,x3]:: .box eb [ev]::its) w)
 (h4:tmps.getD 2 undef= .pointer (some ⟨tb,0,none⟩)) (h5:tmps.getD 3 undef= .pointer (some ⟨eb,0,none⟩)) (hR: ∀w',Heap w0 (.box tb [x0,x1,x2,x3]:: .box eb [ev]::its) w'→R (.returned (.tuple #[.agg #[x0,x1,x2,x3],ev])) w'):
 Leaves Tryz.prog Tryz.f25 tmps R (aoC tb eb) .returning w:=by
 refine leaves_cons (f:=64) (args:= #[.pointer (some ⟨tb,0,none⟩),.pointer (some ⟨eb,0,none⟩)]) (by simp) (by simp [go_sem]) ?_
 refine(am8 (hiD H)).mono ?_
 rintro e u' w'' ⟨rfl,rfl,H2⟩
 simp only [settle]
 exact ac2 aag (by kernel_rfl) (by kernel_rfl) H2 rfl h4 h5 0 1 rfl rfl rfl (hR _ H2)
end
theorem am1(W:World)(x:Ob):Calls Tryz.prog 66 (#[.agg x.cells.toArray]++ #[]) W fun e w'=>e= .returned (.bool (x.key.toList == kP.toList))∧Ext W w':=by
 obtain⟨key,⟨dA,dn,dc,dx⟩,⟨lA,ln,lc,lx⟩⟩:=x
 simp only [Ob.cells,Sl.val,List.append_toArray,List.append_nil]
 have HV:=hiD (show(key.toList == kP.toList)=(key.toList == [112])by rw [show kP.toList= [112]by rw [ByteArray.toList_eq];rfl])
 generalize (key.toList == kP.toList)=V at *
 go_enter Tryz.func66,Tryz.ntmps66
 go_wp2_with fail
 generalize hw1:World.alloc W _=w1;obtain⟨ew1,zw1,Gw1⟩:=aat hw1;have gw1_0:=Gw1 0 _ rfl;have gw1_1:=Gw1 1 _ rfl;have gw1_2:=Gw1 2 _ rfl;have Zw1:=hiD zw1;clear zw1 hw1 Gw1
 have g0:=gw1_0 w1 (Ext.refl _)
 have E1:=hiD ew1
 clear gw1_0 gw1_1 gw1_2 Zw1 ew1
 go_wp2_with fail
 go_ret
 exact⟨by rw [HV.out];rfl,E1.out⟩
theorem ahK(w:World)(s:Sl Ob)(h:Sl.At w 0 w.heap.size Ob.cells (Ob.At w 0 w.heap.size) s)(hN:s.n≤1048576):
 Calls Tryz.prog 68 #[s.val] w fun e w'=>e= .returned (.bool (yR (s.xs.map Ob.key)))∧Ext w w':=by
 have HR:=hiD h.rd
 have Hn:=hiD h.len
 have HYe:=hiD (fun hp=>aa1 (s.xs.map Ob.key) hp)
 have HNo:=hiD (fun k h hp=>aca (s.xs.map Ob.key) k h hp)
 generalize yR (s.xs.map Ob.key)=V at *
 obtain⟨A,n,c,os⟩:=s
 dsimp only at hN Hn HR HYe HNo
 simp only [Sl.val]
 clear h
 go_enter Tryz.func68,Tryz.ntmps68
 go_wp2_with fail
 go_loopw [7] (fun i wr=> ∃k:Nat,k≤n∧i= .int .i64 (k:Int)∧Hid (∀j (h:j+1 < (os.map Ob.key).length),j+1 < k→lessB (os.map Ob.key)[j] (os.map Ob.key)[j+1]=true)∧Ext w wr) (fun i _=>n - (intOf i).toNat)
 case atStart=>exact⟨0,Nat.zero_le _,rfl,hiD (fun j _ h=>absurd h (by omega)),Ext.refl _⟩
 case round=>
  obtain⟨k,hk,rfl,HK,e1⟩:=hrel
  have E1:=hiD e1
  clear e1
  by_cases hlt:k < n
  ·have hkk:(k:Int) < (n:Int):=by omega
   have hl:k < os.length:=by rw [←Hn.out];exact hlt
   obtain⟨b2,o2,rfl,hb2,f0,f1,f2⟩:=aaJ HR.out hl
   have HS:=hiD (fun(hq: ∀j,k=j+1→ ∀(h1:j < os.length),lessB os[j].key os[k].key=true)=>show∀j (h:j+1 < (os.map Ob.key).length),j+1 < k+1→lessB (os.map Ob.key)[j] (os.map Ob.key)[j+1]=true from fun j h hj=>by
    by_cases hjk:j+1 < k
    ·exact HK.out j h hjk
    ·have e:k=j+1:=by omega
     subst e
     have:=hq j rfl (by omega)
     simpa using this)
   have HNk:=hiD (fun j (e:k=j+1) (h1:j < os.length) (hq:lessB os[j].key os[k].key=false)=>show V=false from by
    subst e
    exact HNo.out j (by rw [List.length_map];exact hl) (by simpa using hq))
   have HJ:=hiD (fun j (h1:j < os.length)=>(aaJ HR.out h1))
   have g0:wr.cell? ⟨b2,o2+k * 3,none⟩=some (.string os[k].key):=(Below.cell (p:=⟨b2,o2+k * 3,none⟩) E1.out hb2).trans f0
   have g1:wr.cell? ⟨b2,o2+k * 3+1,none⟩=some os[k].data.val:=(Below.cell (p:=⟨b2,o2+k * 3+1,none⟩) E1.out hb2).trans f1
   have g2:wr.cell? ⟨b2,o2+k * 3+2,none⟩=some os[k].locs.val:=(Below.cell (p:=⟨b2,o2+k * 3+2,none⟩) E1.out hb2).trans f2
   clear f0 f1 f2
   generalize os[k]=x at *
   obtain⟨key,⟨xA,xn,xc,xx⟩,⟨lA,ln,lc,lx⟩⟩:=x
   simp only [Sl.val]at g1 g2
   dsimp only at g0 HS HNk
   have HH:=hiD (Heap.start wr)
   go_upto_region 4 with(refine sSX (hiD (HH.out.alloc _ _)) yr 0 ?_;clear HH;intro wS HH)
   have E4:=hiD (E1.out.trans HH.out.ext)
   have c0:=(HH.out.boxAt 0 rfl).cell 0 _ rfl
   generalize wr.heap.size=xb at *
   clear g0 g1 g2 HH
   cases k with
   | zero=>
     have hq:decide ((0:Int) < ((0:Nat):Int))=false:=rfl
     go_wp2_with fail
     refine wp_region_held_drew (S:=fun w'=>w'=(wS).drew) (by kernel_rfl) rfl (fun hHeld=>?_)
     refine tW 0 3 ?_
     refine sW 3 9 ?_
     refine tW 12 1 ?_
     refine dnX ?_
     clear hHeld
     go_wp2_with fail
     go_roundw
     case rel=>exact⟨1,by omega,rfl,hiD (HS.out (fun j e=>absurd e (by omega))),E4.out.drew⟩
     case measure=>simp [intOf];omega
   | succ j=>
     have h1:j < os.length:=by omega
     obtain⟨b3,o3,he3,hb3,p0,_,_⟩:=HJ.out j h1
     simp only [Option.some.injEq,Addr.mk.injEq,and_true]at he3
     obtain⟨rfl,rfl⟩:=he3
     have g0:wS.cell? ⟨b2,o2+j * 3,none⟩=some (.string os[j].key):=(Below.cell (p:=⟨b2,o2+j * 3,none⟩) E4.out hb3).trans p0
     replace HS:=hiD (fun(hq:lessB os[j].key key=true)=>HS.out fun i e _=>by
      obtain rfl:j=i:=by omega
      exact hq)
     replace HNk:=hiD (fun(hq:lessB os[j].key key=false)=>HNk.out j rfl h1 hq)
     generalize os[j].key=ky at *
     clear p0 HJ hb3 hb2
     have hq:decide ((0:Int) < ((j+1:Nat):Int))=true:=by simp
     have he:((j+1:Nat):Int) - 1=(j:Int):=by omega
     have hwj:IntKind.i64.wrap (j:Int)=(j:Int):=IntWalk.i64_in _ (by omega)
     have hj2:(j:Int) < (n:Int):=by omega
     cases hL:lessB ky key with
     | true=>
       have hl2:Op.bytesLess ky.toList key.toList=true:=hL
       replace HS:=hiD (HS.out hL)
       clear hL HNk
       go_wp2_with fail
       refine wp_region_held_drew (S:=fun w'=>w'=(wS).drew) (by kernel_rfl) rfl (fun hHeld=>?_)
       refine tW 0 13 ?_
       refine dnX ?_
       clear hHeld
       go_wp2_with fail
       go_roundw
       case rel=>exact⟨j+1+1,by omega,by go_num,HS,E4.out.drew⟩
       case measure=>simp [intOf];omega
     | false=>
       have hl2:Op.bytesLess ky.toList key.toList=false:=hL
       obtain rfl:V=false:=HNk.out hL
       clear hL HNk HS
       go_wp2_with fail
       refine wp_region_held_drew (S:=fun w'=>w'=(wS).drew) (by kernel_rfl) rfl (fun hHeld=>?_)
       refine tW 0 13 ?_
       refine dnX ?_
       clear hHeld
       go_wp2_with fail
       go_ret
       exact⟨rfl,E4.out.drew⟩
  ·obtain rfl:k=n:=by omega
   obtain rfl:V=true:=HYe.out fun j h=>HK.out j h (by rw [List.length_map]at h;rw [Hn.out];exact h)
   go_wp2_with fail
   go_ret
   exact⟨rfl,E1.out⟩
def Pol.bare(p:Pol):Pol:=⟨p.cap,slB (p.ten.xs.map Tnt.bare),slB p.forced.xs,slB p.log.xs⟩
def isP(x:KD):Bool:=x.1.toList == kP.toList
theorem aei(x:KD):isP x=true↔x.1=kP:=by
 rw [isP,beq_iff_eq,ByteArray.toList_eq,ByteArray.toList_eq]
 exact⟨aah,fun h=>by rw [h]⟩
def aaG(xs:List KD):List ByteArray→Option (List Tnt)
 | []=>some []
 | n::ns=>if zd n=true then(abR n (ofP xs n)).bind fun t=>(aaG xs ns).bind fun l=>some (t::l)else none
def abT(xs:List KD)(ns:List ByteArray):Nat:=(ns.map fun n=>(ofP xs n).length).sum
def mkP(c:Int×List Prp×List Lin)(ts:List Tnt):Pol:=⟨c.1,slB ts,slB c.2.1,slB c.2.2⟩
def aeR(m n:Nat)(c:Int×List Prp×List Lin)(ts:List Tnt):Option Pol:=if m=n∧yf (mkP c ts)=true then some (mkP c ts)else none
def rPol(xs:List KD):Option Pol:=
 (xs.find? isP).bind fun h=>if yR (xs.map (·.1))=true then(acH h.2).bind fun p=>(aaG xs p.2).bind fun ts=>aeR (1+abT xs p.2) xs.length p.1 ts else none
theorem ano{α:Type}(f:α→Bool)(xs:List α)(k:Nat)(h:k < xs.length)(hf:f xs[k]=true)(h0:(xs.take k).all (fun x=>!f x)=true):xs.find? f=some xs[k]:=by
 have e:xs=xs.take k++xs[k]::xs.drop (k+1):=by rw [List.getElem_cons_drop,List.take_append_drop]
 have h1:(xs.take k).find? f=none:=List.find?_eq_none.2 fun x hx=>by
  have:=List.all_eq_true.1 h0 x hx
  simpa using this
 conv=>lhs;rw [e]
 rw [List.find?_append,h1,Option.none_or,List.find?_cons_of_pos hf]
theorem an1{α:Type}(f:α→Bool)(xs:List α)(h0:xs.all (fun x=>!f x)=true):xs.find? f=none:=List.find?_eq_none.2 fun x hx=>by
 have:=List.all_eq_true.1 h0 x hx
 simpa using this
theorem amR(x:Dst):chS x.bare=chS x:=by
 show 1+x.body.xs.length+((x.snaps.xs.map Sna.bare).map _).sum=_
 rw [List.map_map];rfl
theorem amz(t:Tnt):chT t.bare=chT t:=by
 show((t.sets.xs.map Dst.bare).map chS).sum+((t.stages.xs.map Stg.bare).map chG).sum=_
 rw [List.map_map,List.map_map,chT]
 congr 2
 exact List.map_congr_left fun x _=>amR x
theorem ad7(p:Pol)(h: ∀t∈p.ten.xs,∀y∈t.stages.xs,y.beg.on=y.beg.own.length):yf p.bare=yf p:=by
 have e1:(p.ten.xs.map Tnt.bare).all zH=p.ten.xs.all zH:=by
  rw [List.all_map]
  refine Bool.eq_iff_iff.2 ?_
  rw [List.all_eq_true,List.all_eq_true]
  exact⟨fun q t ht=>by rw [←acB t (h t ht)];exact q t ht,fun q t ht=>by
   show zH t.bare=true
   rw [acB t (h t ht)];exact q t ht⟩
 have e2:(p.ten.xs.map Tnt.bare).map Tnt.name=p.ten.xs.map Tnt.name:=by rw [List.map_map];rfl
 have e3:quo p.bare=quo p:=by
  show(p.ten.xs.map Tnt.bare).map Tnt.quota=_
  rw [List.map_map];rfl
 have e4:(p.ten.xs.map Tnt.bare).all xQ=p.ten.xs.all xQ:=by
  rw [List.all_map]
  congr 1
  funext t
  show xQ t.bare=xQ t
  rw [xQ,xQ,amz];rfl
 have e5:abk p.bare=abk p:=by
  rw [abk,abk,e3,show p.bare.cap=p.cap from rfl,show p.bare.ten.xs.all xQ=p.ten.xs.all xQ from e4]
 rw [yf,yf,e5]
 show(decide ((p.ten.xs.map Tnt.bare).length≤4) && (zE p.cap 0 && (decide (prE p.forced.xs=0) && (decide (p.log.xs.length≤16) && (p.log.xs.all liB && ((p.ten.xs.map Tnt.bare).all zH && (yR ((p.ten.xs.map Tnt.bare).map Tnt.name) && _)))))))=_
 rw [e1,e2,List.length_map]
theorem ae4{l:List ByteArray}(h:yR l=true):l.Nodup:=(aaX h).imp fun {a b} h e=>by
 rw [e,afh]at h;cases h
theorem ajg(p:Pol)(h:yf p=true):acH (zu (yY p))=some ((p.cap,p.forced.xs,p.log.xs),p.ten.xs.map Tnt.name):=by
 rw [acH,adb _ (agl p h),if_pos rfl]
 simp only [yf,Bool.and_eq_true,decide_eq_true_eq,List.all_eq_true]at h
 obtain⟨h1,h2,h3,h4,h5,_⟩:=h
 obtain⟨a0,a1⟩:=ab5 h2
 rw [yY,rPh,aai _ _ _ a0 a1 (by omega),Option.bind_some]
 have e1:zm (p.forced.xs.length:Int)::(zW p.forced.xs++(zm (p.log.xs.length:Int)::(p.log.xs.flatMap zR++p.ten.xs.map Tnt.name)))=yU p.forced.xs++(zm (p.log.xs.length:Int)::(p.log.xs.flatMap zR++p.ten.xs.map Tnt.name)):=by rw [yU];rfl
 simp only [e1]
 rw [aef _ _ h3,Option.bind_some]
 simp only []
 rw [aai _ _ _ (by omega) (by omega) (by omega),Option.bind_some]
 simp only [Int.toNat_natCast]
 rw [acD aaN zR id p.log.xs _ (fun x hx r=>af4 x r (h5 x hx)),Option.bind_some,List.map_id]
theorem agd{p:Pol}{xs:List KD}(hT: ∀x∈p.ten.xs,zH x=true)(hst: ∀t∈p.ten.xs,∀x∈t.stages.xs,x.beg.on=x.beg.own.length∧(sumR x.beg).wf∧x.su.wf)(hof: ∀t∈p.ten.xs,ofP xs t.name=qP t):
 ∀l:List Tnt,(∀t∈l,t∈p.ten.xs)→aaG xs (l.map Tnt.name)=some (l.map Tnt.bare)∧abT xs (l.map Tnt.name)=(l.map fun t=>(qP t).length).sum
 | [],_=>⟨rfl,rfl⟩
 | t::l,h=>by
   have ht:=h t (List.mem_cons_self ..)
   obtain⟨i1,i2⟩:=agd hT hst hof l fun y hy=>h y (List.mem_cons_of_mem _ hy)
   have hn:zd t.name=true:=by
    have:=hT t ht
    simp only [zH,Bool.and_eq_true]at this
    exact this.1
   refine⟨?_,?_⟩
   ·rw [List.map_cons,aaG,if_pos hn,hof t ht,qP,alx t (hT t ht) (hst t ht),Option.bind_some,i1,Option.bind_some];rfl
   ·rw [abT]at i2 ⊢
    rw [List.map_cons,List.map_cons,List.sum_cons,i2,hof t ht];rfl
theorem aim(p:Pol):(qQ p).length=1+(p.ten.xs.map fun t=>(qP t).length).sum:=by
 rw [qQ,List.length_cons,List.length_flatMap]
 omega
theorem akN(p:Pol)(hb:yf p=true)(hst: ∀t∈p.ten.xs,∀x∈t.stages.xs,x.beg.on=x.beg.own.length∧(sumR x.beg).wf∧x.su.wf)(xs:List KD)(hp:xs.Perm (qQ p))(hs:xs.Pairwise fun x y=>lessB y.1 x.1=false):
 rPol xs=some p.bare∧yR (xs.map (·.1))=true:=by
 have hb0:=hb
 simp only [yf,Bool.and_eq_true,decide_eq_true_eq,List.all_eq_true]at hb0
 obtain⟨_,_,_,_,_,hT,hR,_⟩:=hb0
 have hd:=ae4 hR
 have hS:=ahW hp (akk hT hd) hs
 have hris:yR (xs.map (·.1))=true:=amf (by rw [List.pairwise_map];exact hS)
 have hf:xs.find? isP=some (kP,zu (yY p)):=by
  have hm:(kP,zu (yY p))∈xs:=hp.mem_iff.2 (List.mem_cons_self ..)
  cases hq:xs.find? isP with
  | none=>
    have:=List.find?_eq_none.1 hq _ hm
    exact absurd ((aei _).2 rfl) this
  | some h=>
    have h1:=(aei _).1 (List.find?_some hq)
    have h2:=hp.mem_iff.1 (List.mem_of_find?_eq_some hq)
    rcases List.mem_cons.1 h2 with rfl | h2
    ·rfl
    ·obtain⟨t,ht,h2⟩:=List.mem_flatMap.1 h2
     have:=acU h2
     rw [agw h1]at this;cases this
 obtain⟨i1,i2⟩:=agd hT hst (fun t ht=>aoQ hT hd ht hp hS) p.ten.xs fun t h=>h
 refine⟨?_,hris⟩
 rw [rPol,hf,Option.bind_some,if_pos hris,ajg p hb,Option.bind_some]
 simp only []
 rw [i1,Option.bind_some,aeR,i2,hp.length_eq,aim]
 have hm:mkP (p.cap,p.forced.xs,p.log.xs) (p.ten.xs.map Tnt.bare)=p.bare:=rfl
 rw [hm,ad7 p fun t ht y hy=>(hst t ht y hy).1,if_pos ⟨rfl,hb⟩]
structure PolIn (L:RdL) (p:Pol):Prop where
 ten:InL L Tnt.cells p.ten
 tenA: ∀t∈p.ten.xs,TntIn L t
 forced:InL L Prp.cells p.forced
 log:InL L Lin.cells p.log
structure Pol.fit (p:Pol):Prop where
 cap:(Lit.int .i64 p.cap).wf=true
 ten: ∀t∈p.ten.xs,Tnt.fit t
 tenS:p.ten.xs.length≤1048576
 forced: ∀y∈p.forced.xs,Prp.sm y
 forcedS:p.forced.xs.length≤1048576
 log: ∀y∈p.log.xs,Lin.sm y
theorem TntIn.sub{L L2:RdL}{t:Tnt}(h:TntIn L t)(hs: ∀q∈L,q∈L2):TntIn L2 t:=
 ⟨h.sets.sub hs,fun y hy=>(h.setsA y hy).sub hs,h.grants.sub hs,h.stages.sub hs,fun y hy=>(h.stagesA y hy).sub hs,h.log.sub hs⟩
theorem PolIn.at_{w0 w:World}{its:List It}{j:Nat}{S:Nat→Prop}{L:RdL}{p:Pol}(H:Heap w0 its w)(hj:its[j]?=some (It.bag S L))(h:PolIn L p)(hf:p.fit):Pol.At w 0 w.heap.size p:=
 ⟨hf.cap,h.ten.at_ H hj (fun y hy=>(h.tenA y hy).at_ H hj (hf.ten y hy)),by rw [h.ten.len];exact hf.tenS,h.forced.at_ H hj hf.forced,by rw [h.forced.len];exact hf.forcedS,h.log.at_ H hj hf.log⟩
theorem PolIn.stg{L:RdL}{p:Pol}(h:PolIn L p): ∀t∈p.ten.xs,∀y∈t.stages.xs,y.beg.on=y.beg.own.length:=fun t ht y hy=>((h.tenA t ht).stagesA y hy).begL
theorem aln{xs:List Prp}(h:prE xs=0):xs.length≤8∧ ∀y∈xs,Prp.sm y:=by
 obtain⟨h1,h2⟩:=aaV xs h
 exact⟨h1,fun y hy=>⟨Nat.le_trans (h2 y hy).1 (by decide),Nat.le_trans (h2 y hy).2 (by decide)⟩⟩
theorem ai1{β:Type}(xs:List KD)(n:ByteArray)(ns:List ByteArray)(K:List Tnt→Option β):(aaG xs (n::ns)).bind K=if zd n=true then(abR n (ofP xs n)).bind fun t=>(aaG xs ns).bind fun l=>K (t::l)else none:=by
 rw [aaG]
 split
 ·simp [Option.bind_assoc]
 ·rfl
theorem alo(xs:List KD)(n:ByteArray)(ns:List ByteArray):abT xs (n::ns)=(ofP xs n).length+abT xs ns:=by simp [abT]
def PrO(w:World)(xs:List KD)(e:Ending)(w':World):Prop:=
 (rPol xs=none∧e= .returned (.tuple #[.agg adK.toArray,.int .i64 21])∧Ext w w')∨
 (∃(p:Pol) (S:Nat→Prop) (L:RdL),rPol xs=some p.bare∧e= .returned (.tuple #[.agg p.cells.toArray,.int .i64 0])∧PolIn L p∧p.fit∧Heap w [It.bag S L] w')
theorem aob:(Tryz.prog.info? 27).map (fun i=>(i.zero,i.size,i.bytes))=some (some (.agg #[.string .empty,.int .i64 0,.int .i64 0,.slice none 0 0,.slice none 0 0,.slice none 0 0,.slice none 0 0]),7,128):=by kernel_rfl
theorem abG(w:World)(s:Sl Ob)(hM:xf w)(h:Sl.At w 0 w.heap.size Ob.cells (Ob.At w 0 w.heap.size) s)(hN:s.n≤1048576)(hD: ∀x∈s.xs,x.data.n≤100000000∧x.key.size≤1048576):
 Calls Tryz.prog 25 #[s.val] w (PrO w (s.xs.map okd)):=by
 obtain⟨i0,hi0,hz0,hz1,hz2⟩:=info_parts aob
 have HMx:=hiD hM
 have HA:=hiD h
 have HD:=hiD hD
 have HAt:=hiD (fun W (hW:Ext w W)=>show Sl.At W 0 W.heap.size Ob.cells (Ob.At W 0 W.heap.size) s from yG h hW (Nat.le_refl _) (fun x hx=>Ob.At.on hx hW (Nat.le_refl _)))
 have HIx:=hiD (fun W (hW:Ext w W)=>ail 66 #[] (fun x=>x.key.toList == kP.toList) W s.A s.n s.c 0 W.heap.size s.xs h.len (Nat.le_trans hN (by decide)) (HAt.out W hW).rd (Nat.le_refl _) (fun _ _=>by kernel_rfl) (fun W' _ x _=>am1 W' x))
 have HRi:=hiD (fun W (hW:Ext w W)=>ahK W s (HAt.out W hW) hN)
 have HOf:=hiD (fun W (hW:Ext w W) name (hn:name.size≤65536)=>ao1 W s name (HAt.out W hW) hN hn (fun x hx=>(hD x hx).2))
 have HK:=hiD (show s.xs.map Ob.key=(s.xs.map okd).map (·.1)by rw [List.map_map];rfl)
 have HVd:=hiD (show rPol (s.xs.map okd)=((s.xs.find? (fun x=>x.key.toList == kP.toList)).map okd).bind fun h=>if yR (s.xs.map Ob.key)=true then(acH h.2).bind fun p=>(aaG (s.xs.map okd) p.2).bind fun ts=>aeR (1+abT (s.xs.map okd) p.2) (s.xs.map okd).length p.1 ts else none by
  rw [rPol,HK.out,List.find?_map];rfl)
 clear hM h hD HAt HK
 obtain⟨A,n,c,os⟩:=s
 dsimp only at hN HD
 simp only [Sl.val]at *
 have Hn:=hiD (show n=os.length from HA.out.len)
 obtain⟨xs,hxs⟩: ∃xs,xs=os.map okd:=⟨_,rfl⟩
 have HXo:=hiD (fun nm=>show(ofO os nm).map okd=ofP xs nm by rw [hxs];exact aik os nm)
 have HXl:=hiD (show xs.length=n by rw [hxs,List.length_map];exact Hn.out.symm)
 rw [←hxs]at HVd ⊢
 clear hxs
 have HOut:=hiD (fun e w' (h:PrO w xs e w')=>h)
 have HPO:=hiD (show PrO w xs=PrO w xs from rfl)
 generalize hTO:PrO w xs=TO at HOut HPO ⊢
 have HOb:=hiD (show rPol xs=none→ ∀w',Ext w w'→TO (.returned (.tuple #[.agg adK.toArray,.int .i64 21])) w' from fun hr w' h=>by rw [←hTO];exact .inl ⟨hr,rfl,h⟩)
 have HOg:=hiD (show∀(p:Pol) (S:Nat→Prop) (L:RdL) (w':World),rPol xs=some p.bare→PolIn L p→p.fit→Heap w [It.bag S L] w'→TO (.returned (.tuple #[.agg p.cells.toArray,.int .i64 0])) w' from fun p S L w' h1 h2 h3 h4=>by rw [←hTO];exact .inr ⟨p,S,L,h1,rfl,h2,h3,h4⟩)
 clear hTO HOut HPO
 generalize rPol xs=V at *
 go_enter_defers Tryz.func25,Tryz.ntmps25
 go_upto_region 1 with fail
 generalize hwH:World.alloc (World.alloc w _) _=w1;have HH:=hiD (Heap.two hwH);clear hwH
 replace HH:=hiD (show Heap w [.box w.heap.size adK,.box (w.heap.size+1) [.int .i64 0]] _ from HH.out.pick [1,0] (by decide) rfl rfl)
 obtain⟨tb,htb⟩: ∃b,b=w.heap.size:=⟨_,rfl⟩
 obtain⟨eb,heb⟩: ∃b,b=w.heap.size+1:=⟨_,rfl⟩
 rw [←heb,←htb]at HH ⊢
 clear htb heb
 go_wp2_with fail
 refine(HIx.out _ HH.out.ext).mono ?_
 rintro e w2 ⟨r,rfl,hor,e2⟩
 replace HH:=hiD (HH.out.later e2)
 clear e2 HIx
 rcases hor with⟨rfl,hall⟩ | ⟨k0,rfl,hk0,hf0,hall⟩
 ·have hV:=HVd.out
  rw [an1 _ _ hall]at hV
  clear hall HVd
  go_wp2_with fail
  refine(yQ _ 21).mono ?_
  rintro e wN ⟨rfl,rfl⟩
  refine aa0 21 HH.out rfl rfl ?_
  intro w9 e9
  exact HOb.out hV _ e9
 ·have hV:=HVd.out
  rw [ano _ _ k0 hk0 hf0 hall,Option.map_some,Option.bind_some]at hV
  replace HVd:=hiD hV
  clear hV hf0 hall
  have hkn:(k0:Int) < (n:Int):=by rw [Hn.out];omega
  go_wp2_with fail
  refine cX HH (HRi.out _ HH.out.ext) ?_
  clear HH
  intro w3 HH
  clear HRi
  dsimp only at HVd ⊢
  cases hris:yR (os.map Ob.key)with
  | false=>
    have hV:=HVd.out
    rw [hris,if_neg (by decide)]at hV
    clear hris HVd
    go_wp2_with fail
    refine(yQ _ 21).mono ?_
    rintro e wN ⟨rfl,rfl⟩
    refine aa0 21 HH.out rfl rfl ?_
    intro w9 e9
    exact HOb.out hV _ e9
  | true=>
    have hV:=HVd.out
    rw [hris,if_pos rfl]at hV
    replace HVd:=hiD hV
    clear hV hris
    obtain⟨b1,o1,hA1,hb1,_,f1,_⟩:=aaJ HA.out.rd hk0
    dsimp only at hA1
    subst hA1
    have HXk:=hiD (HD.out _ (List.getElem_mem hk0))
    have HXa:=hiD (HA.out.all _ (List.getElem_mem hk0))
    have g1:w3.cell? ⟨b1,o1+k0 * 3+1,none⟩=some os[k0].data.val:=(Below.cell (p:=⟨b1,o1+k0 * 3+1,none⟩) HH.out.ext hb1).trans f1
    have HHd:=hiD (fun W i9 (hW:Ext w W) (H:Heap w i9 W)=>an5 H os[k0].data.A os[k0].data.n os[k0].data.c os[k0].data.xs HXa.out.data.len HXa.out.data.le HXa.out.data.cap (Rd.at HXa.out.data.rdb hW (Nat.le_refl _)) HXk.out.1)
    clear HXk HXa f1 hb1
    dsimp only [okd]at HVd
    generalize os[k0].data=d at *
    obtain⟨dA,dn,dc,dx⟩:=d
    simp only [Sl.val]at g1
    dsimp only at HHd HVd
    go_wp2_with fail
    refine(aab _ 21).mono ?_
    rintro e wN ⟨rfl,rfl⟩
    go_wp2_with fail
    refine(HHd.out _ _ HH.out.ext HH.out).mono ?_
    intro e w4 h4
    clear g1 HHd
    cases hr:acH dx with
    | none=>
      rw [hr]at h4
      obtain⟨rfl,h4⟩:=h4
      have hV:=HVd.out
      rw [hr,Option.bind_none]at hV
      refine aa0 21 h4 rfl rfl ?_
      intro w9 e9
      exact HOb.out hV _ e9
    | some p=>
      rw [hr]at h4
      obtain⟨f,g,nn,S0,L0,rfl,hf,hg,hn,hI,h4⟩:=h4
      have hV:=HVd.out
      rw [hr,Option.bind_some]at hV
      obtain⟨⟨cap,fs,lg⟩,ns⟩:=p
      dsimp only at hf hg hn hI hV ⊢
      subst hf hg hn
      obtain⟨fA,fn,fc,fx⟩:=f
      obtain⟨gA,gn,gc,gx⟩:=g
      obtain⟨nA,nn,nc,nx⟩:=nn
      have HI:=hiD hI
      have Hnn:=hiD (show nn=nx.length from hI.nameN)
      have hnm:nx.length≤1024:=hI.nameM
      have HV:=hiD hV
      replace HH:=hiD h4
      clear hr h4 hI hV HVd
      simp only [Sl.val]at *
      (try dsimp only at HV)
      go_upto_region 5 with(refine sSX HH aag 1 ?_;clear HH;intro wS HH)
      have HH2:=hiD (HH.out.row0 (e:=27) (size:=7))
      replace HH:=hiD (show Heap w [It.bag S0 L0,.row 27 7 (.slice none 0 0) 0 [],.box tb [.int .i64 cap,.slice none 0 0,.slice fA fn fc,.slice gA gn gc],.box eb [.int .i64 0]] _ from HH2.out.pick [1,0,2,3] (by decide) rfl rfl)
      clear HH2
      have hnl:nn≤1024:=by rw [Hnn.out];exact hnm
      go_wp2_with fail
      go_loopw [6,33] (fun m i wr=> ∃(k M:Nat) (ts:List Tnt),k≤nn∧i= .int .i64 (k:Int)∧m= .int .i64 (M:Int)∧M≤1+k * 1048576∧Hid (ts.length=k)∧ ∃S L tA tc,Hid (∀q∈L0,q∈L)∧Hid (∀y∈ts,TntIn L y∧y.fit)∧Hid (V=(aaG xs (nx.drop k)).bind fun l=>aeR (M+abT xs (nx.drop k)) xs.length (cap,fx,gx) (ts.map Tnt.bare++l))∧
       Hid (Heap w [It.bag S L,.row 27 7 (.slice tA ts.length tc) ts.length (ts.flatMap Tnt.cells),.box tb [.int .i64 cap,.slice tA ts.length tc,.slice fA fn fc,.slice gA gn gc],.box eb [.int .i64 0]] wr)) (fun _ i _=>nn - (intOf i).toNat)
      case atStart=>exact⟨0,1, [],Nat.zero_le _,rfl,rfl,by omega,hiD rfl,S0,L0,none,0,hiD (fun q h=>h),hiD (fun y h=>by cases h),HV,HH⟩
      case round=>
       clear HH HV
       obtain⟨k,M,ts,hk,rfl,rfl,hMk,HTs,S,L,tA,tc,HL,HF,HV,HH⟩:=hrel
       by_cases hlt:k < nn
       ·have hkk:(k:Int) < (nn:Int):=by omega
        have l1:k < nx.length:=by rw [←Hnn.out];exact hlt
        have hV:=HV.out
        rw [List.drop_eq_getElem_cons l1,ai1,alo]at hV
        obtain⟨b2,o2,hA2,hb2,_,hcl⟩:=HH.out.bagRd (j:=0) rfl (HL.out _ HI.out.nameL) (by
         intro e
         have:=congrArg List.length e
         simp [strV]at this
         rw [this]at l1;simp at l1)
        dsimp only at hA2
        have g0:wr.cell? ⟨b2,o2+k,none⟩=some (.string nx[k]):=hcl k _ (by simp [strV,List.getElem?_eq_getElem l1])
        have hns:nx[k].size≤65536:=HI.out.nameF _ (List.getElem_mem l1)
        clear hcl
        have HOk:=hiD (fun W (hW:Ext w W)=>HOf.out W hW nx[k] hns)
        rw [←HXo.out,List.length_map]at hV
        have HRl:=hiD (aif os nx[k])
        have HRs:=hiD (fun x (hx:x∈ofO os nx[k])=>aoj hx)
        generalize nx[k]=name at *
        generalize ofO os name=R at *
        have hRl:R.length≤1048576:=by have:=HRl.out;have:=Hn.out;omega
        replace HV:=hiD hV
        clear hV HRl l1
        subst hA2
        go_wp2_with fail
        refine(HOk.out _ HH.out.ext).mono ?_
        rintro e w5 ⟨A5,c5,rfl,hown,e5⟩
        clear HOk g0
        obtain⟨p1,p2⟩:=z7 hown
        have HH5:=hiD (HH.out.addRow e5 hown)
        have HTr:=hiD (alc w5 name ⟨A5,R.length,c5,R⟩ (HMx.out.ext HH5.out.ext) (Nat.le_trans hns (by decide)) ⟨rfl,p1,p2,(HH5.out.rowRd 0 rfl).m0,fun x hx=>Ob.At.on (HA.out.all x (HRs.out x hx)) HH5.out.ext (Nat.le_refl _)⟩ hRl (fun x hx=>HD.out x (HRs.out x hx)))
        simp only [Sl.val]at HTr
        (try dsimp only at HTr)
        clear hown e5 p1 p2 HRs HH
        have HH:=HH5
        clear HH5
        go_wp2_with fail
        refine HTr.out.mono ?_
        rintro e w6 q
        clear HTr
        rcases q with⟨qn,rfl,e6⟩ | ⟨qn,qr,rfl,e6⟩ | ⟨qn,px,t,S2,L2,qr,rfl,qb,qi,qf,h6⟩
        ·have hV:=HV.out
         rw [qn,if_neg (by decide)]at hV
         replace HH:=hiD (HH.out.later e6)
         clear e6 qn HV
         go_wp2_with (refine sSX (hiD (HH.out.alloc _ _)) zt 0 ?_;clear HH;intro wS HH)
         refine(yQ _ 21).mono ?_
         rintro e wN ⟨rfl,rfl⟩
         refine aa0 21 (HH.out.pick [4,5] (by decide) rfl rfl) rfl rfl ?_
         intro w9 e9
         exact HOb.out hV _ e9
        ·have hV:=HV.out
         rw [if_pos qn,qr,Option.bind_none]at hV
         replace HH:=hiD (HH.out.later e6)
         clear e6 qn qr HV
         go_wp2_with (refine sSX (hiD (HH.out.alloc _ _)) zt 0 ?_;clear HH;intro wS HH)
         refine(yQ _ 21).mono ?_
         rintro e wN ⟨rfl,rfl⟩
         refine aa0 21 (HH.out.pick [4,5] (by decide) rfl rfl) rfl rfl ?_
         intro w9 e9
         exact HOb.out hV _ e9
        ·have hV:=HV.out
         rw [if_pos qn,qr,Option.bind_some]at hV
         replace HH:=hiD (show Heap w [.row 56 3 (.slice A5 R.length c5) R.length (obC R),It.bag S L,.row 27 7 (.slice tA ts.length tc) ts.length (ts.flatMap Tnt.cells),.box tb [.int .i64 cap,.slice tA ts.length tc,.slice fA fn fc,.slice gA gn gc],.box eb [.int .i64 0],It.bag S2 L2] w6 from HH.out.joinR h6)
         have HX:=hiD (show∀y∈ts++ [t],TntIn (L++L2) y∧y.fit from fun y hy=>by
          rcases List.mem_append.1 hy with hy | hy
          ·exact⟨(HF.out y hy).1.sub (fun q hq=>List.mem_append_left _ hq),(HF.out y hy).2⟩
          ·obtain rfl:=List.mem_singleton.1 hy
           exact⟨qi.sub (fun q hq=>List.mem_append_right _ hq),qf⟩)
         have HC:=hiD (show(ts++ [t]).flatMap Tnt.cells=ts.flatMap Tnt.cells++t.cells by simp)
         have HLn:=hiD (show(ts++ [t]).length=ts.length+1 by simp)
         have hM2:V=(aaG xs (nx.drop (k+1))).bind fun l=>aeR (M+R.length+abT xs (nx.drop (k+1))) xs.length (cap,fx,gx) ((ts++ [t]).map Tnt.bare++l):=by
          rw [hV]
          congr 1
          funext l
          rw [←qb,←Nat.add_assoc]
          simp
         replace HV:=hiD hM2
         generalize ts++ [t]=ys at *
         clear hV hM2 h6 qn qr qb qi qf HF
         obtain⟨un,uq,ux,⟨uA,um,uc,us⟩,⟨vA,vm,vc,vs⟩,⟨xA,xm,xc,xx⟩,⟨yA,ym,yc,yy⟩⟩:=t
         simp only [Tnt.cells,Sl.val]at HC ⊢
         have hts2:ts.length≤1024:=by rw [HTs.out];omega
         go_upto_region 11 with(refine sSX (hiD (HH.out.alloc _ _)) zt 0 ?_;clear HH;intro wS HH)
         obtain⟨xb,hxb⟩: ∃b,b=w6.heap.size:=⟨_,rfl⟩
         rw [←hxb]at HH ⊢
         clear hxb
         go_wp2_with fail
         refine(aab _ 21).mono ?_
         rintro e wN ⟨rfl,rfl⟩
         go_upto_region 13 with(first | (refine l1X HH 4 ?_) | (refine lSX HH zt 0 ?_) | (at_builtin;refine qk (e:=27) (size:=7) (bytes:=128) (news:= [.string un,.int .i64 uq,.int .i64 ux,.slice uA um uc,.slice vA vm vc,.slice xA xm xc,.slice yA ym yc]) (lo:=0) (.tmp 50) (.tmp 52) _ rfl rfl Tryz.underlying59 hi0 hz0 hz1 hz2 rfl (by omega) (HH.out.alloc _ _) 4 rfl rfl (m:=1) rfl rfl ((HH.out.alloc _ _).boxRd 0 rfl).m0 (by simp [Value.oneCell']) (by simp only [maxLen];omega) (by omega) ?_;intro v7 w7 hh7 h7;obtain⟨A7,c7,rfl⟩:=h7;replace HH:=hiD hh7.tail;clear hh7) | (refine s1X HH 4 ?_;clear HH;intro wS HH))
         replace HH:=hiD (show Heap w [It.bag (fun k=>S k∨S2 k) (L++L2),.row 27 7 (.slice A7 ys.length c7) ys.length (ys.flatMap Tnt.cells),.box tb [.int .i64 cap,.slice A7 ys.length c7,.slice fA fn fc,.slice gA gn gc],.box eb [.int .i64 0]] _ from by
          rw [HLn.out,HC.out]
          exact(HH.out.pick [2,6,3,4,5] (by decide) rfl rfl).bagJoin)
         go_wp2_with fail
         go_roundw
         case rel=>exact⟨k+1,M+R.length,ys,by omega,by go_num,by go_num,by omega,hiD (by rw [HLn.out,HTs.out]),_,L++L2,A7,c7,hiD (fun q hq=>List.mem_append_left _ (HL.out q hq)),HX,HV,HH⟩
         case measure=>simp [intOf];omega
       ·obtain rfl:k=nn:=by omega
        have hV:=HV.out
        rw [List.drop_of_length_le (by rw [←Hnn.out];exact Nat.le_refl _),aaG,Option.bind_some,show abT xs []=0 from rfl,Nat.add_zero,List.append_nil,aeR,HXl.out]at hV
        obtain⟨p,hp⟩: ∃p:Pol,p=⟨cap,⟨tA,ts.length,tc,ts⟩,⟨fA,fn,fc,fx⟩,⟨gA,gn,gc,gx⟩⟩:=⟨_,rfl⟩
        rw [show mkP (cap,fx,gx) (ts.map Tnt.bare)=p.bare by rw [hp];rfl]at hV
        by_cases hm:M=n
        ·subst hm
         obtain⟨r1,r2⟩:=z7 (HH.out.rowAt 1 rfl)
         obtain⟨S1,h1⟩:=(show Heap w (.row 27 7 (.slice tA ts.length tc) ts.length (ts.flatMap Tnt.cells):: [It.bag S L,.box tb [.int .i64 cap,.slice tA ts.length tc,.slice fA fn fc,.slice gA gn gc],.box eb [.int .i64 0]]) wr from HH.out.pick [1,0,2,3] (by decide) rfl rfl).rowBag (j:=0) rfl
         replace HH:=hiD (show Heap w [It.bag S1 ((tA,ts.flatMap Tnt.cells)::L),.box tb [.int .i64 cap,.slice tA ts.length tc,.slice fA fn fc,.slice gA gn gc],.box eb [.int .i64 0]] wr from h1)
         have hi:=HI.out
         have HIn:=hiD (show PolIn ((tA,ts.flatMap Tnt.cells)::L) p by
          rw [hp]
          exact⟨⟨rfl,r1,r2,List.mem_cons_self ..⟩,fun y hy=>(HF.out y hy).1.sub (fun q hq=>List.mem_cons_of_mem _ hq),hi.forcedL.sub (fun q hq=>List.mem_cons_of_mem _ (HL.out q hq)),hi.logL.sub (fun q hq=>List.mem_cons_of_mem _ (HL.out q hq))⟩)
         have HFt:=hiD (show p.fit by
          rw [hp]
          exact⟨hi.capF,fun y hy=>(HF.out y hy).2,by show ts.length≤_;rw [HTs.out];omega,(aln hi.forcedF).2,Nat.le_trans (aln hi.forcedF).1 (by decide),hi.logF⟩)
         have HCk:=hiD (aez wr p (HMx.out.ext HH.out.ext) (HIn.out.at_ HH.out (j:=0) rfl HFt.out))
         have HTc:=hiD (show p.cells= [.int .i64 cap,.slice tA ts.length tc,.slice fA fn fc,.slice gA gn gc]by rw [hp];rfl)
         rw [ad7 p HIn.out.stg]at hV
         replace HV:=hiD hV
         rw [HTc.out]at HCk
         clear hV hi r1 r2 h1 hp HF HL
         go_wp2_with (first | (refine lSX HH aag 1 ?_) | (go_big_want;refine aaB HH.out aag (by kernel_rfl) rfl rfl 1 rfl (Nat.le_of_ble_eq_true rfl) ?_))
         refine HCk.out.mono ?_
         rintro e w9 ⟨rfl,e9⟩
         replace HH:=hiD (HH.out.later e9)
         clear e9 HCk
         cases hB:yf p with
         | true=>
           rw [show xW p=0 by rw [xW,hB];rfl]
           have hV:=HV.out
           rw [hB,if_pos (by simp)]at hV
           clear hB
           go_wp2_with fail
           refine(aab _ 21).mono ?_
           rintro e wN ⟨rfl,rfl⟩
           go_wp2_with (first | (refine lSX HH aag 1 ?_) | (refine sSX HH aag 1 ?_;clear HH;intro wS HH) | (refine s1X HH 2 ?_;clear HH;intro wS HH))
           refine aof (HH.out.pick [1,2,0] (by decide) rfl rfl) rfl rfl ?_
           intro w10 h10
           have:=HOg.out p _ _ w10 hV HIn.out HFt.out (h10.pick [2] (by decide) rfl rfl)
           rw [HTc.out]at this
           exact this
         | false=>
           rw [show xW p=9 by rw [xW,hB];rfl]
           have hV:=HV.out
           rw [hB,if_neg (by simp)]at hV
           clear hB
           go_wp2_with fail
           refine(yQ _ 21).mono ?_
           rintro e wN ⟨rfl,rfl⟩
           refine aa0 21 (HH.out.pick [1,2] (by decide) rfl rfl) rfl rfl ?_
           intro w10 e10
           exact HOb.out hV _ e10
        ·rw [if_neg (fun h=>hm h.1)]at hV
         have hd:((M:Int) == (n:Int))=false:=by rw [beq_eq_false_iff_ne];omega
         clear HF HL HV hp
         go_wp2_with fail
         refine(yQ _ 21).mono ?_
         rintro e wN ⟨rfl,rfl⟩
         refine aa0 21 (HH.out.pick [2,3] (by decide) rfl rfl) rfl rfl ?_
         intro w10 e10
         exact HOb.out hV _ e10
theorem acQ(w:World)(x y:Pol)(hx:Pol.At w 0 w.heap.size x)(hy:Pol.At w 0 w.heap.size y)(hb:x.bare=y.bare):
 Calls Tryz.prog 26 #[.agg x.cells.toArray,.agg y.cells.toArray] w fun e w'=>e= .returned (.bool true)∧Ext w w':=by
 have HPp:=hiD (fun W (hW:Ext w W)=>ab1 W x.forced.A y.forced.A x.forced.n y.forced.n x.forced.c y.forced.c x.forced.xs y.forced.xs hx.forced.len hy.forced.len (Nat.le_trans hx.forcedS (by decide)) (Nat.le_trans hy.forcedS (by decide)) (Rd.at hx.forced.rd hW (Nat.le_refl _)) (Rd.at hy.forced.rd hW (Nat.le_refl _)))
 have HLg:=hiD (fun W (hW:Ext w W)=>aeg W x.log y.log (yG hx.log hW (Nat.le_refl _) fun _ _=>trivial) (yG hy.log hW (Nat.le_refl _) fun _ _=>trivial))
 have HSx:=hiD hx.ten
 have HSy:=hiD hy.ten
 have hm1:x.ten.n≤1048576:=hx.tenS
 have hn2:x.ten.n=y.ten.n:=by
  have:=congrArg (fun p:Pol=>p.ten.xs.length) hb
  simp only [Pol.bare,slB,List.length_map]at this
  rw [hx.ten.len,hy.ten.len,this]
 have b1:=congrArg Pol.cap hb
 have b2:=congrArg (fun p:Pol=>p.forced.xs) hb
 have b3:=congrArg (fun p:Pol=>p.log.xs) hb
 have b4:=congrArg (fun p:Pol=>p.ten.xs) hb
 have hcap:x.cap=y.cap:=b1
 have hfo:decide (x.forced.xs=y.forced.xs)=true:=decide_eq_true b2
 have hlo:decide (x.log.xs=y.log.xs)=true:=decide_eq_true b3
 have HBt:=hiD (show x.ten.xs.map Tnt.bare=y.ten.xs.map Tnt.bare from b4)
 clear b1 b2 b3 b4
 rw [hfo]at HPp
 rw [hlo]at HLg
 clear hx hy hb hfo hlo
 obtain⟨ca,⟨sA,sn,sc,ss⟩,⟨gA,gn,gc,g9⟩,⟨lA,ln,lc,l9⟩⟩:=x
 obtain⟨ca2,⟨uA,sn2,uc,st⟩,⟨hA,hn,hc,h9⟩,⟨mA,mn,mc,m9⟩⟩:=y
 dsimp only at hm1 hn2 hcap HBt
 subst hcap hn2
 simp only [Sl.val]at HPp HLg
 (try dsimp only at HPp)
 simp only [Pol.cells,Sl.val]
 go_enter Tryz.func26,Tryz.ntmps26
 go_upto_region 1 with fail
 generalize hwH:World.alloc (World.alloc w _) _=w1;have HH:=hiD (Heap.two hwH);clear hwH
 obtain⟨yb,hyb⟩: ∃b,b=w.heap.size+1:=⟨_,rfl⟩
 obtain⟨xb,hxb⟩: ∃b,b=w.heap.size:=⟨_,rfl⟩
 rw [←hyb,←hxb]at HH ⊢
 clear hyb hxb
 obtain⟨c0,c1,c2,c3,-⟩:=zY (HH.out.boxAt 1 rfl)
 obtain⟨d0,d1,d2,d3,-⟩:=zY (HH.out.boxAt 0 rfl)
 go_upto_region 3 with(first | (go_at_call 71;with_reducible refine cX HH (HPp.out _ HH.out.ext) ?_;clear HH;intro wb HH;clear c0 d0 c1 d1 c2 d2 c3 d3;obtain⟨c0,c1,c2,c3,-⟩:=zY (HH.out.boxAt 1 rfl);obtain⟨d0,d1,d2,d3,-⟩:=zY (HH.out.boxAt 0 rfl)) | (go_at_call 52;with_reducible refine cX HH (HLg.out _ HH.out.ext) ?_;clear HH;intro wo HH;clear c0 d0 c1 d1 c2 d2 c3 d3;obtain⟨c0,c1,c2,c3,-⟩:=zY (HH.out.boxAt 1 rfl);obtain⟨d0,d1,d2,d3,-⟩:=zY (HH.out.boxAt 0 rfl)))
 clear HPp HLg
 go_wp2_with fail
 have HH0:=HH
 clear HH c0 d0 c1 d1 c2 d2 c3 d3
 go_loopw [5] (fun v wr=> ∃k:Nat,k≤sn∧v= .int .i64 (k:Int)∧Hid (Heap w [.box yb [.int .i64 ca,.slice uA sn uc,.slice hA hn hc,.slice mA mn mc],.box xb [.int .i64 ca,.slice sA sn sc,.slice gA gn gc,.slice lA ln lc]] wr)) (fun v _=>sn - (intOf v).toNat)
 case atStart=>exact⟨0,Nat.zero_le _,rfl,HH0⟩
 case round=>
  clear HH0
  obtain⟨k,hk,rfl,HH⟩:=hrel
  by_cases hlt:k < sn
  ·have l1:k < ss.length:=by rw [←HSx.out.len];exact hlt
   have l2:k < st.length:=by rw [←HSy.out.len];exact hlt
   obtain⟨b1,o1,hA1,_,hb1,G1⟩:=zh (size:=7) (fun _=>rfl) (by omega) HSx.out.rd l1
   obtain⟨b2,o2,hA2,_,hb2,G2⟩:=zh (size:=7) (fun _=>rfl) (by omega) HSy.out.rd l2
   dsimp only at hA1 hA2
   subst hA1
   subst hA2
   have HSn:=hiD (fun W (hW:Ext w W)=>show Calls Tryz.prog 18 #[.agg ss[k].cells.toArray,.agg st[k].cells.toArray] W fun e w'=>e= .returned (.bool true)∧Ext W w' from by
    have h1:=Tnt.At.on (HSx.out.all _ (List.getElem_mem l1)) hW (Nat.le_refl _)
    have h2:=Tnt.At.on (HSy.out.all _ (List.getElem_mem l2)) hW (Nat.le_refl _)
    have:=aeC W ss[k] st[k] h1 h2
    rwa [afY h1 h2 (ac3 HBt.out k l1 l2)]at this)
   have HF:=hiD (fun W (hW:Heap w [.box yb [.int .i64 ca,.slice (some ⟨b2,o2,none⟩) sn uc,.slice hA hn hc,.slice mA mn mc],.box xb [.int .i64 ca,.slice (some ⟨b1,o1,none⟩) sn sc,.slice gA gn gc,.slice lA ln lc]] W) i u hu=>(Below.cell hW.ext hb1).trans (G1 i u hu))
   have HG:=hiD (fun W (hW:Heap w [.box yb [.int .i64 ca,.slice (some ⟨b2,o2,none⟩) sn uc,.slice hA hn hc,.slice mA mn mc],.box xb [.int .i64 ca,.slice (some ⟨b1,o1,none⟩) sn sc,.slice gA gn gc,.slice lA ln lc]] W) i u hu=>(Below.cell hW.ext hb2).trans (G2 i u hu))
   clear G1 G2
   generalize ss[k]=x at *
   generalize st[k]=y at *
   have hkn:(k:Int) < (sn:Int):=by omega
   go_upto_region 6 with(refine l1X HH 1 ?_)
   have HHd:=hiD (show Heap w [.box yb [.int .i64 ca,.slice (some ⟨b2,o2,none⟩) sn uc,.slice hA hn hc,.slice mA mn mc],.box xb [.int .i64 ca,.slice (some ⟨b1,o1,none⟩) sn sc,.slice gA gn gc,.slice lA ln lc]] (World.drew wr)from HH.out.drew)
   clear HH
   refine wp_region_held_drew (S:=Heap w [.box yb [.int .i64 ca,.slice (some ⟨b2,o2,none⟩) sn uc,.slice hA hn hc,.slice mA mn mc],.box xb [.int .i64 ca,.slice (some ⟨b1,o1,none⟩) sn sc,.slice gA gn gc,.slice lA ln lc]]) (by kernel_rfl) HHd.out (fun hHeld=>?_)
   generalize World.drew _=wd at *
   refine tW 0 1 ?_
   refine tH 1 1 ?_
   refine tW 2 2 ?_
   refine tG 4 rfl (fun wT hST=>qm (HF.out wT hST) rfl zt (by kernel_rfl) rfl rfl) hHeld ?_;refine lyX ?_
   refine tW 5 1 ?_
   refine tH 6 0 ?_
   refine tW 7 2 ?_
   refine tG 9 rfl (fun wT hST=>qm (HG.out wT hST) rfl zt (by kernel_rfl) rfl rfl) hHeld ?_;refine lyX ?_
   clear hHeld HF HG
   refine oS 10 (fun K hK=>?_)
   (try go_simp)
   refine cX HHd (HSn.out _ HHd.out.ext) ?_
   clear HHd
   intro w5 HH5
   go_wp2_with fail
   refine hK.out _ _ (HH5).out (fun hHeld=>?_)
   clear hK K
   refine lyX ?_
   refine tW 11 1 ?_
   refine dnX ?_
   clear hHeld
   go_wp2_with fail
   go_roundw
   case rel=>exact⟨k+1,by omega,by go_num,HH5⟩
   case measure=>(first | (simp [intOf];done) | (simp [intOf];omega))
  ·have hks:sn=k:=by omega
   subst hks
   go_wp2_with (refine l1X HH 1 ?_)
   go_ret
   exact⟨rfl,HH.out.ext⟩
def amq(p:Pol):List (ByteArray×Nat):=(kP,(zu (yY p)).length)::p.ten.xs.flatMap fun t=>(qF t).map dat
theorem akW(x:Lin)(h:liB x=true):tln (zR x)≤111:=by
 simp only [liB,Bool.and_eq_true,Bool.or_eq_true,decide_eq_true_eq]at h
 have h1:x.user.size≤16:=by
  rcases h.1 with h | h
  ·omega
  ·exact xe h
 have h2:=aau h.2.1
 simp only [zR,ye,aaE,zN]
 omega
theorem ahq(p:Pol)(h:yf p=true):tln (yY p)≤2317:=by
 simp only [yf,Bool.and_eq_true,decide_eq_true_eq,List.all_eq_true]at h
 obtain⟨h1,h2,h3,h4,h5,h6,h7,h8⟩:=h
 obtain⟨_,o2,_⟩:=abI _ h3
 have e1:tln (yU p.forced.xs)=11+tln (zW p.forced.xs):=by rw [yU,ye,zN]
 have e2:=abn zR p.log.xs 111 fun x hx=>akW x (h5 x hx)
 have e3:tln (p.ten.xs.map Tnt.name)≤p.ten.xs.length * 19:=by
  have:=abn (fun t:Tnt=> [t.name]) p.ten.xs 19 fun t ht=>by
   have:=h6 t ht
   simp only [zH,Bool.and_eq_true]at this
   have:=xe this.1
   simp only [ye,aaE];omega
  have e:p.ten.xs.flatMap (fun t:Tnt=> [t.name])=p.ten.xs.map Tnt.name:=by rw [List.map_eq_flatMap]
  rwa [e]at this
 rw [yY,ye,ye,aa6,ye,aa6,zN,zN,zN]
 have e4:p.log.xs.length * 111≤16 * 111:=Nat.mul_le_mul_right _ h4
 have e5:p.ten.xs.length * 19≤4 * 19:=Nat.mul_le_mul_right _ h1
 omega
theorem ahO{w w':World}{p:Pol}(hb:yf p=true){A:Option Addr}{c:Nat}{os:List Ob}(ho:(os.map obk).Perm (obP p))(H:Heap w (.row 56 3 (.slice A os.length c) os.length (os.flatMap Ob.cells)::os.map yg) w'):
 Sl.At w' 0 w'.heap.size Ob.cells (Ob.At w' 0 w'.heap.size) ⟨A,os.length,c,os⟩∧(∀o∈os,o.data.n≤100000000)∧(os.map kd).Perm (amq p)∧os.length≤149:=by
 have hb0:=hb
 simp only [yf,Bool.and_eq_true,decide_eq_true_eq,List.all_eq_true]at hb0
 obtain⟨q1,_,_,_,_,q6,_,_⟩:=hb0
 have hr:=z7 (H.rowAt 0 rfl)
 have hrow: ∀k (hk:k < os.length),w'.ownsRow w.heap.size 5 1 (.slice os[k].data.A os[k].data.n os[k].data.c) os[k].data.n (bytes os[k].data.xs):=fun k hk=>
  H.rowAt (k+1) (by rw [List.getElem?_cons_succ,List.getElem?_map,List.getElem?_eq_getElem hk];rfl)
 have hlen: ∀o∈os,o.data.n=o.data.xs.length:=fun o hm=>by
  obtain⟨k,hk,rfl⟩:=List.getElem_of_mem hm
  have:=(hrow k hk).1
  rw [show(bytes os[k].data.xs).length=os[k].data.xs.length by simp [bytes]]at this
  omega
 have hmem: ∀o∈os,∃q∈obP p,o.key=q.1∧o.data.xs=q.2.1∧o.locs=q.2.2:=fun o hm=>⟨obk o,ho.mem_iff.1 (List.mem_map_of_mem (f:=obk) hm),rfl,rfl,rfl⟩
 have hsm: ∀q∈obP p,q.1.size≤200∧q.2.1.length≤67111938∧q.2.2=zL:=fun q hq=>by
  rw [obP,List.mem_cons,List.mem_flatMap]at hq
  rcases hq with rfl | ⟨t,ht,hq⟩
  ·exact⟨show kP.size≤200 by decide,by rw [ag1];have:=ahq p hb;omega,rfl⟩
  ·rw [obL]at hq
   obtain⟨x,hx,rfl⟩:=List.mem_map.1 hq
   refine⟨age t (q6 t ht) x hx,?_,rfl⟩
   have:=aoS x.2
   rwa [wB,if_pos (afC t (q6 t ht) x hx)]at this
 refine⟨⟨rfl,hr.1,hr.2,(H.rowRd 0 rfl).m0,fun o hm=>?_⟩,fun o hm=>?_,?_,?_⟩
 ·obtain⟨q,hq,h1,h2,h3⟩:=hmem o hm
  obtain⟨s1,s2,s3⟩:=hsm q hq
  have hl:=hlen o hm
  refine⟨?_,?_,?_⟩
  ·rw [h1];exact Nat.le_trans s1 (by decide)
  ·obtain⟨k,hk,rfl⟩:=List.getElem_of_mem hm
   have q:=z7 (hrow k hk)
   exact⟨hl,q.1,q.2,by rw [agn];exact(Rd.of_own (hrow k hk)).m0,fun _ _=>trivial⟩
  ·rw [h3,s3]
   exact⟨rfl,Nat.le_refl _,Nat.zero_le _,fun hn=>absurd rfl hn,fun y hy=>by cases hy⟩
 ·obtain⟨q,hq,h1,h2,h3⟩:=hmem o hm
  rw [hlen o hm,h2]
  exact Nat.le_trans (hsm q hq).2.1 (by decide)
 ·have e:os.map kd=(os.map obk).map fun q=>(q.1,q.2.1.length):=by
   rw [List.map_map]
   refine List.map_congr_left fun o hm=>?_
   show(o.key,o.data.n)=(o.key,o.data.xs.length)
   rw [hlen o hm]
  have e2:(obP p).map (fun q=>(q.1,q.2.1.length))=amq p:=by
   rw [obP,amq,List.map_cons,List.map_flatMap]
   have e3: ∀l:List Tnt,(∀t∈l,zH t=true)→(l.flatMap fun t=>(obL t).map fun q=>(q.1,q.2.1.length))=l.flatMap fun t=>(qF t).map dat:=fun l=>by
    induction l with
    | nil=>intro;rfl
    | cons t l ih=>
      intro h
      rw [List.flatMap_cons,List.flatMap_cons,ih fun y hy=>h y (by simp [hy])]
      congr 1
      rw [obL,List.map_map]
      refine List.map_congr_left fun x hx=>?_
      show(x.1,(zu x.2).length)=(x.1,(wB x.2).length)
      rw [wB,if_pos (afC t (h t (by simp)) x hx)]
   rw [e3 _ q6]
  rw [e,←e2]
  exact ho.map _
 ·have e1:=ho.length_eq
  rw [List.length_map]at e1
  rw [e1,obP,List.length_cons]
  have e2: ∀l:List Tnt,(∀t∈l,zH t=true)→(l.flatMap obL).length≤l.length * 37:=fun l=>by
   induction l with
   | nil=>intro;simp
   | cons t l ih=>
     intro h
     have a1:=ajS (h t (by simp))
     have a2:=ih fun y hy=>h y (by simp [hy])
     rw [List.flatMap_cons,List.length_append,List.length_cons]
     omega
  have:=e2 p.ten.xs q6
  omega
theorem ajI(w:World)(x:Int):Calls Tryz.prog 55 #[.int .i64 x] w fun e w'=>e= .returned (.int .i64 x)∧w'=w:=by
 go_enter Tryz.func55,Tryz.ntmps55
 go_wp2_with fail
 go_ret
 exact⟨rfl,rfl⟩
def agB:Pol:=⟨5,⟨none,0,0, []⟩,⟨none,0,0, []⟩,⟨none,0,0, []⟩⟩
theorem aoL:yf agB=true:=by kernel_rfl
theorem ann(w:World):Pol.At w 0 w.heap.size agB:=⟨by decide,ace ..,by decide,ace ..,by decide,ace ..⟩
theorem acK(w:World)(hM:xf w):Calls Tryz.prog 20 #[] w fun e w'=>e= .returned (.bool true)∧Ext w w':=by
 have HO:=hiD ((adl w agB hM (ann w)).mono (R':=fun e w'=> ∃(g c:Nat) (v1 v2:Value),e= .returned (.tuple #[.slice (some ⟨g,0,none⟩) 1 c,.int .i64 0])∧w'.cell? ⟨g,0,none⟩=some (.string kP)∧Ext w w') fun e w' q=>by
  rcases q with⟨q,_⟩ | ⟨_,A,c,os,q1,q2,q3,q4⟩
  ·rw [aoL]at q;cases q
  ·have e1:=q2.length_eq
   rw [List.length_map]at e1
   have e2:(obP agB).length=1:=rfl
   rw [e2]at e1
   cases os with
   | nil=>cases e1
   | cons o os=>
     obtain rfl:os= []:=List.eq_nil_of_length_eq_zero (by simpa using e1)
     have hk:o.key=kP:=by
      have:=q2.mem_iff.1 (List.mem_cons_self ..)
      rw [obP,List.mem_cons]at this
      rcases this with h | h
      ·exact congrArg (fun q=>q.1) h
      ·cases h
     obtain⟨g,c',hA⟩:=q4.rowForm 0 rfl (by simp)
     simp only [Value.slice.injEq,true_and]at hA
     obtain⟨rfl,rfl⟩:=hA
     have hc:=(q4.rowAt 0 rfl).cellAt 0 (by simp)
     refine⟨g,c,.string kP,.string kP,q1,?_,q4.ext⟩
     rw [hc,←hk];rfl)
 simp only [agB,Pol.cells,Sl.val,kP]at HO
 clear hM
 go_enter Tryz.func20,Tryz.ntmps20
 go_wp2_with fail
 refine HO.out.mono ?_
 rintro e w2 ⟨g,c,_,_,rfl,hc,e2⟩
 go_wp2_with ((go_at_call 55;refine(ajI _ 0).mono ?_;rintro e w3 ⟨rfl,rfl⟩))
 go_ret
 exact⟨rfl,e2⟩
theorem ak6{p:Pol}{os:List Ob}(ho:(os.map obk).Perm (obP p)):(os.map okd).Perm (qQ p):=by
 have h:=ho.map (fun q:ByteArray×List UInt8×Loc=>(q.1,q.2.1))
 rw [List.map_map]at h
 have e:(obP p).map (fun q:ByteArray×List UInt8×Loc=>(q.1,q.2.1))=qQ p:=by
  rw [obP,qQ,List.map_cons,List.map_flatMap]
  congr 2
  funext t
  rw [obL,qP,List.map_map];rfl
 rw [e]at h
 exact h
theorem akr{p:Pol}(hT: ∀t∈p.ten.xs,zH t=true): ∀x∈qQ p,x.1.size≤200:=fun x hx=>by
 rcases List.mem_cons.1 hx with rfl | hx
 ·exact(show kP.size≤200 by decide)
 ·obtain⟨t,ht,hx⟩:=List.mem_flatMap.1 hx
  obtain⟨q,hq,rfl⟩:=List.mem_map.1 hx
  exact age t (hT t ht) q hq
def lenP(l:List Tnt):Nat:=(l.map fun t=>1+t.sets.n+t.stages.n).sum
theorem agh(l:List Tnt)(k:Nat)(h:k < l.length):lenP (l.take (k+1))=lenP (l.take k)+(1+l[k].sets.n+l[k].stages.n):=by
 rw [lenP,List.take_succ_eq_append_getElem h,List.map_append,List.sum_append,lenP]
 simp
theorem anB(l:List Tnt)(k:Nat):lenP (l.take k)≤lenP l:=by
 have:lenP l=lenP (l.take k)+lenP (l.drop k):=by rw [lenP,lenP,lenP,←List.sum_append,←List.map_append,List.take_append_drop]
 omega
theorem amW{w:World}{p:Pol}(h:Pol.At w 0 w.heap.size p):(qQ p).length=1+lenP p.ten.xs:=by
 rw [aim,lenP]
 congr 2
 refine List.map_congr_left fun t ht=>?_
 have hT:=h.ten.all t ht
 rw [abv,List.length_cons,List.length_append,List.length_map,List.length_map,hT.sets.len,hT.stages.len]
 omega
structure PobR (w':World) (p:Pol) (A:Option Addr) (c:Nat) (os:List Ob):Prop where
 at_:Sl.At w' 0 w'.heap.size Ob.cells (Ob.At w' 0 w'.heap.size) ⟨A,os.length,c,os⟩
 small: ∀x∈os,x.data.n≤100000000∧x.key.size≤1048576
 read:rPol (os.map okd)=some p.bare
 ris: ∀j (h:j+1 < os.length),lessB os[j].key os[j+1].key=true
 len:os.length=1+lenP p.ten.xs
 max:os.length≤149
theorem ae2{w w0 w':World}{p:Pol}(h:Pol.At w0 0 w0.heap.size p)(hb:yf p=true){A:Option Addr}{c:Nat}{os:List Ob}(ho:(os.map obk).Perm (obP p))(hs:aa9 os)(H:Heap w (.row 56 3 (.slice A os.length c) os.length (os.flatMap Ob.cells)::os.map yg) w'):PobR w' p A c os:=by
 obtain⟨a1,a2,_,a4⟩:=ahO hb ho H
 have hx:=ak6 ho
 have hb0:=hb
 simp only [yf,Bool.and_eq_true,decide_eq_true_eq,List.all_eq_true]at hb0
 have hT:=hb0.2.2.2.2.2.1
 have hsr:(os.map okd).Pairwise fun x y=>lessB y.1 x.1=false:=by
  rw [List.pairwise_map,List.pairwise_iff_getElem]
  exact fun i j hi hj hij=>hs i j hi hj hij
 obtain⟨r1,r2⟩:=akN p hb (fun t ht=>akJ (h.ten.all t ht)) (os.map okd) hx hsr
 have r3:=aaX r2
 rw [List.map_map,List.pairwise_map,List.pairwise_iff_getElem]at r3
 refine⟨a1,fun x hm=>⟨a2 x hm,?_⟩,r1,fun j hj=>r3 j (j+1) (by omega) hj (by omega),?_,a4⟩
 ·have:=akr hT _ (hx.mem_iff.1 (List.mem_map_of_mem (f:=okd) hm))
  exact Nat.le_trans this (by decide)
 ·rw [←amW h,←hx.length_eq,List.length_map]
open Go.ChangeShapes Go.WideShapes Go.ChangeAt
theorem acN{W:World}(h:W.ShapedOpen Tryz.prog):xf W:=
 Go.Proofs.cell_of_shapedOpen_int (P:=Tryz.prog) (g:=0) (t:=3) (zero:= #[.int .i64 0]) h (of_decide_eq_true (by kernel_rfl)) (by kernel_rfl) rfl (by kernel_rfl) (by kernel_rfl) Tryz.underlying3
abbrev anh:List (String×DataW Unit):= [("unicode/utf8.acceptRanges",Rows.laid_unicode_utf8_acceptRanges),("unicode/utf8.first",Rows.laid_unicode_utf8_first)]
noncomputable def witW (os:Os):World:=World.laidAll Tryz.prog os anh
theorem ae3(os:Os)(args:Array Value):laidMet Tryz.prog anh ((witW os).forCall (fun _ _=>0) ⟨#[],args, []⟩).memory:=
 laidMet_laidAll args (by kernel_rfl) (by kernel_rfl)
theorem ae1:ownKnob Tryz.prog.godebug=none:=by kernel_rfl
theorem afF:laidOutB Tryz.prog=true:=by kernel_rfl
section
variable {H:Type} {enc:TypeId×Value→H} {P:Program} {w:World} {base:Nat} {spare:Nat→Bool} {held:Bool}
end
end Go.Proofs.YtckaneapjpiocaaGreatDoor
