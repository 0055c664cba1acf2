/- The texts Rr10, Rr11, Rok, Psb, Rr13, Rr14, Rr15 in one file. -/
import Derived.Test.YtckaneapjpiocaaGreatDoorQ22
set_option linter.unusedVariables false
set_option linter.unusedSimpArgs false
set_option maxHeartbeats 4000000
set_option maxRecDepth 100000
namespace Go.Proofs.YtckaneapjpiocaaGreatDoor
open Go.RowKit Go.Maps Go.Sort Go.Shelf
abbrev aeP:List Value:= [.string ⟨#[]⟩,.int .i64 0,.int .i64 0,.slice none 0 0,.slice none 0 0,.slice none 0 0,.slice none 0 0]
theorem akL{w0 w:World}{its:List It}{tb eb:Nat}{x0 x1 x2 x3 x4 x5 x6 ev:Value}(q:Int)(older:List PanicEntry)(HH:Hid (Heap w0 (.box tb [x0,x1,x2,x3,x4,x5,x6]:: .box eb [ev]::its) w)):
 CallsD Tryz.prog 45 #[.pointer (some ⟨tb,0,none⟩),.pointer (some ⟨eb,0,none⟩)] (.panicking ({ v:=aae q,recovered:=false } ::older)) w fun e u' w'=>
  e= .returned (.tuple #[])∧u'= .panicking ({ v:=aae q,recovered:=true } ::older)∧Heap w0 (.box tb aeP:: .box eb [.int .i64 q]::its) w':=by
 refine callsD_of_wpS Tryz.func45 rfl fun c₀ cs hu=>?_
 simp only [Tryz.ntmps45,List.size_toArray,List.length_cons,List.length_nil,Nat.reduceAdd,Nat.reduceSub,Array.replicate_succ,Array.replicate_zero,List.push_toArray,List.append_toArray,List.nil_append,List.cons_append]
 apply wpS_seq
 apply abN (l:= [0,1,2,3,4,5,6]) rfl
 refine aj5 (w':=w) (cs':={ c₀ with mode:= .panicking ({ v:=aae q,recovered:=true } ::older) } ::cs) (v:=aae q) rfl (by kernel_rfl) (by rfl) (by simp only [recoverD,hu]) ?_
 simp only [Act.put]
 refine zZ (w':=w) (v:= .tuple #[.int .i64 q,.bool true]) rfl (by kernel_rfl) (by kernel_rfl) ?_
 refine zZ (w':=w) (v:= .tuple #[.int .i64 q,.bool true]) rfl (by kernel_rfl) (by kernel_rfl) ?_
 refine zZ (w':=w) (v:= .int .i64 q) rfl (by kernel_rfl) (by kernel_rfl) ?_
 refine zZ (w':=w) (v:= .bool true) rfl (by kernel_rfl) (by kernel_rfl) ?_
 refine zZ (w':=w) (v:= .int .i64 q) rfl (by kernel_rfl) (by kernel_rfl) ?_
 refine zZ (w':=w) (v:= .bool true) rfl (by kernel_rfl) (by kernel_rfl) ?_
 refine aec ?_
 simp only [Exit.thenS]
 refine wpS_of_wp ?_
 go_wp2_with (first | (refine sSX HH zt 0 ?_;clear HH;intro wS HH) | (refine s1X HH 1 ?_;clear HH;intro wS HH))
 exact⟨rfl,.panicking ({ v:=aae q,recovered:=true } ::older),rfl,.tuple #[],by kernel_rfl,rfl,rfl,HH.out⟩
theorem amM{w0 w:World}{its:List It}{p1 p2:Value}(HH:Hid (Heap w0 its w)):
 CallsD Tryz.prog 45 #[p1,p2] .returning w fun e u' w'=>e= .returned (.tuple #[])∧u'= .returning∧Heap w0 its w':=by
 refine callsD_of_wpS Tryz.func45 rfl fun c₀ cs hu=>?_
 simp only [Tryz.ntmps45,List.size_toArray,List.length_cons,List.length_nil,Nat.reduceAdd,Nat.reduceSub,Array.replicate_succ,Array.replicate_zero,List.push_toArray,List.append_toArray,List.nil_append,List.cons_append]
 apply wpS_seq
 apply abN (l:= [0,1,2,3,4,5,6]) rfl
 refine afH (w':=w) rfl (by kernel_rfl) (by rfl) (by simp only [recoverD,hu]) ?_
 simp only [Act.put]
 refine zZ (w':=w) (v:= .tuple #[.int .i64 0,.bool false]) rfl (by kernel_rfl) (by kernel_rfl) ?_
 refine zZ (w':=w) (v:= .tuple #[.int .i64 0,.bool false]) rfl (by kernel_rfl) (by kernel_rfl) ?_
 refine zZ (w':=w) (v:= .int .i64 0) rfl (by kernel_rfl) (by kernel_rfl) ?_
 refine zZ (w':=w) (v:= .bool false) rfl (by kernel_rfl) (by kernel_rfl) ?_
 refine zZ (w':=w) (v:= .int .i64 0) rfl (by kernel_rfl) (by kernel_rfl) ?_
 refine zZ (w':=w) (v:= .bool false) rfl (by kernel_rfl) (by kernel_rfl) ?_
 refine aec ?_
 simp only [Exit.thenS]
 refine wpS_of_wp ?_
 go_wp2_with fail
 refine⟨rfl,.returning,?_,.tuple #[],by kernel_rfl,rfl,rfl,HH.out⟩
 cases c₀
 simp_all
section
variable {P:Program} {w0 w:World} {its:List It} {fn:Func} {R:Ending→World→Prop} {tmps:Array Value}
theorem ac2{t u:TypeId}{x y b c n:Nat}{vs:List Value}{v:Value}(hs:(P.info? t).map (·.size)=some n)(kt:qG P t=some true)(ku:qG P u=some false)(H:Heap w0 its w)(hres:fn.results= #[.cell x t,.cell y u])
 (hx:tmps.getD x undef= .pointer (some ⟨b,0,none⟩)) (hy:tmps.getD y undef= .pointer (some ⟨c,0,none⟩)) (i j:Nat) (hi:its[i]?=some (.box b vs)) (hl:Nat.ble n vs.length=true) (hj:its[j]?=some (.box c [v]))
 (hR:R (.returned (.tuple #[.agg (vs.take n).toArray,v])) w):Leaves P fn tmps R [] .returning w:=by
 refine⟨_,?_,hR⟩
 have h0:=abY (p:=0) H hs kt i hi (by rw [Nat.zero_add];exact Nat.le_of_ble_eq_true hl)
 have h1:=acM (p:=0) H ku j hj rfl
 have hx':tmps[x]?.getD undef= .pointer (some ⟨b,0,none⟩):=by simpa using hx
 have hy':tmps[y]?.getD undef= .pointer (some ⟨c,0,none⟩):=by simpa using hy
 rw [List.drop_zero]at h0
 simp only [results,hres]
 simp [asAddr,hx',hy',h0,h1]
end
section
variable {w0 w:World} {its:List It} {R:Ending→World→Prop} {tmps:Array Value}
abbrev ad6(tb eb:Nat):List Deferred:= [⟨.fn (.func 45) #[.pointer (some ⟨tb,0,none⟩),.pointer (some ⟨eb,0,none⟩)],#[]⟩]
theorem xX{tb eb:Nat}{x0 x1 x2 x3 x4 x5 x6 ev:Value}(q:Int)(H:Heap w0 (.box tb [x0,x1,x2,x3,x4,x5,x6]:: .box eb [ev]::its) w)
 (h4:tmps.getD 4 undef= .pointer (some ⟨tb,0,none⟩)) (h5:tmps.getD 5 undef= .pointer (some ⟨eb,0,none⟩)) (hR: ∀w',Ext w0 w'→R (.returned (.tuple #[.agg aeP.toArray,.int .i64 q])) w'):
 Leaves Tryz.prog Tryz.f17 tmps R (ad6 tb eb) (.panicking [{ v:=aae q,recovered:=false }]) w:=by
 refine leaves_cons (f:=45) (args:= #[.pointer (some ⟨tb,0,none⟩),.pointer (some ⟨eb,0,none⟩)]) (by simp) (by simp [go_sem]) ?_
 refine(akL q [] (hiD H)).mono ?_
 rintro e u' w'' ⟨rfl,rfl,H2⟩
 simp only [settle,List.dropWhile]
 exact ac2 zt (by kernel_rfl) (by kernel_rfl) H2 rfl h4 h5 0 1 rfl rfl rfl (hR _ H2.ext)
theorem aoa{tb eb:Nat}{x0 x1 x2 x3 x4 x5 x6 ev:Value}(H:Heap w0 (.box tb [x0,x1,x2,x3,x4,x5,x6]:: .box eb [ev]::its) w)
 (h4:tmps.getD 4 undef= .pointer (some ⟨tb,0,none⟩)) (h5:tmps.getD 5 undef= .pointer (some ⟨eb,0,none⟩)) (hR: ∀w',Heap w0 (.box tb [x0,x1,x2,x3,x4,x5,x6]:: .box eb [ev]::its) w'→R (.returned (.tuple #[.agg #[x0,x1,x2,x3,x4,x5,x6],ev])) w'):
 Leaves Tryz.prog Tryz.f17 tmps R (ad6 tb eb) .returning w:=by
 refine leaves_cons (f:=45) (args:= #[.pointer (some ⟨tb,0,none⟩),.pointer (some ⟨eb,0,none⟩)]) (by simp) (by simp [go_sem]) ?_
 refine(amM (hiD H)).mono ?_
 rintro e u' w'' ⟨rfl,rfl,H2⟩
 simp only [settle]
 exact ac2 zt (by kernel_rfl) (by kernel_rfl) H2 rfl h4 h5 0 1 rfl rfl rfl (hR _ H2)
end
def zK(s p:ByteArray):Bool:=decide (p.size≤s.size) && ((s.extract 0 p.size).toList == p.toList)
def xO(s p:ByteArray):ByteArray×Bool:=if zK s p=true then(s.extract p.size s.size,true)else(s,false)
theorem agX(w:World)(s p:ByteArray)(hs:s.size≤1000000000)(hp:p.size≤1000000000):
 Calls Tryz.prog 154 #[.string s,.string p] w fun e w'=>e= .returned (.bool (zK s p))∧w'=w:=by
 by_cases h:p.size≤s.size
 ·have hd:decide (p.size≤s.size)=true:=by simpa using h
  have HV:=hiD (show zK s p=((s.extract 0 p.size).toList == p.toList)by rw [zK,hd,Bool.true_and])
  generalize zK s p=V at *
  go_enter Tryz.func154,Tryz.ntmps154
  go_wp2_with fail
  go_ret
  exact⟨by rw [HV.out];rfl,rfl⟩
 ·have hd:decide (p.size≤s.size)=false:=by simpa using h
  have HV:=hiD (show zK s p=false by rw [zK,hd,Bool.false_and])
  generalize zK s p=V at *
  go_enter Tryz.func154,Tryz.ntmps154
  go_wp2_with fail
  go_ret
  exact⟨by rw [HV.out];rfl,rfl⟩
theorem akS(w:World)(s p:ByteArray)(hs:s.size≤1000000000)(hp:p.size≤1000000000):
 Calls Tryz.prog 105 #[.string s,.string p] w fun e w'=>e= .returned (.tuple #[.string (xO s p).1,.bool (xO s p).2])∧w'=w:=by
 have HH:=hiD (agX w s p hs hp)
 have HC:=hiD (show xO s p=if zK s p=true then(s.extract p.size s.size,true)else(s,false)from rfl)
 have HL:=hiD (show zK s p=true→p.size≤s.size from fun h=>by
  rw [zK,Bool.and_eq_true,decide_eq_true_eq]at h
  exact h.1)
 generalize xO s p=C at *
 generalize zK s p=V at *
 cases V with
 | false=>
   have hC:=HC.out
   rw [if_neg (by decide)]at hC
   subst hC
   clear HC HL
   go_enter Tryz.func105,Tryz.ntmps105
   go_wp2_with fail
   refine HH.out.mono ?_
   rintro e w1 ⟨rfl,rfl⟩
   go_wp2_with fail
   go_ret2
   exact⟨rfl,rfl⟩
 | true=>
   have hC:=HC.out
   rw [if_pos rfl]at hC
   subst hC
   have hl:=HL.out rfl
   clear HC HL
   go_enter Tryz.func105,Tryz.ntmps105
   go_wp2_with fail
   refine HH.out.mono ?_
   rintro e w1 ⟨rfl,rfl⟩
   go_wp2_with fail
   go_ret2
   exact⟨rfl,rfl⟩
theorem agJ(w:World)(s p:ByteArray)(hs:s.size≤1000000000)(hp:p.size≤1000000000):
 Calls Tryz.prog 48 #[.string s,.string p] w fun e w'=>e= .returned (.tuple #[.string (xO s p).1,.bool (xO s p).2])∧w'=w:=by
 have HH:=hiD (akS w s p hs hp)
 generalize xO s p=C at *
 go_enter Tryz.func48,Tryz.ntmps48
 go_wp2_with fail
 refine HH.out.mono ?_
 rintro e w1 ⟨rfl,rfl⟩
 go_wp2_with fail
 go_ret2
 exact⟨rfl,rfl⟩
structure TntIn (L:RdL) (t:Tnt):Prop where
 sets:InL L Dst.cells t.sets
 setsA: ∀y∈t.sets.xs,DstIn L y
 grants:InL L Gra.cells t.grants
 stages:InL L Stg.cells t.stages
 stagesA: ∀y∈t.stages.xs,StgIn L y
 log:InL L Lin.cells t.log
structure Tnt.fit (t:Tnt):Prop where
 name:sml t.name
 quota:(Lit.int .i64 t.quota).wf=true
 next:(Lit.int .i64 t.next).wf=true
 sets: ∀y∈t.sets.xs,Dst.fit y
 grants: ∀y∈t.grants.xs,Gra.sm y
 stages: ∀y∈t.stages.xs,Stg.fit y
 log: ∀y∈t.log.xs,Lin.sm y
section
variable {w0 w:World} {its:List It} {j:Nat} {S:Nat→Prop} {L:RdL}
theorem InL.at_{α:Type}{cells:α→List Value}{I:α→Prop}{s:Sl α}(H:Heap w0 its w)(hj:its[j]?=some (It.bag S L))(h:InL L cells s)(hI: ∀x∈s.xs,I x):Sl.At w 0 w.heap.size cells I s:=
 ⟨h.len,h.le,h.cap,(H.bagRd hj h.mem).m0,hI⟩
theorem SnaIn.at_{x:Sna}(H:Heap w0 its w)(hj:its[j]?=some (It.bag S L))(h:SnaIn L x)(hf:x.fit):Sna.At w 0 w.heap.size x:=
 ⟨hf.name,hf.guid,h.body.at_ H hj hf.body,by rw [h.body.len];exact hf.bodyS,h.tags.at_ H hj hf.tags,h.own.at_ H hj hf.own,by rw [h.own.len];exact hf.ownS⟩
theorem DstIn.at_{x:Dst}(H:Heap w0 its w)(hj:its[j]?=some (It.bag S L))(h:DstIn L x)(hf:x.fit):Dst.At w 0 w.heap.size x:=
 ⟨hf.path,hf.origin,h.body.at_ H hj hf.body,by rw [h.body.len];exact hf.bodyS,h.snaps.at_ H hj (fun y hy=>(h.all y hy).at_ H hj (hf.snaps y hy)),by rw [h.snaps.len];exact hf.snapsS,h.own.at_ H hj hf.own,by rw [h.own.len];exact hf.ownS⟩
theorem StgIn.at_{x:Stg}(H:Heap w0 its w)(hj:its[j]?=some (It.bag S L))(h:StgIn L x)(hf:x.fit):Stg.At w 0 w.heap.size x:=
 ⟨(H.bagRd hj h.beg).m0,hf.beg,hf.begN,hf.begS,h.bodyN,hf.bodyM,h.bodyC,(H.bagRd hj h.body).m0,hf.bodyW,hf.into,hf.pos,hf.next,hf.su⟩
theorem TntIn.at_{t:Tnt}(H:Heap w0 its w)(hj:its[j]?=some (It.bag S L))(h:TntIn L t)(hf:t.fit):Tnt.At w 0 w.heap.size t:=
 ⟨hf.name,hf.quota,hf.next,h.sets.at_ H hj (fun y hy=>(h.setsA y hy).at_ H hj (hf.sets y hy)),h.grants.at_ H hj hf.grants,h.stages.at_ H hj (fun y hy=>(h.stagesA y hy).at_ H hj (hf.stages y hy)),h.log.at_ H hj hf.log⟩
end
def Tnt.bare(t:Tnt):Tnt:={ t with sets:=slB (t.sets.xs.map Dst.bare),grants:=slB t.grants.xs,stages:=slB (t.stages.xs.map Stg.bare),log:=slB t.log.xs }
def pT(name:ByteArray):ByteArray:=⟨#[116,47]⟩++name
def pS(name:ByteArray):ByteArray:=⟨#[115,47]⟩++name++ ⟨#[47]⟩
def pG(name:ByteArray):ByteArray:=⟨#[103,47]⟩++name++ ⟨#[47]⟩
def afR(t:Tnt)(c1 c2:ByteArray×Bool)(d:List UInt8):Option Tnt:=
 bif c1.2 && t.stages.xs.isEmpty then(adi c1.1 d).bind fun s=>some { t with sets:=slB (t.sets.xs++ [s]) }
 else bif c2.2 then(aaS c2.1 d).bind fun s=>some { t with stages:=slB (t.stages.xs++ [s]) }
 else none
def aft(name:ByteArray)(t:Tnt)(x:ByteArray×List UInt8):Option Tnt:=afR t (xO x.1 (pS name)) (xO x.1 (pG name)) x.2
def aaD(name:ByteArray):Tnt→List (ByteArray×List UInt8)→Option Tnt
 | t, []=>some t
 | t,x::l=>(aft name t x).bind fun t=>aaD name t l
def abR(name:ByteArray):List (ByteArray×List UInt8)→Option Tnt
 | []=>none
 | x::l=>if x.1=pT name then(abC name x.2).bind fun t=>(aaD name t l).bind fun t=>if zH t=true then some t else none else none
theorem ad9{α β:Type}(f:α→β)(p:β→Bool): ∀l:List α,zC p (l.map f)=zC (fun x=>p (f x)) l
 | []=>rfl
 | x::l=>by rw [List.map_cons,zC,zC,ad9 f p l]
theorem adq(l:List Dst)(p:ByteArray):atS (l.map Dst.bare) p=atS l p:=by rw [atS,ad9];rfl
theorem am0(l:List Dst)(p n:ByteArray):snO (l.map Dst.bare) p n=snO l p n:=by
 rw [snO,adq,snO,List.map_map]
 have e: ∀k:Nat,(l.map ((fun x:Dst=>x.snaps.xs)∘Dst.bare)).getD k []=((l.map fun x=>x.snaps.xs).getD k []).map Sna.bare:=fun k=>by
  simp only [List.getD_eq_getElem?_getD,List.getElem?_map]
  cases l[k]? <;> rfl
 rw [e,ad9];rfl
theorem alv(l:List Sna):xF (l.map Sna.bare)=xF l:=by
 unfold xF
 rw [List.length_map,List.all_map,List.map_map,List.map_map];rfl
theorem al7(l:List Dst)(x:Dst):upB (l.map Dst.bare) x.bare=upB l x:=by
 unfold upB
 show(match xN x.path with | none=>true | some up=>decide (0≤atS (l.map Dst.bare) up))=_
 cases xN x.path with
 | none=>rfl
 | some up=>simp only [adq]
theorem alN(l:List Dst)(x:Dst):orB (l.map Dst.bare) x.bare=orB l x:=by
 unfold orB
 simp only [adq,am0];rfl
theorem amY(l:List Dst)(x:Dst):seB (l.map Dst.bare) x.bare=seB l x:=by
 unfold seB
 rw [al7,alN,show x.bare.snaps.xs=x.snaps.xs.map Sna.bare from rfl,alv];rfl
theorem aiv(l:List Dst):yV (l.map Dst.bare)=yV l:=by
 unfold yV
 rw [List.length_map,adq,List.all_map,List.map_map]
 have:(seB (l.map Dst.bare)∘Dst.bare)=seB l:=by funext x;exact amY l x
 rw [this];rfl
theorem ag3(x:Stg)(h:x.beg.on=x.beg.own.length):stB x.bare=stB x:=by
 unfold stB
 show(!x.into.toList.isEmpty && (zF x.into && (x.beg.kind == 1 && (decide (yJ x.beg.bare=0) && _))))=_
 by_cases hk:x.beg.kind=1
 ·rw [aeq (y:=x.beg) rfl h (.inl hk)];rfl
 ·have:(x.beg.kind == 1)=false:=by simpa using hk
  rw [this];simp
theorem akx(l:List Stg)(h: ∀y∈l,y.beg.on=y.beg.own.length):xM (l.map Stg.bare)=xM l:=by
 unfold xM
 rw [List.length_map,List.all_map,List.map_map]
 have:l.all (stB∘Stg.bare)=l.all stB:=by
  rw [Bool.eq_iff_iff,List.all_eq_true,List.all_eq_true]
  exact⟨fun q x hx=>by rw [←ag3 x (h x hx)];exact q x hx,fun q x hx=>by show stB x.bare=true;rw [ag3 x (h x hx)];exact q x hx⟩
 rw [this];rfl
theorem acB(t:Tnt)(h: ∀y∈t.stages.xs,y.beg.on=y.beg.own.length):zH t.bare=zH t:=by
 unfold zH
 rw [show t.bare.sets.xs=t.sets.xs.map Dst.bare from rfl,show t.bare.stages.xs=t.stages.xs.map Stg.bare from rfl,aiv,akx _ h];rfl
theorem aj9{x:Rec}(h:yJ x=0):(1≤x.kind∧x.kind≤4)∧yv x=true:=by
 unfold yJ at h
 split at h
 ·omega
 ·split at h
  ·rename_i h1 h2;exact⟨by omega,h2⟩
  ·omega
theorem qY{s:ByteArray}(h:s.toList= []):s=⟨#[]⟩:=by
 refine ql s ?_
 rw [←zv,←ByteArray.toList_eq,h]
 rfl
theorem alG(k:Int)(h:1≤k∧k≤4):((UInt8.ofNat k.toNat).toNat:Int)=k:=by
 rcases(show k=1∨k=2∨k=3∨k=4 by omega)with rfl | rfl | rfl | rfl <;> rfl
theorem aeH(s:ByteArray)(l:List ByteArray)(b:Bool):stT (s::l,b)=(s,l,b):=rfl
theorem ah1(z:Int)(h:0≤z∧z≤4611686018427387903):fV (zm z)=z∧fE (zm z)=0:=by
 obtain⟨h1,h2⟩:=alZ z (by omega) (by omega)
 have e:(zm z).data.toList=zp z 8:=by simp [zm]
 have hs:=aa4 z
 unfold fV fE
 rw [e,hs,if_neg (by omega),if_neg (by omega),if_neg (by omega),if_neg (by omega),h1,if_neg (by omega)]
 exact⟨h2 (by omega),rfl⟩
theorem acp(z:Int)(h:0≤z∧z≤4611686018427387903)(l:List ByteArray)(b:Bool):stN (zm z::l,b)=(z,l,b):=by
 obtain⟨h1,h2⟩:=ah1 z h
 simp [stN,aeH,h1,h2]
theorem aey: ∀(xs:List Prp),z6 (zW xs)=(xs,true)
 | []=>rfl
 | p::xs=>by
   have ih:=aey xs
   show z6 (p.name::p.value::zW xs)=_
   rw [z6,ih]
theorem aiR(su:Su)(h:su.wf):xJ (qy su) 0=su.a∧xJ (qy su) 1=su.b∧xJ (qy su) 2=su.c∧xJ (qy su) 3=su.d:=by
 have hp:(256:Int) ^ 8=18446744073709551616:=by decide
 have one (z:Int) (hz:0≤z∧z≤18446744073709551615):(val (zp z 8):Int)=z:=by
  rw [adr z 8,hp]
  omega
 have l8 (z:Int):(zp z 8).length=8:=zo z 8
 obtain⟨a,b,c,d⟩:=su
 obtain⟨h1,h2,h3,h4⟩:=h
 unfold xJ qy
 refine⟨?_,?_,?_,?_⟩
 ·rw [show((zp a 8++zp b 8++zp c 8++zp d 8).drop (0 * 8)).take 8=zp a 8 by
   rw [Nat.zero_mul,List.drop_zero,List.append_assoc,List.append_assoc,List.take_left' (l8 a)]]
  exact one a h1
 ·rw [show((zp a 8++zp b 8++zp c 8++zp d 8).drop (1 * 8)).take 8=zp b 8 by
   rw [List.append_assoc,List.append_assoc,List.drop_left' (by rw [l8 a]),List.take_left' (l8 b)]]
  exact one b h2
 ·rw [show((zp a 8++zp b 8++zp c 8++zp d 8).drop (2 * 8)).take 8=zp c 8 by
   rw [List.append_assoc (zp a 8++zp b 8),List.drop_left' (by rw [List.length_append,l8 a,l8 b]),List.take_left' (l8 c)]]
  exact one c h3
 ·rw [show((zp a 8++zp b 8++zp c 8++zp d 8).drop (3 * 8)).take 8=zp d 8 by
   rw [List.drop_left' (by rw [List.length_append,List.length_append,l8 a,l8 b,l8 c]),List.take_of_length_le (by rw [l8 d];exact Nat.le_refl _)]]
  exact one d h4
theorem afm(su:Su)(h:su.wf):qd (qy su)=su∧acO (qy su)=0:=by
 obtain⟨h1,h2,h3,h4⟩:=aiR su h
 have hl:=aak su
 unfold qd acO
 rw [if_pos hl,h1,h2,h3,h4,if_neg (by omega),if_neg (by omega)]
 exact⟨rfl,rfl⟩
theorem akf(r:Rec)(h:yJ r=0)(hs:(sumR r).wf)(ho:r.on=r.own.length):zX r.kind (zl r)=r.bare∧yN r.kind (zl r)=true:=by
 obtain⟨hk,hm⟩:=aj9 h
 obtain⟨kind,name,frm,guid,oA,on,oc,own,index,count,data,s0,s1,s2,s3⟩:=r
 dsimp only at hk ho
 unfold yv at hm
 dsimp only at hm
 by_cases k1:kind=1
 ·subst k1
  rw [if_pos rfl]at hm
  simp only [Bool.and_eq_true,decide_eq_true_eq,beq_iff_eq,xL]at hm
  obtain⟨⟨⟨⟨⟨⟨⟨⟨⟨a1,a2⟩,a3⟩,a4⟩,a5⟩,a6⟩,rfl⟩,rfl⟩,a9⟩,⟨⟨rfl,rfl⟩,rfl⟩,rfl⟩:=hm
  obtain rfl:=qY a9
  have e:zl ⟨1,name,frm,guid,oA,on,oc,own,0,0,⟨#[]⟩,0,0,0,0⟩=name::zm frm::zm guid::zW own:=by simp [zl]
  rw [e]
  show zX 1 _=_∧yN 1 _=true
  unfold zX yN
  rw [if_pos rfl,if_pos rfl,aeH]
  dsimp only
  rw [acp frm (by omega)]
  dsimp only
  rw [acp guid (by omega)]
  dsimp only
  rw [aey]
  exact⟨rfl,rfl⟩
 rw [if_neg k1]at hm
 by_cases k2:kind=2
 ·subst k2
  rw [if_pos rfl]at hm
  simp only [Bool.and_eq_true,decide_eq_true_eq,beq_iff_eq,xL]at hm
  obtain⟨⟨⟨⟨⟨⟨⟨⟨a1,a2⟩,a3⟩,a4⟩,rfl⟩,rfl⟩,rfl⟩,⟨⟨rfl,rfl⟩,rfl⟩,rfl⟩,rfl⟩:=hm
  obtain rfl:=qY a4
  obtain rfl:own= []:=List.eq_nil_of_length_eq_zero ho.symm
  have e:zl ⟨2,⟨#[]⟩,0,0,oA,0,oc, [],index,0,data,0,0,0,0⟩= [zm index,data]:=by simp [zl]
  rw [e]
  show zX 2 _=_∧yN 2 _=true
  unfold zX yN
  rw [if_neg (by decide),if_pos rfl,if_neg (by decide),if_pos rfl,acp index (by omega)]
  exact⟨rfl,rfl⟩
 rw [if_neg k2]at hm
 by_cases k3:kind=3
 ·subst k3
  rw [if_pos rfl]at hm
  simp only [Bool.and_eq_true,decide_eq_true_eq,beq_iff_eq,xL]at hm
  obtain⟨⟨⟨⟨⟨⟨⟨⟨⟨a1,a2⟩,a3⟩,a4⟩,a5⟩,rfl⟩,rfl⟩,a6⟩,⟨⟨rfl,rfl⟩,rfl⟩,rfl⟩,rfl⟩:=hm
  obtain rfl:=qY a5
  obtain rfl:=qY a6
  obtain rfl:own= []:=List.eq_nil_of_length_eq_zero ho.symm
  have e:zl ⟨3,⟨#[]⟩,0,0,oA,0,oc, [],index,count,⟨#[]⟩,0,0,0,0⟩= [zm index,zm count]:=by simp [zl]
  rw [e]
  show zX 3 _=_∧yN 3 _=true
  unfold zX yN
  rw [if_neg (by decide),if_neg (by decide),if_pos rfl,if_neg (by decide),if_neg (by decide),if_pos rfl,acp index (by omega)]
  dsimp only
  rw [acp count (by omega)]
  exact⟨rfl,rfl⟩
 rw [if_neg k3]at hm
 obtain rfl:kind=4:=by omega
 simp only [Bool.and_eq_true,decide_eq_true_eq,beq_iff_eq]at hm
 obtain⟨⟨⟨⟨⟨⟨a1,rfl⟩,rfl⟩,rfl⟩,rfl⟩,a2⟩,rfl⟩:=hm
 obtain rfl:=qY a1
 obtain rfl:=qY a2
 obtain rfl:own= []:=List.eq_nil_of_length_eq_zero ho.symm
 have e:zl ⟨4,⟨#[]⟩,0,0,oA,0,oc, [],0,0,⟨#[]⟩,s0,s1,s2,s3⟩= [⟨(qy ⟨s0,s1,s2,s3⟩).toArray⟩]:=by simp [zl,sumR]
 rw [e]
 obtain⟨q1,q2⟩:=afm ⟨s0,s1,s2,s3⟩ hs
 show zX 4 _=_∧yN 4 _=true
 unfold zX yN
 rw [if_neg (by decide),if_neg (by decide),if_neg (by decide),if_neg (by decide),if_neg (by decide),if_neg (by decide),aeH]
 dsimp only
 rw [q1,q2]
 exact⟨rfl,rfl⟩
theorem alO(k:UInt8)(t rest:List UInt8)(ht:t.length < 65536):
 psN ([k]++zp t.length 2++t++rest)=t.length∧psT ([k]++zp t.length 2++t++rest)=t∧ ¬([k]++zp t.length 2++t++rest).length < 3+t.length:=by
 have h2:(zp (t.length:Int) 2).length=2:=zo _ _
 have e: [k]++zp t.length 2++t++rest=k::(zp t.length 2++(t++rest)):=by simp
 have hN:psN ([k]++zp t.length 2++t++rest)=t.length:=by
  rw [e,psN,List.drop_succ_cons,List.drop_zero,List.take_left' h2]
  exact abr _ _ (by omega)
 refine⟨hN,?_,?_⟩
 ·rw [psT,hN,e,show(3:Nat)=2+1 from rfl,List.drop_succ_cons,List.drop_left' h2,List.take_left' rfl]
 ·simp only [List.length_append,List.length_cons,List.length_nil,h2]
  omega
theorem ak3(r:Rec)(h:yJ r=0)(ho:r.on=r.own.length):yJ r.bare=0:=by
 refine(aeq (y:=r) rfl ho ?_).symm.trans h
 by_cases k1:r.kind=1
 ·exact .inl k1
 ·right
  obtain⟨hk,hm⟩:=aj9 h
  have:r.on=0:=by
   unfold yv at hm
   rw [if_neg k1]at hm
   split at hm
   ·simp only [Bool.and_eq_true,decide_eq_true_eq]at hm;exact hm.2
   ·split at hm
    ·simp only [Bool.and_eq_true,decide_eq_true_eq]at hm;exact hm.2
    ·simp only [Bool.and_eq_true,decide_eq_true_eq]at hm;exact hm.2
  exact List.eq_nil_of_length_eq_zero (show r.own.length=0 by omega)
theorem aon(r:Rec)(rest:List UInt8)(h:yJ r=0)(hs:(sumR r).wf)(ho:r.on=r.own.length):psE (yh r++rest)=0∧psM (yh r++rest)=(yh r).length∧psA (yh r++rest)=r.bare:=by
 have hk:=ahT r h
 have hf:=adP r h
 have hl:=aeW r
 have hB:yh r= [UInt8.ofNat r.kind.toNat]++zp (wB (zl r)).length 2++wB (zl r):=by rw [yh,if_pos h]
 have ht:(wB (zl r)).length < 65536:=by rw [hB,List.length_append]at hl;omega
 have hlen:(yh r).length=3+(wB (zl r)).length:=by rw [hB];simp [zo];omega
 obtain⟨p1,p2,p3⟩:=alO (UInt8.ofNat r.kind.toNat) (wB (zl r)) rest ht
 rw [←hB]at p1 p2 p3
 obtain⟨r1,r2⟩:=akf r h hs ho
 have hd:rd (psT (yh r++rest))=(0,zl r):=by
  rw [p2]
  have:=agW (zl r) hf []
  simpa using this
 have hkb:=alG r.kind hk
 have hE:psE (yh r++rest)=0:=by
  have e:yh r++rest=UInt8.ofNat r.kind.toNat::(zp (wB (zl r)).length 2++(wB (zl r)++rest)):=by rw [hB];simp
  have e2:psE (yh r++rest)=if(UInt8.ofNat r.kind.toNat).toNat < 1∨4 < (UInt8.ofNat r.kind.toNat).toNat then 23 else if(yh r++rest).length < 3 then 8 else if(yh r++rest).length < 3+psN (yh r++rest)then 8
   else if(rd (psT (yh r++rest))).1≠0∨yN (UInt8.ofNat r.kind.toNat).toNat (rd (psT (yh r++rest))).2=false then 33 else if yJ (zX (UInt8.ofNat r.kind.toNat).toNat (rd (psT (yh r++rest))).2)≠0 then 9 else 0:=by
   rw [e];rfl
  rw [e2,if_neg (by omega),if_neg (by omega),p1,if_neg p3,hd,hkb,if_neg (by rw [r2];simp),r1,if_neg (by rw [ak3 r h ho];simp)]
 refine⟨hE,?_,?_⟩
 ·rw [psM,if_pos hE,p1,hlen]
 ·rw [psA,if_pos hE,hd]
  have hh:(yh r++rest).headD 0=UInt8.ofNat r.kind.toNat:=by rw [hB];rfl
  rw [hh,hkb]
  exact r1
def aaM(p:ByteArray×List ByteArray):ByteArray×List UInt8:=(p.1,zu p.2)
theorem adb(l:List ByteArray)(h:wE l=0):rd (zu l)=(0,l):=by
 have:=agW l h []
 rw [List.append_nil,wB,if_pos h]at this
 simpa using this
theorem aai(m z:Int)(l:List ByteArray)(h0:0≤z)(h1:z≤m)(hm:z≤4611686018427387903):rNm m (zm z::l)=some (z,l):=by
 obtain⟨q1,q2⟩:=ah1 z ⟨h0,hm⟩
 rw [rNm,q1,q2,if_pos ⟨rfl,h1⟩]
theorem agk: ∀xs:List Prp,prO (zW xs)=xs
 | []=>rfl
 | p::xs=>by
   show prO (p.name::p.value::zW xs)=_
   rw [prO,agk xs]
theorem aef(xs:List Prp)(r:List ByteArray)(h:prE xs=0):aac (yU xs++r)=some (xs,r):=by
 obtain⟨h8,_⟩:=aaV xs h
 have hl:(zW xs).length=2 * xs.length:=by rw [xR];omega
 rw [aac,yU,List.cons_append,aai 8 _ _ (by omega) (by omega) (by omega),Option.bind_some]
 simp only [Int.toNat_natCast]
 rw [if_neg (by rw [List.length_append];omega),List.take_left' hl,List.drop_left' hl,agk,if_pos h]
theorem agc(p l:List UInt8)(h:p.length=18):yZ (p++l)=acm p::yZ l:=by
 have h1:(p++l).length / 18=l.length / 18+1:=by rw [List.length_append];omega
 rw [yZ,h1,List.range_succ_eq_map,List.map_cons,List.map_map]
 congr 1
 ·rw [abf,Nat.zero_mul,List.drop_zero,List.take_left' h]
 ·rw [yZ]
  refine List.map_congr_left fun k _=>?_
  show acm (abf (p++l) (k+1))=_
  rw [abf,abf,show(k+1) * 18=18+k * 18 by omega,←List.drop_drop,List.drop_left' h]
theorem amQ(x:Blk)(h:0≤x.index∧x.index < 1024):acm (zp x.index 2++x.data.data.toList)=x:=by
 have h2:(zp x.index 2).length=2:=zo _ _
 have hv:yK (zp x.index 2)=x.index:=by
  have h3:=adr x.index 2
  have h4:(256:Int) ^ 2=65536:=by decide
  unfold yK
  rw [h2,if_neg (by omega),if_neg (by omega),if_neg (by omega),h3]
  omega
 rw [acm,List.take_left' h2,List.drop_left' h2,hv]
theorem ami(xs:List Blk)(h:bkE xs=0): ∀x∈xs,0≤x.index∧x.index < 1024:=by
 have hb:qC xs xs.length=false:=by
  rw [bkE]at h
  cases hq:qC xs xs.length with
  | false=>rfl
  | true=>rw [hq]at h;cases h
 intro x hx
 obtain⟨k,hk,rfl⟩:=List.getElem_of_mem hx
 have hq:abi xs k=false:=by
  cases hq:abi xs k with
  | false=>rfl
  | true=>rw [qg xs k _ hk hq]at hb;cases hb
 rw [acd xs k hk,Bool.or_eq_false_iff]at hq
 have:=hq.1
 simp only [xZ,Bool.or_eq_false_iff,decide_eq_false_iff_not,Decidable.not_not]at this
 omega
theorem ald(xs:List Blk)(h: ∀x∈xs,0≤x.index∧x.index < 1024)(h16: ∀x∈xs,x.data.size=16):yZ (yH xs)=xs:=by
 induction xs with
 | nil=>rfl
 | cons x xs ih=>
   have hl:(zp x.index 2++x.data.data.toList).length=18:=by
    rw [List.length_append,zo]
    have:x.data.data.toList.length=x.data.size:=Array.length_toList
    have:=h16 x (by simp)
    omega
   rw [yH,List.flatMap_cons,agc _ _ hl,amQ x (h x (by simp))]
   congr 1
   exact ih (fun y hy=>h y (by simp [hy])) (fun y hy=>h16 y (by simp [hy]))
theorem adF(l:List UInt8):(aaa l).data.toList=l:=rfl
theorem adm(xs:List Blk)(r:List ByteArray)(h:bkE xs=0):qS (aaa (yH xs)::r)=some (xs,r):=by
 obtain⟨_,h16⟩:=qt xs h
 have hi:=ami xs h
 have hR:=ald xs hi h16
 rw [qS,adF,hR,aby,hR,h,aaq xs h16]
 simp
theorem acD{α:Type}(f:List ByteArray→Option (α×List ByteArray))(g:α→List ByteArray)(h:α→α)(xs:List α)(r:List ByteArray)(hx: ∀x∈xs,∀r,f (g x++r)=some (h x,r)):qH f xs.length (xs.flatMap g++r)=some (xs.map h,r):=by
 induction xs with
 | nil=>rfl
 | cons x xs ih=>
   rw [List.length_cons,qH,List.flatMap_cons,List.append_assoc,hx x (by simp),Option.bind_some,ih (fun y hy=>hx y (by simp [hy])),Option.bind_some];rfl
theorem ab5{z l:Int}(h:zE z l=true):l≤z∧z≤1099511627776:=by
 simpa [zE]using h
theorem aa5(z:Int)(l:List ByteArray)(h0:0≤z)(h1:z≤1099511627776):rAm (zm z::l)=some (z,l):=aai _ z l h0 h1 (by omega)
theorem aj2(x:Sna)(r:List ByteArray)(h:snB x=true):acg (yM x++r)=some (x.bare,r):=by
 simp only [snB,aad,Bool.and_eq_true,decide_eq_true_eq]at h
 obtain⟨h1,h2,h3,h4,_⟩:=h
 have h1:=ab5 h1
 have e:yM x++r=x.name::zm x.guid::(yU x.own.xs++(zm (x.tags.xs.length:Int)::(x.tags.xs++(aaa (yH x.body.xs)::r)))):=by simp [yM]
 rw [e,acg,rTx,Option.bind_some]
 simp only []
 rw [aa5 _ _ (by omega) h1.2,Option.bind_some]
 simp only []
 rw [aef _ _ h3,Option.bind_some]
 simp only []
 rw [aai 4 _ _ (by omega) (by omega) (by omega),Option.bind_some]
 simp only [Int.toNat_natCast]
 rw [afN,if_neg (by rw [List.length_append];omega),Option.bind_some]
 simp only []
 rw [List.take_left' rfl,List.drop_left' rfl,adm _ _ h2,Option.bind_some];rfl
theorem ak5(sets:List Dst)(x:Dst)(h:seB sets x=true):aeL x.path (yo x)=some x.bare:=by
 simp only [seB,Bool.and_eq_true,decide_eq_true_eq]at h
 obtain⟨_,_,ho,hb,hs,_⟩:=h
 simp only [xF,Bool.and_eq_true,decide_eq_true_eq,List.all_eq_true]at hs
 rw [aeL,yo,rTx,Option.bind_some]
 simp only []
 rw [aef _ _ ho,Option.bind_some]
 simp only []
 rw [adm _ _ hb,Option.bind_some]
 simp only []
 rw [aai 16 _ _ (by omega) (by omega) (by omega),Option.bind_some]
 simp only [Int.toNat_natCast]
 have:=acD acg yM Sna.bare x.snaps.xs [] (fun y hy r=>aj2 y r (hs.2.1 y hy))
 rw [List.append_nil]at this
 rw [this,Option.bind_some];rfl
theorem aks(x:Stg)(h:stB x=true)(ho:x.beg.on=x.beg.own.length)(hs:(sumR x.beg).wf)(hu:x.su.wf):aeY x.into (yl x)=some x.bare:=by
 simp only [stB,Bool.and_eq_true,decide_eq_true_eq,beq_iff_eq,amt]at h
 obtain⟨_,_,hk,hr,hb,h1,h2⟩:=h
 obtain⟨p1,p2,p3⟩:=aon x.beg [] hr hs ho
 rw [List.append_nil]at p1 p2 p3
 obtain⟨s1,s2⟩:=afm x.su hu
 rw [aeY,yl,agS,adF,p1,p2,p3,if_pos ⟨rfl,(aar _).symm⟩,Option.bind_some]
 simp only []
 rw [adm _ _ hb,Option.bind_some]
 simp only []
 rw [aa5 _ _ h1.1 h1.2,Option.bind_some]
 simp only []
 rw [aa5 _ _ h2.1 h2.2,Option.bind_some]
 simp only []
 rw [ahi,adF,s1,s2,if_pos rfl,Option.bind_some]
 simp only []
 cases hd:x.done with
 | false=>
   rw [if_neg (by decide),aai 1 _ _ (by decide) (by decide) (by decide),Option.bind_some]
   simp only []
   rw [abw,if_pos rfl,Option.bind_some,Stg.bare,hd];rfl
 | true=>
   rw [if_pos rfl,aai 1 _ _ (by decide) (by decide) (by decide),Option.bind_some]
   simp only []
   rw [abw,if_pos rfl,Option.bind_some,Stg.bare,hd];rfl
theorem ajN(x:Gra)(r:List ByteArray)(h:qz x=true):adj (xV x++r)=some (x,r):=by
 simp only [qz,Bool.and_eq_true,decide_eq_true_eq]at h
 rw [adj,xV]
 simp only [List.cons_append,List.nil_append,rTx,Option.bind_some]
 rw [aa5 _ _ (by omega) (by omega),Option.bind_some]
theorem af4(x:Lin)(r:List ByteArray)(h:liB x=true):aaN (zR x++r)=some (x,r):=by
 simp only [liB,Bool.and_eq_true]at h
 have h1:=ab5 h.2.2.1
 have h2:=ab5 h.2.2.2
 rw [aaN,zR]
 simp only [List.cons_append,List.nil_append,rTx,Option.bind_some]
 rw [aa5 _ _ h1.1 h1.2,Option.bind_some]
 simp only [rTx,Option.bind_some]
 rw [aa5 _ _ h2.1 h2.2,Option.bind_some]
theorem amu(t:Tnt)(hq:zE t.quota 0=true)(hn:zE t.next 1=true)(hg:grB t.grants.xs=true)(hl:t.log.xs.length≤16)(hl2:t.log.xs.all liB=true):rHd t.name (xK t)=some ⟨t.name,t.quota,t.next,slB [],slB t.grants.xs,slB [],slB t.log.xs⟩:=by
 have hq:=ab5 hq
 have hn:=ab5 hn
 simp only [grB,Bool.and_eq_true,decide_eq_true_eq,List.all_eq_true]at hg hl2
 rw [rHd,xK,aa5 _ _ hq.1 hq.2,Option.bind_some]
 simp only []
 rw [aa5 _ _ (by omega) hn.2,Option.bind_some]
 simp only []
 rw [aai 16 _ _ (by omega) (by omega) (by omega),Option.bind_some]
 simp only [Int.toNat_natCast]
 have e1:=acD adj xV id t.grants.xs (zm (t.log.xs.length:Int)::t.log.xs.flatMap zR) (fun y hy r=>ajN y r (hg.2.1 y hy))
 rw [List.map_id]at e1
 rw [e1,Option.bind_some]
 simp only []
 rw [aai 16 _ _ (by omega) (by omega) (by omega),Option.bind_some]
 simp only [Int.toNat_natCast]
 have e2:=acD aaN zR id t.log.xs [] (fun y hy r=>af4 y r (hl2 y hy))
 rw [List.map_id,List.append_nil]at e2
 rw [e2,Option.bind_some];rfl
theorem aah{a b:ByteArray}(h:a.data.toList=b.data.toList):a=b:=by
 obtain⟨⟨a⟩⟩:=a
 obtain⟨⟨b⟩⟩:=b
 cases h;rfl
theorem yT(a b:ByteArray):(a++b).data.toList=a.data.toList++b.data.toList:=by simp
theorem aiL(n:ByteArray):zJ [kT,n]=pT n:=by
 refine aah ?_
 rw [pT,yT,zJ]
 simp [Go.Lib.join,kT]
theorem aiF(n p:ByteArray):zJ [kS,n,p]=pS n++p:=by
 refine aah ?_
 rw [pS,yT,yT,yT,zJ]
 simp [Go.Lib.join,kS]
theorem agz(n p:ByteArray):zJ [kG,n,p]=pG n++p:=by
 refine aah ?_
 rw [pG,yT,yT,yT,zJ]
 simp [Go.Lib.join,kG]
theorem agI(p s:ByteArray):xO (p++s) p=(s,true):=by
 have h1:(p++s).extract 0 p.size=p:=by
  refine aah ?_
  simp [ByteArray.data_extract]
  exact List.take_of_length_le (Nat.le_of_eq Array.length_toList)
 have h2:(p++s).extract p.size (p++s).size=s:=by
  refine aah ?_
  simp [ByteArray.data_extract]
  rw [show List.drop p.size p.data.toList= []from List.drop_eq_nil_of_le (Nat.le_of_eq Array.length_toList),show List.take s.size s.data.toList=s.data.toList from List.take_of_length_le (Nat.le_of_eq Array.length_toList)]
  simp
 have h3:zK (p++s) p=true:=by
  rw [zK,h1,ByteArray.size_append]
  simp
 rw [xO,if_pos h3,h2]
theorem anC(n s:ByteArray):(xO (pG n++s) (pS n)).2=false:=by
 have h:zK (pG n++s) (pS n)=false:=by
  cases hq:zK (pG n++s) (pS n)with
  | false=>rfl
  | true=>
    rw [zK,Bool.and_eq_true,beq_iff_eq]at hq
    have h1:=hq.2
    rw [ByteArray.toList_eq,ByteArray.toList_eq]at h1
    have e1:(pS n).data.toList=115::47::(n.data.toList++ [47]):=by rw [pS,yT,yT];rfl
    have e2:(pG n++s).data.toList=103::47::(n.data.toList++ [47]++s.data.toList):=by rw [pG,yT,yT,yT];rfl
    have e3:(pS n).size=n.size+2+1:=by rw [pS,ByteArray.size_append,ByteArray.size_append,Nat.add_comm _ n.size];rfl
    have e4:((pG n++s).extract 0 (pS n).size).data.toList=(pG n++s).data.toList.take (pS n).size:=by
     simp [ByteArray.data_extract]
     exact List.take_append.symm
    rw [e4,e1,e2,e3,List.take_succ_cons]at h1
    cases h1
 rw [xO,h];rfl
theorem ajq(name:ByteArray)(ss:List Dst)(gs:List Stg)(all:List Dst)(hs: ∀x∈ss,seB all x=true)(hg: ∀x∈gs,stB x=true∧x.beg.on=x.beg.own.length∧(sumR x.beg).wf∧x.su.wf)(hw: ∀x∈ss,wE (yo x)=0)(hv: ∀x∈gs,wE (yl x)=0)
 (q nx:Int) (ss0:List Dst) (gr:List Gra) (lg:List Lin):
 aaD name ⟨name,q,nx,slB (ss0.map Dst.bare),slB gr,slB [],slB lg⟩ ((ss.map (fun s=>(zJ [kS,name,s.path],yo s))++gs.map (fun s=>(zJ [kG,name,s.into],yl s))).map aaM)=some ⟨name,q,nx,slB ((ss0++ss).map Dst.bare),slB gr,slB (gs.map Stg.bare),slB lg⟩:=by
 induction ss generalizing ss0 with
 | nil=>
   suffices∀(gs:List Stg) (g0:List Stg),(∀x∈gs,stB x=true∧x.beg.on=x.beg.own.length∧(sumR x.beg).wf∧x.su.wf)→(∀x∈gs,wE (yl x)=0)→aaD name ⟨name,q,nx,slB (ss0.map Dst.bare),slB gr,slB (g0.map Stg.bare),slB lg⟩ ((gs.map (fun s=>(zJ [kG,name,s.into],yl s))).map aaM)=some ⟨name,q,nx,slB (ss0.map Dst.bare),slB gr,slB ((g0++gs).map Stg.bare),slB lg⟩by
    have:=this gs [] hg hv
    simpa using this
   intro gs
   induction gs with
   | nil=>intro g0 _ _;simp [aaD]
   | cons x gs ih=>
     intro g0 hg hv
     obtain⟨a1,a2,a3,a4⟩:=hg x (by simp)
     have hw:=hv x (by simp)
     rw [List.map_cons,List.map_cons,aaD,aft,aaM]
     simp only []
     have hc:=anC name x.into
     rw [←agz]at hc
     rw [afR,hc,Bool.false_and,cond_false,agz,agI]
     simp only [cond_true]
     rw [aaS,adb _ hw,if_pos rfl]
     simp only []
     rw [aks x a1 a2 a3 a4,Option.bind_some,Option.bind_some]
     have:=ih (g0++ [x]) (fun y hy=>hg y (by simp [hy])) (fun y hy=>hv y (by simp [hy]))
     simpa [slB]using this
 | cons x ss ih=>
   have hw1:=hw x (by simp)
   rw [List.map_cons,List.cons_append,List.map_cons,aaD,aft,aaM]
   simp only []
   rw [afR,aiF,agI]
   simp only [slB,List.isEmpty_nil,Bool.and_self,cond_true]
   rw [adi,adb _ hw1,if_pos rfl]
   simp only []
   rw [ak5 all x (hs x (by simp)),Option.bind_some,Option.bind_some]
   have:=ih (fun y hy=>hs y (by simp [hy])) (fun y hy=>hw y (by simp [hy])) (ss0++ [x])
   simpa [slB]using this
theorem ait{l:List ByteArray}(h1:l.length≤1024)(h2: ∀s∈l,s.size≤65536):wE l=0:=(aeo l).2 ⟨h1,h2⟩
theorem alx(t:Tnt)(h:zH t=true)(hg: ∀x∈t.stages.xs,x.beg.on=x.beg.own.length∧(sumR x.beg).wf∧x.su.wf):abR t.name ((qF t).map aaM)=some t.bare:=by
 have h9:=h
 simp only [zH,Bool.and_eq_true,decide_eq_true_eq]at h
 obtain⟨_,hq,hn,hs,hgr,hst,hl,hl2⟩:=h
 simp only [yV,Bool.and_eq_true,List.all_eq_true,decide_eq_true_eq]at hs
 simp only [xM,Bool.and_eq_true,List.all_eq_true,decide_eq_true_eq]at hst
 obtain⟨a1,a2,a3⟩:=afu t hgr hl hl2
 have hw0:=ait (Nat.le_trans a1 (by decide)) (fun s hs=>Nat.le_trans (a3 s hs) (by decide))
 rw [qF,List.map_cons,abR]
 simp only [aaM]
 rw [aiL]
 simp only [↓reduceIte]
 rw [abC,adb _ hw0,if_pos rfl]
 simp only []
 rw [amu t hq hn hgr hl hl2,Option.bind_some]
 have:=ajq t.name t.sets.xs t.stages.xs t.sets.xs hs.2.2.1 (fun x hx=>⟨hst.2.1 x hx,hg x hx⟩) (fun x hx=>by
  obtain⟨b1,_,b3,_⟩:=adQ t.sets.xs x (hs.2.2.1 x hx)
  exact ait (Nat.le_trans b1 (by decide)) (fun s hs=>Nat.le_trans (b3 s hs) (by decide))) (fun x hx=>by
  obtain⟨b1,_,b3,_⟩:=ad4 x (hst.2.1 x hx)
  exact ait (Nat.le_trans b1 (by decide)) (fun s hs=>Nat.le_trans (b3 s hs) (by decide))) t.quota t.next [] t.grants.xs t.log.xs
 simp only [List.map_nil]at this
 rw [this,Option.bind_some]
 have hb:=acB t (fun x hx=>(hg x hx).1)
 rw [h9]at hb
 exact if_pos hb
theorem afK{s:ByteArray}(hE:fE s=0):zm (fV s)=s:=by
 unfold fE at hE
 have h8:s.size=8:=by
  split at hE
  ·cases hE
  ·split at hE
   ·cases hE
   ·omega
 rw [if_neg (by omega),if_neg (by omega)]at hE
 have hl:s.data.toList.length=8:=by rw [zv];exact h8
 have hv:fV s=(val s.data.toList:Int):=by
  rw [fV,if_neg (by omega),if_neg (by omega)]
  unfold yK
  unfold qX at hE
  rw [if_neg (by omega),if_neg (by omega)]at hE ⊢
  split at hE
  ·cases hE
  ·rename_i hn
   rw [if_neg hn]
 rw [hv]
 have hp:=abq s.data.toList
 rw [hl]at hp
 show(⟨(zp (val s.data.toList) 8).toArray⟩:ByteArray)=s
 rw [hp]
theorem xj{m z:Int}{ts r:List ByteArray}(h:rNm m ts=some (z,r)):ts=zm z::r∧0≤z∧z≤m:=by
 cases ts with
 | nil=>cases h
 | cons s l=>
   rw [rNm]at h
   split at h
   ·rename_i h1
    cases h
    rw [afK h1.1]
    exact⟨rfl,(anb s).1,h1.2⟩
   ·cases h
theorem ab8{ts r:List ByteArray}{s:ByteArray}(h:rTx ts=some (s,r)):ts=s::r:=by
 cases ts with
 | nil=>cases h
 | cons a l=>cases h;rfl
theorem agb: ∀l:List ByteArray,l.length % 2=0→zW (prO l)=l
 | [],_=>rfl
 | [a],h=>by simp at h
 | a::b::l,h=>by
   show a::b::zW (prO l)=_
   rw [agb l (by simp only [List.length_cons]at h;omega)]
theorem aeG{ts r:List ByteArray}{xs:List Prp}(h:aac ts=some (xs,r)):ts=yU xs++r:=by
 rw [aac,Option.bind_eq_some_iff]at h
 obtain⟨⟨k,us⟩,h1,h⟩:=h
 obtain⟨rfl,k0,k8⟩:=xj h1
 simp only []at h
 obtain⟨K,rfl⟩: ∃K:Nat,k=(K:Int):=⟨k.toNat,by omega⟩
 rw [Int.toNat_natCast]at h
 split at h
 ·cases h
 ·split at h
  ·rename_i h2 h3
   cases h
   have hl:(us.take (2 * K)).length=2 * K:=by rw [List.length_take];omega
   have e:(prO (us.take (2 * K))).length=K:=by rw [acW,hl];omega
   rw [yU,e,agb _ (by rw [hl];omega),List.cons_append,List.take_append_drop]
  ·cases h
theorem alX(l:List UInt8)(h:18≤l.length):yZ l=acm (l.take 18)::yZ (l.drop 18):=by
 have:=agc (l.take 18) (l.drop 18) (by rw [List.length_take];omega)
 rwa [List.take_append_drop]at this
theorem af5: ∀(n:Nat) (l:List UInt8),l.length=18 * n→yH (yZ l)=l
 | 0,l,h=>by
   have:l= []:=List.eq_nil_of_length_eq_zero (by omega)
   subst this;rfl
 | n+1,l,h=>by
   rw [alX l (by omega),yH,List.flatMap_cons]
   have ih:=af5 n (l.drop 18) (by rw [List.length_drop];omega)
   rw [yH]at ih
   rw [ih]
   have h2:((l.take 18).take 2).length=2:=by simp;omega
   have hp:=abq ((l.take 18).take 2)
   rw [h2]at hp
   have hv:yK ((l.take 18).take 2)=val ((l.take 18).take 2):=by
    have:=abP ((l.take 18).take 2)
    rw [h2]at this
    unfold yK
    rw [h2,if_neg (by omega),if_neg (by omega),if_neg (by omega)]
   rw [acm]
   simp only []
   rw [hv,hp]
   show(l.take 18).take 2++(l.take 18).drop 2++l.drop 18=l
   rw [List.take_append_drop,List.take_append_drop]
theorem adU(s:ByteArray):aaa s.data.toList=s:=by obtain⟨⟨l⟩⟩:=s;rfl
theorem aee{ts r:List ByteArray}{xs:List Blk}(h:qS ts=some (xs,r)):ts=aaa (yH xs)::r:=by
 cases ts with
 | nil=>cases h
 | cons s l=>
   rw [qS]at h
   split at h
   ·rename_i h1
    cases h
    rw [aby,Bool.and_eq_true,decide_eq_true_eq]at h1
    rw [af5 (s.data.toList.length / 18) _ (by omega),adU]
   ·cases h
theorem acn{α:Type}{f:List ByteArray→Option (α×List ByteArray)}{g:α→List ByteArray}(hf: ∀ts x r,f ts=some (x,r)→ts=g x++r): ∀{n:Nat} {ts r:List ByteArray} {xs:List α},qH f n ts=some (xs,r)→ts=xs.flatMap g++r∧xs.length=n
 | 0,ts,r,xs,h=>by cases h;exact⟨rfl,rfl⟩
 | n+1,ts,r,xs,h=>by
   rw [qH,Option.bind_eq_some_iff]at h
   obtain⟨⟨a,us⟩,h1,h⟩:=h
   rw [Option.bind_eq_some_iff]at h
   obtain⟨⟨ys,r'⟩,h2,h⟩:=h
   cases h
   obtain⟨e,hl⟩:=acn hf h2
   have:=hf _ _ _ h1
   dsimp only at e this
   rw [this,e,List.flatMap_cons,List.append_assoc]
   exact⟨rfl,by rw [List.length_cons,hl]⟩
theorem amU{ts r:List ByteArray}{px:Sna}(h:acg ts=some (px,r)):ts=yM px++r:=by
 simp only [acg,Option.bind_eq_some_iff]at h
 obtain⟨⟨nm,u1⟩,h1,⟨gd,u2⟩,h2,⟨ow,u3⟩,h3,⟨k,u4⟩,h4,⟨tg,u5⟩,h5,⟨bd,u6⟩,h6,h⟩:=h
 cases h
 have e1:=ab8 h1
 obtain⟨e2,_⟩:=xj h2
 have e3:=aeG h3
 obtain⟨e4,k0,_⟩:=xj h4
 have e6:=aee h6
 dsimp only at h5 e2 e3 e4 e6
 rw [afN]at h5
 split at h5
 ·cases h5
 ·rename_i h7
  cases h5
  have hk:k=((u4.take k.toNat).length:Int):=by rw [List.length_take];omega
  rw [e1,e2,e3,e4,yM]
  simp only [slB,←hk]
  have e7:u4=u4.take k.toNat++(aaa (yH bd)::u6):=by rw [←e6,List.take_append_drop]
  conv=>lhs;rw [e7]
  simp
theorem aeM{ts:List ByteArray}{p:Unit×List ByteArray}(h:abw ts=some p):ts= []:=by
 rw [abw]at h
 split at h
 ·assumption
 ·cases h
theorem al8{path:ByteArray}{ts:List ByteArray}{px:Dst}(h:aeL path ts=some px):ts=yo px∧px.path=path:=by
 simp only [aeL,Option.bind_eq_some_iff]at h
 obtain⟨⟨og,u1⟩,h1,⟨ow,u2⟩,h2,⟨bd,u3⟩,h3,⟨k,u4⟩,h4,⟨sn,u5⟩,h5,⟨_,u6⟩,h6,h⟩:=h
 cases h
 have e1:=ab8 h1
 have e2:=aeG h2
 have e3:=aee h3
 obtain⟨e4,k0,_⟩:=xj h4
 obtain⟨e5,hl⟩:=acn (fun _ _ _=>amU) h5
 have e6:=aeM h6
 dsimp only at e2 e3 e4 e5 e6 hl
 subst e6
 have hk:k=(sn.length:Int):=by omega
 refine⟨?_,rfl⟩
 rw [e1,e2,e3,e4,e5,yo]
 simp only [slB,←hk,List.append_nil]
theorem amI{ts r:List ByteArray}{x:Gra}(h:adj ts=some (x,r)):ts=xV x++r:=by
 simp only [adj,Option.bind_eq_some_iff]at h
 obtain⟨⟨a,u1⟩,h1,⟨b,u2⟩,h2,⟨c,u3⟩,h3,h⟩:=h
 cases h
 have e1:=ab8 h1
 have e2:=ab8 h2
 have e3:=(xj h3).1
 dsimp only at e2 e3
 rw [e1,e2,e3];rfl
theorem ahc{ts r:List ByteArray}{x:Lin}(h:aaN ts=some (x,r)):ts=zR x++r:=by
 simp only [aaN,Option.bind_eq_some_iff]at h
 obtain⟨⟨a,u1⟩,h1,⟨b,u2⟩,h2,⟨c,u3⟩,h3,⟨d,u4⟩,h4,h⟩:=h
 cases h
 have e1:=ab8 h1
 have e2:=(xj h2).1
 have e3:=ab8 h3
 have e4:=(xj h4).1
 dsimp only at e2 e3 e4
 rw [e1,e2,e3,e4];rfl
theorem anX{name:ByteArray}{ts:List ByteArray}{px:Tnt}(h:rHd name ts=some px):ts=xK px∧px.name=name∧px.sets=slB []∧px.stages=slB []∧px.grants=slB px.grants.xs∧px.log=slB px.log.xs:=by
 simp only [rHd,Option.bind_eq_some_iff]at h
 obtain⟨⟨q,u1⟩,h1,⟨nx,u2⟩,h2,⟨k,u3⟩,h3,⟨gr,u4⟩,h4,⟨m,u5⟩,h5,⟨lg,u6⟩,h6,⟨_,u7⟩,h7,h⟩:=h
 cases h
 have e1:=(xj h1).1
 have e2:=(xj h2).1
 obtain⟨e3,k0,_⟩:=xj h3
 obtain⟨e4,hl4⟩:=acn (fun _ _ _=>amI) h4
 obtain⟨e5,m0,_⟩:=xj h5
 obtain⟨e6,hl6⟩:=acn (fun _ _ _=>ahc) h6
 have e7:=aeM h7
 dsimp only at e2 e3 e4 e5 e6 e7 hl4 hl6
 subst e7
 have hk:k=(gr.length:Int):=by omega
 have hm:m=(lg.length:Int):=by omega
 refine⟨?_,rfl,rfl,rfl,rfl,rfl⟩
 rw [e1,e2,e3,e4,e5,e6,xK]
 simp only [slB,←hk,←hm,List.append_nil]
theorem af6: ∀(l:List ByteArray),(z6 l).2=true→zW (z6 l).1=l
 | [],_=>rfl
 | [s],h=>by cases h
 | s::v::r,h=>by
   show s::v::zW (z6 r).1=_
   rw [af6 r h]
theorem ajV(ts:List ByteArray)(h:yN 1 ts=true):zl (zX 1 ts)=ts:=by
 rw [yN,if_pos rfl,Bool.and_eq_true]at h
 obtain⟨h1,h2⟩:=h
 rw [zl,zX,if_pos rfl]
 simp only [↓reduceIte]
 match ts,h1,h2 with
 | [],h1,_=>simp [stN,stT]at h1
 | [a],h1,_=>simp [stN,stT]at h1
 | [a,b],h1,_=>simp [stN,stT]at h1
 | a::b::c::l,h1,h2=>
   simp only [stN,stT,Bool.true_and,Bool.and_eq_true,beq_iff_eq]at h1 h2 ⊢
   rw [afK h1.1,afK h1.2]
   simp only [h1.1,h1.2]
   simp [af6 l h2]
theorem anK(s:List UInt8)(h:psE s=0)(hm:psM s=s.length)(hk:(psA s).kind=1):yh (psA s)=s:=by
 rw [psM,if_pos h]at hm
 rw [psA,if_pos h]at hk ⊢
 cases s with
 | nil=>cases h
 | cons b r=>
   have h9:=h
   rw [psE]at h
   (try simp only []at h)
   split at h
   ·cases h
   ·rename_i q1
    split at h
    ·cases h
    ·rename_i q2
     split at h
     ·cases h
     ·rename_i q3
      split at h
      ·cases h
      ·rename_i q4
       split at h
       ·cases h
       ·rename_i q5
        have hb:b.toNat=1:=by
         show b.toNat=1
         have:(zX (b.toNat:Int) (rd (psT (b::r))).2).kind=1:=hk
         unfold zX at this
         split at this
         ·omega
         ·split at this
          ·cases this
          ·split at this
           ·cases this
           ·exact absurd this (by assumption)
        simp only [Decidable.not_not,not_or,Bool.not_eq_false]at q4 q5
        rw [show((b.toNat:Nat):Int)=1 by omega]at q4 q5
        have hd:(((b::r).headD 0).toNat:Int)=1:=by show(b.toNat:Int)=1;omega
        rw [hd]
        have hT:=ajV _ q4.2
        obtain⟨w1,w2⟩:=afI (psT (b::r)) (rd (psT (b::r))).2 (by rw [←q4.1])
        have hk1:(zX 1 (rd (psT (b::r))).2).kind=1:=by rw [zX,if_pos rfl]
        rw [yh,if_pos q5,hk1,hT,w2]
        have hl:(psT (b::r)).length=psN (b::r):=by
         rw [psT,List.length_take,List.length_drop];omega
        have hN:psN (b::r)=val (r.take 2):=rfl
        have hr2:(r.take 2).length=2:=by rw [List.length_take];simp only [List.length_cons]at q2;omega
        have hp:=abq (r.take 2)
        rw [hr2,←hN]at hp
        rw [hl,hp]
        have hT2:psT (b::r)=r.drop 2:=by
         rw [psT,List.drop_succ_cons,List.take_of_length_le]
         rw [List.length_drop];simp only [List.length_cons]at hm;omega
        rw [hT2]
        show UInt8.ofNat 1::(r.take 2++r.drop 2)=b::r
        rw [List.take_append_drop]
        congr 1
        exact UInt8.toNat_inj.1 hb.symm
theorem aiX(s:List UInt8)(h:s.length=32):qy (qd s)=s:=by
 rw [qd,if_pos h,qy]
 have hp: ∀k,k < 4→zp (xJ s k) 8=(s.drop (k * 8)).take 8:=fun k hk=>by
  have:=abq ((s.drop (k * 8)).take 8)
  rwa [show((s.drop (k * 8)).take 8).length=8 by rw [List.length_take,List.length_drop];omega]at this
 simp only []
 rw [hp 0 (by decide),hp 1 (by decide),hp 2 (by decide),hp 3 (by decide)]
 have e:s=s.take 8++((s.drop 8).take 8++((s.drop 16).take 8++(s.drop 24))):=by
  rw [show s.drop 24=(s.drop 16).drop 8 by rw [List.drop_drop],List.take_append_drop,show s.drop 16=(s.drop 8).drop 8 by rw [List.drop_drop],List.take_append_drop,List.take_append_drop]
 have e2:(s.drop 24).take 8=s.drop 24:=List.take_of_length_le (by rw [List.length_drop];omega)
 simp only [Nat.zero_mul,List.drop_zero,Nat.one_mul,Nat.reduceMul,e2]
 conv=>rhs;rw [e]
 simp only [List.append_assoc]
theorem amE{into:ByteArray}{ts:List ByteArray}{px:Stg}(h:aeY into ts=some px)(hk:px.beg.kind=1):ts=yl px∧px.into=into:=by
 simp only [aeY,Option.bind_eq_some_iff]at h
 obtain⟨⟨rc,u1⟩,h1,⟨bd,u2⟩,h2,⟨a,u3⟩,h3,⟨x,u4⟩,h4,⟨su,u5⟩,h5,⟨q,u6⟩,h6,⟨_,u7⟩,h7,h⟩:=h
 cases h
 have e2:=aee h2
 have e3:=(xj h3).1
 have e4:=(xj h4).1
 obtain⟨e6,q0,q1⟩:=xj h6
 have e7:=aeM h7
 dsimp only at hk e2 e3 e4 e6 e7 h5
 have e1:ts=aaa (yh rc)::u1:=by
  cases ts with
  | nil=>cases h1
  | cons s l=>
    rw [agS]at h1
    split at h1
    ·rename_i hc
     cases h1
     rw [anK _ hc.1 hc.2 hk,adU]
    ·cases h1
 have e5:u4=aaa (qy su)::u5:=by
  cases u4 with
  | nil=>cases h5
  | cons s l=>
    rw [ahi]at h5
    split at h5
    ·rename_i hc
     cases h5
     unfold acO at hc
     have:s.data.toList.length=32:=by
      split at hc
      ·cases hc
      ·split at hc
       ·cases hc
       ·omega
     rw [aiX _ this,adU]
    ·cases h5
 refine⟨?_,rfl⟩
 rw [e1,e2,e3,e4,e5,e6,e7,yl]
 have hq:q=0∨q=1:=by omega
 rcases hq with rfl | rfl <;> rfl
end Go.Proofs.YtckaneapjpiocaaGreatDoor
