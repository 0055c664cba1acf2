/- The texts Tlw, Plr, Pof, Psr in one file. -/
import Derived.Test.YtckaneapjpiocaaGreatDoorQ35
import Derived.Test.YtckaneapjpiocaaGreatDoorQ36
import Derived.Test.YtckaneapjpiocaaGreatDoorQ37
set_option linter.unusedVariables false
set_option linter.unusedSimpArgs false
set_option maxHeartbeats 8000000
set_option maxRecDepth 100000
namespace Go.Proofs.YtckaneapjpiocaaGreatDoor
open Go.RowKit Go.Maps Go.Sort Go.Shelf
section
variable {α β:Type}
theorem ac3{f:α→β}{xs ys:List α}(h:xs.map f=ys.map f)(k:Nat)(h1:k < xs.length)(h2:k < ys.length):f xs[k]=f ys[k]:=by
 have:=congrArg (fun l=>l[k]?) h
 simpa [List.getElem?_map,List.getElem?_eq_getElem h1,List.getElem?_eq_getElem h2]using this
theorem ac6{f:α→β}{xs ys:List α}(h:xs.map f=ys.map f):xs.length=ys.length:=by
 have:=congrArg List.length h
 simpa using this
theorem abB{xs ys:List α}(h:slB xs=slB ys):xs=ys:=congrArg Sl.xs h
end
theorem akK{w w':World}{lo hi lo' hi':Nat}{x y:Sna}(hx:Sna.At w lo hi x)(hy:Sna.At w' lo' hi' y)(h:x.bare=y.bare):abl x y=true:=by
 obtain⟨n,g,b,t,o⟩:=x
 obtain⟨n',g',b',t',o'⟩:=y
 simp only [Sna.bare,Sna.mk.injEq]at h
 obtain⟨rfl,rfl,h1,h2,h3⟩:=h
 have e1:=abB h1
 have e2:=abB h2
 have e3:=abB h3
 have l1:=hx.tags.len
 have l2:=hy.tags.len
 simp only []at l1 l2 e1 e2 e3
 simp [abl,e1,e2,e3,l1,l2]
theorem alD{w w':World}{lo hi lo' hi':Nat}{x y:Dst}(hx:Dst.At w lo hi x)(hy:Dst.At w' lo' hi' y)(h:x.bare=y.bare):aaU x y=true:=by
 obtain⟨p,o,b,s,r⟩:=x
 obtain⟨p',o',b',s',r'⟩:=y
 simp only [Dst.bare,Dst.mk.injEq]at h
 obtain⟨rfl,rfl,h1,h2,h3⟩:=h
 have e1:=abB h1
 have e2:=abB h2
 have e3:=abB h3
 have l1:=hx.snaps.len
 have l2:=hy.snaps.len
 have l3:=ac6 e2
 simp only []at l1 l2 l3 e1 e2 e3
 have hz:abE s.xs s'.xs=true:=by
  refine adX _ _ l3 fun k k1 k2=>?_
  exact akK (hx.snaps.all _ (List.getElem_mem k1)) (hy.snaps.all _ (List.getElem_mem k2)) (ac3 e2 k k1 k2)
 simp [aaU,e1,e3,l1,l2,l3,hz]
theorem afY{w w':World}{lo hi lo' hi':Nat}{x y:Tnt}(hx:Tnt.At w lo hi x)(hy:Tnt.At w' lo' hi' y)(h:x.bare=y.bare):agD x y=true:=by
 obtain⟨n,q,nx,s,g,a,l⟩:=x
 obtain⟨n',q',nx',s',g',a',l'⟩:=y
 simp only [Tnt.bare,Tnt.mk.injEq]at h
 obtain⟨rfl,rfl,rfl,h1,h2,h3,h4⟩:=h
 have e1:=abB h1
 have e2:=abB h2
 have e3:=abB h3
 have e4:=abB h4
 have l1:=hx.sets.len
 have l2:=hy.sets.len
 have l3:=ac6 e1
 have l4:=hx.stages.len
 have l5:=hy.stages.len
 have l6:=ac6 e3
 simp only []at l1 l2 l3 l4 l5 l6 e1 e2 e3 e4
 have hz:aaW aaU s.xs s'.xs=true:=acf _ _ _ l3 fun k k1 k2=>alD (hx.sets.all _ (List.getElem_mem k1)) (hy.sets.all _ (List.getElem_mem k2)) (ac3 e1 k k1 k2)
 have hz2:aaW qV a.xs a'.xs=true:=acf _ _ _ l6 fun k k1 k2=>ajG _ _ (ac3 e3 k k1 k2)
 simp [agD,e2,e4,l1,l2,l3,l4,l5,l6,hz,hz2]
theorem akJ{w:World}{lo hi:Nat}{t:Tnt}(h:Tnt.At w lo hi t): ∀x∈t.stages.xs,x.beg.on=x.beg.own.length∧(sumR x.beg).wf∧x.su.wf:=fun x hx=>by
 have:=h.stages.all x hx
 exact⟨this.beg.own,this.begS,this.su⟩
abbrev KD:=ByteArray×List UInt8
theorem akt(a b:ByteArray):lessB a b=true↔a.toList < b.toList:=by rw [lessB,Go.Proofs.bytesLess_eq,decide_eq_true_eq]
theorem ajB(a b:ByteArray):lessB a b=false↔b.toList≤a.toList:=by rw [lessB,Go.Proofs.bytesLess_eq,decide_eq_false_iff_not,List.not_lt]
theorem ag9{a b c:ByteArray}(h1:lessB a b=true)(h2:lessB b c=true):lessB a c=true:=by
 rw [akt]at *
 exact List.lt_trans h1 h2
theorem afh(a:ByteArray):lessB a a=false:=(ajB a a).2 (List.le_refl _)
theorem apd{a b:ByteArray}(h:lessB b a=false)(hn:a≠b):lessB a b=true:=by
 rw [ajB]at h
 rw [akt]
 refine Std.lt_of_le_of_ne h fun e=>hn (aah ?_)
 rwa [ByteArray.toList_eq,ByteArray.toList_eq]at e
def ltK(x y:KD):Prop:=lessB x.1 y.1=true
theorem ael{xs ys:List KD}(hp:xs.Perm ys)(hx:xs.Pairwise ltK)(hy:ys.Pairwise ltK):xs=ys:=
 List.Perm.eq_of_pairwise (fun a b _ _ h1 h2=>by
  have:=ag9 h1 h2
  rw [afh]at this
  cases this) hx hy hp
theorem aaX{l:List ByteArray}(h:yR l=true):l.Pairwise fun a b=>lessB a b=true:=by
 rw [yR,List.all_eq_true]at h
 have h1: ∀k (hk:k+1 < l.length),lessB l[k] l[k+1]=true:=fun k hk=>by
  have:=h k (List.mem_range.2 (by omega))
  simpa [List.getD,List.getElem?_eq_getElem hk,List.getElem?_eq_getElem (show k < l.length by omega)]using this
 rw [List.pairwise_iff_getElem]
 intro i j hi hj hij
 induction j with
 | zero=>omega
 | succ j ih=>
   by_cases hq:i=j
   ·subst hq;exact h1 i hj
   ·exact ag9 (ih (by omega) (by omega)) (h1 j hj)
theorem amf{l:List ByteArray}(h:l.Pairwise fun a b=>lessB a b=true):yR l=true:=
 aa1 l fun k hk=>(List.pairwise_iff_getElem.1 h) k (k+1) (by omega) hk (by omega)
theorem ak8: ∀c a b:List UInt8,Op.bytesLess (c++a) (c++b)=Op.bytesLess a b
 | [],a,b=>rfl
 | x::c,a,b=>by
   rw [List.cons_append,List.cons_append,Op.bytesLess,ak8 c a b]
   simp [UInt8.lt_irrefl]
theorem adx(p a b:ByteArray):lessB (p++a) (p++b)=lessB a b:=by
 rw [lessB,lessB,ByteArray.toList_eq,ByteArray.toList_eq,ByteArray.toList_eq,ByteArray.toList_eq,yT,yT,ak8]
theorem adw(s p:ByteArray):zK s p=true↔p.data.toList <+:s.data.toList:=by
 have e:(s.extract 0 p.size).toList=s.data.toList.take p.data.toList.length:=by
  rw [ByteArray.toList_eq]
  simp [ByteArray.data_extract]
 rw [zK,Bool.and_eq_true,beq_iff_eq,decide_eq_true_eq,e,ByteArray.toList_eq]
 constructor
 ·rintro⟨_,h⟩
  exact List.prefix_iff_eq_take.2 h.symm
 ·intro h
  refine⟨?_,(List.prefix_iff_eq_take.1 h).symm⟩
  have:=h.length_le
  simpa using this
theorem ajo: ∀{n m a b:List UInt8},47∉n→47∉m→n++47::a=m++47::b→n=m∧a=b
 | [], [],a,b,_,_,h=>by
   simp at h
   exact⟨rfl,h⟩
 | [],y::m,a,b,_,hm,h=>by
   simp at h
   exact absurd (by simp [←h.1]) hm
 | x::n, [],a,b,hn,_,h=>by
   simp at h
   exact absurd (by simp [h.1]) hn
 | x::n,y::m,a,b,hn,hm,h=>by
   simp only [List.cons_append,List.cons.injEq]at h
   obtain⟨rfl,h⟩:=h
   obtain⟨rfl,rfl⟩:=ajo (fun q=>hn (List.mem_cons_of_mem _ q)) (fun q=>hm (List.mem_cons_of_mem _ q)) h
   exact⟨rfl,rfl⟩
theorem afw{n:ByteArray}(h:zd n=true):(47:UInt8)∉n.data.toList:=fun hm=>by
 simp only [zd,Bool.and_eq_true,Bool.not_eq_true',List.any_eq_false]at h
 exact absurd (show aav 47=true by decide) (h.2 47 hm)
theorem aig(n:ByteArray):(pT n).data.toList=116::47::n.data.toList:=by rw [pT,yT];rfl
theorem aih(n:ByteArray):(pS n).data.toList=115::47::(n.data.toList++ [47]):=by rw [pS,yT,yT];rfl
theorem aip(n:ByteArray):(pG n).data.toList=103::47::(n.data.toList++ [47]):=by rw [pG,yT,yT];rfl
theorem aoJ{s n m:ByteArray}(hn:zd n=true)(hm:zd m=true)(h1:zK s (pS n)=true)(h2:zK s (pS m)=true):n=m:=by
 rw [adw,aih]at h1 h2
 obtain⟨t,ht⟩:=h1
 obtain⟨u,hu⟩:=h2
 rw [←hu]at ht
 simp only [List.cons_append,List.cons.injEq,true_and,List.append_assoc,List.nil_append]at ht
 exact aah (ajo (afw hn) (afw hm) ht).1
theorem aoZ{s n m:ByteArray}(hn:zd n=true)(hm:zd m=true)(h1:zK s (pG n)=true)(h2:zK s (pG m)=true):n=m:=by
 rw [adw,aip]at h1 h2
 obtain⟨t,ht⟩:=h1
 obtain⟨u,hu⟩:=h2
 rw [←hu]at ht
 simp only [List.cons_append,List.cons.injEq,true_and,List.append_assoc,List.nil_append]at ht
 exact aah (ajo (afw hn) (afw hm) ht).1
theorem aoY{n m:ByteArray}(h:pT n=pT m):n=m:=by
 have:=congrArg (fun x:ByteArray=>x.data.toList) h
 simp only [aig,List.cons.injEq,true_and]at this
 exact aah this
theorem aie{s p:ByteArray}{c:UInt8}{l:List UInt8}(hp:p.data.toList=c::l)(h:zK s p=true):s.data.toList.head?=some c:=by
 rw [adw,hp]at h
 obtain⟨t,ht⟩:=h
 rw [←ht];rfl
theorem hdS{s n:ByteArray}(h:zK s (pS n)=true):s.data.toList.head?=some 115:=aie (aih n) h
theorem hdG{s n:ByteArray}(h:zK s (pG n)=true):s.data.toList.head?=some 103:=aie (aip n) h
theorem hdT{s n:ByteArray}(h:s=pT n):s.data.toList.head?=some 116:=by rw [h,aig];rfl
theorem xU(p s:ByteArray):zK (p++s) p=true:=by
 rw [adw,yT]
 exact List.prefix_append ..
def isT(n:ByteArray)(x:KD):Bool:=x.1.toList == (pT n).toList
def isS(n:ByteArray)(x:KD):Bool:=zK x.1 (pS n)
def isG(n:ByteArray)(x:KD):Bool:=!zK x.1 (pS n) && zK x.1 (pG n)
theorem ac4(n:ByteArray)(x:KD):isT n x=true↔x.1=pT n:=by
 rw [isT,beq_iff_eq,ByteArray.toList_eq,ByteArray.toList_eq]
 exact⟨aah,fun h=>by rw [h]⟩
def ofP(xs:List KD)(n:ByteArray):List KD:=xs.filter (isT n)++(xs.filter (isS n)++xs.filter (isG n))
def inK(n:ByteArray)(x:KD):Bool:=isT n x || (isS n x || isG n x)
theorem agN{n:ByteArray}{x:KD}(h:inK n x=true):x.1.data.toList.head?=some 116∧x.1=pT n∨x.1.data.toList.head?=some 115∧zK x.1 (pS n)=true∨x.1.data.toList.head?=some 103∧zK x.1 (pG n)=true:=by
 simp only [inK,Bool.or_eq_true,isS,isG,Bool.and_eq_true]at h
 rcases h with h | h | ⟨_,h⟩
 ·have:=(ac4 n x).1 h
  exact .inl ⟨hdT this,this⟩
 ·exact .inr (.inl ⟨hdS h,h⟩)
 ·exact .inr (.inr ⟨hdG h,h⟩)
theorem afQ{n m:ByteArray}{x:KD}(hn:zd n=true)(hm:zd m=true)(h1:inK n x=true)(h2:inK m x=true):n=m:=by
 rcases agN h1 with⟨a,h1⟩ | ⟨a,h1⟩ | ⟨a,h1⟩ <;> rcases agN h2 with⟨b,h2⟩ | ⟨b,h2⟩ | ⟨b,h2⟩
 ·exact aoY (h1.symm.trans h2)
 ·rw [a]at b;cases b
 ·rw [a]at b;cases b
 ·rw [a]at b;cases b
 ·exact aoJ hn hm h1 h2
 ·rw [a]at b;cases b
 ·rw [a]at b;cases b
 ·rw [a]at b;cases b
 ·exact aoZ hn hm h1 h2
theorem agw{n:ByteArray}{x:KD}(h:x.1=kP):inK n x=false:=by
 cases hq:inK n x with
 | false=>rfl
 | true=>
   have e:x.1.data.toList.head?=some 112:=by rw [h];rfl
   rcases agN hq with⟨a,_⟩ | ⟨a,_⟩ | ⟨a,_⟩ <;> (rw [e]at a;cases a)
theorem ac7{α:Type}(p q:α→Bool): ∀(l:List α),(∀x∈l,p x=true→q x=false)→(l.filter fun x=>p x || q x).Perm (l.filter p++l.filter q)
 | [],_=> .refl _
 | x::l,h=>by
   have ih:=ac7 p q l fun y hy=>h y (List.mem_cons_of_mem _ hy)
   cases hp:p x with
   | true=>
     have hq:=h x (List.mem_cons_self ..) hp
     simp only [List.filter_cons,hp,hq,Bool.or_false,if_true,List.cons_append]
     exact .cons _ (by simpa using ih)
   | false=>
     cases hq:q x with
     | false=>simpa [List.filter_cons,hp,hq]using ih
     | true=>
       simp only [List.filter_cons,hp,hq,Bool.or_true,if_true,Bool.false_eq_true,if_false]
       exact(List.Perm.cons _ (by simpa using ih)).trans List.perm_middle.symm
theorem ah2(xs:List KD)(n:ByteArray):(ofP xs n).Perm (xs.filter (inK n)):=by
 have h1:(xs.filter (inK n)).Perm (xs.filter (isT n)++xs.filter fun x=>isS n x || isG n x):=ac7 _ _ xs fun x _ h=>by
  have h:=hdT ((ac4 n x).1 h)
  cases hs:(isS n x || isG n x)with
  | false=>rfl
  | true=>
    simp only [isS,isG,Bool.or_eq_true,Bool.and_eq_true]at hs
    rcases hs with hs | ⟨_,hs⟩
    ·have:=hdS hs
     rw [h]at this;cases this
    ·have:=hdG hs
     rw [h]at this;cases this
 have h2:(xs.filter fun x=>isS n x || isG n x).Perm (xs.filter (isS n)++xs.filter (isG n)):=ac7 _ _ xs fun x _ h=>by
  have h:zK x.1 (pS n)=true:=h
  simp [isG,h]
 exact(h1.trans (.append_left _ h2)).symm
abbrev qP(t:Tnt):List KD:=(qF t).map aaM
theorem abv(t:Tnt):qP t=(pT t.name,zu (xK t))::(t.sets.xs.map (fun s=>(pS t.name++s.path,zu (yo s)))++t.stages.xs.map (fun s=>(pG t.name++s.into,zu (yl s)))):=by
 rw [qP,qF,List.map_cons,List.map_append,List.map_map,List.map_map]
 simp only [aaM,aiL]
 congr 2
 ·exact List.map_congr_left fun s _=>by simp [aaM,aiF]
 ·exact List.map_congr_left fun s _=>by simp [aaM,agz]
theorem acU{t:Tnt}{x:KD}(h:x∈qP t):inK t.name x=true:=by
 rw [abv,List.mem_cons,List.mem_append,List.mem_map,List.mem_map]at h
 rcases h with rfl | ⟨s,_,rfl⟩ | ⟨s,_,rfl⟩
 ·simp [inK,isT]
 ·simp [inK,isS,xU]
 ·have h1:zK (pG t.name++s.into) (pG t.name)=true:=xU _ _
  have h2:zK (pG t.name++s.into) (pS t.name)=false:=by
   cases hq:zK (pG t.name++s.into) (pS t.name)with
   | false=>rfl
   | true=>
     have a:=hdS hq
     rw [hdG h1]at a;cases a
  simp [inK,isG,h1,h2]
theorem aoA(t:Tnt):(qP t).filter (isT t.name)= [(pT t.name,zu (xK t))]:=by
 rw [abv,List.filter_cons,if_pos ((ac4 ..).2 rfl),List.filter_append,List.filter_map,List.filter_map]
 have e1:t.sets.xs.filter ((isT t.name)∘fun s=>(pS t.name++s.path,zu (yo s)))= []:=List.filter_eq_nil_iff.2 fun s _ h=>by
  have h:=hdT ((ac4 ..).1 h)
  rw [hdS (xU (pS t.name) s.path)]at h;cases h
 have e2:t.stages.xs.filter ((isT t.name)∘fun s=>(pG t.name++s.into,zu (yl s)))= []:=List.filter_eq_nil_iff.2 fun s _ h=>by
  have h:=hdT ((ac4 ..).1 h)
  rw [hdG (xU (pG t.name) s.into)]at h;cases h
 rw [e1,e2];rfl
theorem aoT(t:Tnt):(qP t).filter (isS t.name)=t.sets.xs.map (fun s=>(pS t.name++s.path,zu (yo s))):=by
 rw [abv,List.filter_cons,if_neg (fun h=>by
  have h:=hdS (show zK (pT t.name) (pS t.name)=true from h)
  rw [hdT rfl]at h;cases h),List.filter_append,List.filter_map,List.filter_map]
 have e1:t.sets.xs.filter ((isS t.name)∘fun s=>(pS t.name++s.path,zu (yo s)))=t.sets.xs:=List.filter_eq_self.2 fun s _=>xU _ _
 have e2:t.stages.xs.filter ((isS t.name)∘fun s=>(pG t.name++s.into,zu (yl s)))= []:=List.filter_eq_nil_iff.2 fun s _ h=>by
  have h:=hdS (show zK (pG t.name++s.into) (pS t.name)=true from h)
  rw [hdG (xU (pG t.name) s.into)]at h;cases h
 rw [e1,e2,List.map_nil,List.append_nil]
theorem ao0(t:Tnt):(qP t).filter (isG t.name)=t.stages.xs.map (fun s=>(pG t.name++s.into,zu (yl s))):=by
 have no: ∀k:ByteArray,k.data.toList.head?≠some 103→ ∀d,¬isG t.name (k,d)=true:=fun k hk d h=>by
  rw [isG,Bool.and_eq_true]at h
  exact hk (hdG h.2)
 rw [abv,List.filter_cons,if_neg (no _ (by rw [hdT rfl];decide) _),List.filter_append,List.filter_map,List.filter_map]
 have e1:t.sets.xs.filter ((isG t.name)∘fun s=>(pS t.name++s.path,zu (yo s)))= []:=List.filter_eq_nil_iff.2 fun s _ h=>no _ (by rw [hdS (xU (pS t.name) s.path)];decide) _ h
 have e2:t.stages.xs.filter ((isG t.name)∘fun s=>(pG t.name++s.into,zu (yl s)))=t.stages.xs:=List.filter_eq_self.2 fun s _=>by
  have h1:zK (pG t.name++s.into) (pG t.name)=true:=xU _ _
  have h2:zK (pG t.name++s.into) (pS t.name)=false:=by
   cases hq:zK (pG t.name++s.into) (pS t.name)with
   | false=>rfl
   | true=>
     have a:=hdS hq
     rw [hdG h1]at a;cases a
  simp [isG,h1,h2]
 rw [e1,e2,List.map_nil,List.nil_append]
def qQ(p:Pol):List KD:=(kP,zu (yY p))::p.ten.xs.flatMap qP
theorem agV{β:Type}(A:Tnt→List β)(P:Tnt→List β): ∀(l:List Tnt) (t:Tnt),(l.map Tnt.name).Nodup→t∈l→(∀x∈l,P x=if x.name=t.name then A x else [])→l.flatMap P=A t
 | [],t,_,h,_=>by cases h
 | y::l,t,hd,h,hP=>by
   rw [List.map_cons,List.nodup_cons]at hd
   rw [List.flatMap_cons,hP y (List.mem_cons_self ..)]
   rcases List.mem_cons.1 h with rfl | h
   ·rw [if_pos rfl,List.flatMap_eq_nil_iff.2 (fun x hx=>by
     rw [hP x (List.mem_cons_of_mem _ hx),if_neg (fun e=>hd.1 (by rw [←e];exact List.mem_map_of_mem hx))]),List.append_nil]
   ·rw [if_neg (fun e=>hd.1 (by rw [e];exact List.mem_map_of_mem h)),List.nil_append]
    exact agV A P l t hd.2 h fun x hx=>hP x (List.mem_cons_of_mem _ hx)
theorem ac9{p:Pol}{t:Tnt}(hnm: ∀x∈p.ten.xs,zd x.name=true)(hd:(p.ten.xs.map Tnt.name).Nodup)(ht:t∈p.ten.xs)(f:KD→Bool)(hf: ∀x,f x=true→inK t.name x=true):(qQ p).filter f=(qP t).filter f:=by
 have h0:f (kP,zu (yY p))=false:=by
  cases hq:f (kP,zu (yY p))with
  | false=>rfl
  | true=>
    have:=hf _ hq
    rw [agw rfl]at this;cases this
 rw [qQ,List.filter_cons,if_neg (by rw [h0];decide),List.filter_flatMap]
 refine agV (fun x=>(qP x).filter f) _ p.ten.xs t hd ht fun x hx=>?_
 by_cases e:x.name=t.name
 ·rw [if_pos e]
 ·rw [if_neg e]
  exact List.filter_eq_nil_iff.2 fun y hy h=>e (afQ (hnm x hx) (hnm t ht) (acU hy) (hf y h))
theorem aow{n:ByteArray}{x:KD}(h:isT n x=true):inK n x=true:=by simp [inK,h]
theorem aoD{n:ByteArray}{x:KD}(h:isS n x=true):inK n x=true:=by simp [inK,h]
theorem aoR{n:ByteArray}{x:KD}(h:isG n x=true):inK n x=true:=by simp [inK,h]
theorem aoQ{p:Pol}{t:Tnt}{xs:List KD}(hnm: ∀x∈p.ten.xs,zH x=true)(hd:(p.ten.xs.map Tnt.name).Nodup)(ht:t∈p.ten.xs)(hp:xs.Perm (qQ p))(hs:xs.Pairwise ltK):ofP xs t.name=qP t:=by
 have hN: ∀x∈p.ten.xs,zd x.name=true:=fun x hx=>by
  have:=hnm x hx
  simp only [zH,Bool.and_eq_true]at this
  exact this.1
 have hT:=hnm t ht
 simp only [zH,yV,xM,Bool.and_eq_true]at hT
 have r1:(t.sets.xs.map Dst.path).Pairwise fun a b=>lessB a b=true:=aaX hT.2.2.2.1.2.2.2
 have r2:(t.stages.xs.map Stg.into).Pairwise fun a b=>lessB a b=true:=aaX hT.2.2.2.2.2.1.2.2
 have e1:xs.filter (isT t.name)= [(pT t.name,zu (xK t))]:=by
  refine ael ((hp.filter _).trans ?_) (hs.filter _) (List.pairwise_singleton ..)
  rw [ac9 hN hd ht _ fun x h=>aow h,aoA]
 have e2:xs.filter (isS t.name)=t.sets.xs.map (fun s=>(pS t.name++s.path,zu (yo s))):=by
  refine ael ((hp.filter _).trans ?_) (hs.filter _) ?_
  ·rw [ac9 hN hd ht _ fun x h=>aoD h,aoT]
  ·rw [List.pairwise_map]at r1 ⊢
   exact r1.imp fun {a b} h=>by
    show lessB (pS t.name++a.path) (pS t.name++b.path)=true
    rw [adx];exact h
 have e3:xs.filter (isG t.name)=t.stages.xs.map (fun s=>(pG t.name++s.into,zu (yl s))):=by
  refine ael ((hp.filter _).trans ?_) (hs.filter _) ?_
  ·rw [ac9 hN hd ht _ fun x h=>aoR h,ao0]
  ·rw [List.pairwise_map]at r2 ⊢
   exact r2.imp fun {a b} h=>by
    show lessB (pG t.name++a.into) (pG t.name++b.into)=true
    rw [adx];exact h
 rw [ofP,e1,e2,e3,abv];rfl
theorem akk{p:Pol}(hnm: ∀x∈p.ten.xs,zH x=true)(hd:(p.ten.xs.map Tnt.name).Nodup):(qQ p).Pairwise fun x y=>x.1≠y.1:=by
 have hN: ∀x∈p.ten.xs,zd x.name=true:=fun x hx=>by
  have:=hnm x hx
  simp only [zH,Bool.and_eq_true]at this
  exact this.1
 rw [qQ,List.pairwise_cons,List.pairwise_flatMap]
 refine⟨fun y hy e=>?_,fun t ht=>?_,?_⟩
 ·obtain⟨t,ht,hy⟩:=List.mem_flatMap.1 hy
  have:=acU hy
  rw [agw e.symm]at this;cases this
 ·have hT:=hnm t ht
  simp only [zH,yV,xM,Bool.and_eq_true]at hT
  have r1:(t.sets.xs.map Dst.path).Pairwise fun a b=>lessB a b=true:=aaX hT.2.2.2.1.2.2.2
  have r2:(t.stages.xs.map Stg.into).Pairwise fun a b=>lessB a b=true:=aaX hT.2.2.2.2.2.1.2.2
  rw [abv,List.pairwise_cons,List.pairwise_append]
  refine⟨fun y hy e=>?_,?_,?_,fun x hx y hy e=>?_⟩
  ·have e:y.1.data.toList.head?=some 116:=hdT e.symm
   rcases List.mem_append.1 hy with hy | hy <;> obtain⟨s,_,rfl⟩:=List.mem_map.1 hy
   ·rw [hdS (xU (pS t.name) s.path)]at e;cases e
   ·rw [hdG (xU (pG t.name) s.into)]at e;cases e
  ·rw [List.pairwise_map]at r1 ⊢
   exact r1.imp fun {a b} h e=>by
    have h2:lessB (pS t.name++a.path) (pS t.name++b.path)=true:=by rw [adx];exact h
    rw [show pS t.name++a.path=pS t.name++b.path from e,afh]at h2;cases h2
  ·rw [List.pairwise_map]at r2 ⊢
   exact r2.imp fun {a b} h e=>by
    have h2:lessB (pG t.name++a.into) (pG t.name++b.into)=true:=by rw [adx];exact h
    rw [show pG t.name++a.into=pG t.name++b.into from e,afh]at h2;cases h2
  ·obtain⟨s,_,rfl⟩:=List.mem_map.1 hx
   obtain⟨u,_,rfl⟩:=List.mem_map.1 hy
   have a:=hdS (xU (pS t.name) s.path)
   rw [show pS t.name++s.path=pG t.name++u.into from e,hdG (xU (pG t.name) u.into)]at a;cases a
 ·refine(List.pairwise_iff_getElem).2 fun i j hi hj hij x hx y hy e=>?_
  have h1:=acU hx
  have h2:=acU hy
  have h3:inK p.ten.xs[i].name y=true:=by
   rw [inK,isT,isS,isG]at h1 ⊢
   rwa [e]at h1
  have h4:=afQ (hN _ (List.getElem_mem hi)) (hN _ (List.getElem_mem hj)) h3 h2
  have h5:=(List.pairwise_iff_getElem.1 hd) i j (by rw [List.length_map];exact hi) (by rw [List.length_map];exact hj) hij
  rw [List.getElem_map,List.getElem_map]at h5
  exact h5 h4
theorem ahW{xs ys:List KD}(hp:xs.Perm ys)(hy:ys.Pairwise fun x y=>x.1≠y.1)(hs:xs.Pairwise fun x y=>lessB y.1 x.1=false):xs.Pairwise ltK:=by
 have hx:xs.Pairwise fun x y=>x.1≠y.1:=(List.Perm.pairwise_iff (fun h e=>h e.symm) hp).2 hy
 rw [List.pairwise_iff_getElem]at *
 exact fun i j hi hj hij=>apd (hs i j hi hj hij) (hx i j hi hj hij)
abbrev sos(xs:List (Sl Ob)):List Value:=xs.map Sl.val
def apj(w:World)(x:Sl Ob):Prop:=x.n=x.xs.length∧Rd w 0 w.heap.size x.A (obC x.xs)
theorem afg{α:Type}(f:α→Bool)(xs:List α)(k:Nat)(h:k < xs.length):(xs.take (k+1)).filter f=(xs.take k).filter f++(bif f xs[k]then [xs[k]]else []):=by
 rw [ad3 f xs k h]
 cases f xs[k] <;> rfl
def yO(xs:List (Sl Ob)):List Ob:=xs.flatMap Sl.xs
theorem acz(xs:List (Sl Ob))(k:Nat)(h:k < xs.length):yO (xs.take (k+1))=yO (xs.take k)++xs[k].xs:=by
 rw [List.take_succ_eq_append_getElem h,yO,List.flatMap_append];simp [yO]
theorem afO(xs:List (Sl Ob))(k:Nat):(yO (xs.take k)).length≤(yO xs).length:=by
 have:yO xs=yO (xs.take k)++yO (xs.drop k):=by rw [yO,yO,yO,←List.flatMap_append,List.take_append_drop]
 rw [this,List.length_append];omega
theorem ajZ{w:World}{lo h:Nat}{A:Option Addr}{xs:List (Sl Ob)}(hr:Rd w lo h A (sos xs)){k:Nat}(hk:k < xs.length):
 ∃b o,A=some ⟨b,o,none⟩∧w.cell? ⟨b,o+k,none⟩=some (.slice xs[k].A xs[k].n xs[k].c):=by
 obtain⟨b,o,h1,h2,h3,h4⟩:=hr (fun e=>by
  have:(sos xs).length=xs.length:=by simp [sos]
  rw [e]at this;simp at this;omega)
 exact⟨b,o,h1,h4 k _ (by simp [sos,List.getElem?_eq_getElem hk,Sl.val])⟩
theorem aiT(w:World)(m:Nat)(hm:m≤1000000000):
 Calls Tryz.prog 175 #[.slice none 0 0,.int .i64 m] w fun e w'=> ∃v,e= .returned v∧w'.ownsRow w.heap.size 56 3 v 0 []∧Ext w w':=by
 obtain⟨i0,hi0,hz0,hz1,hz2⟩:=info_parts aco
 rcases Nat.eq_zero_or_pos m with h0 | h0
 ·subst h0
  rw [show((0:Nat):Int)=0 from rfl]
  go_enter Tryz.func175,Tryz.ntmps175
  go_wp2_with fail
  go_ret
  exact⟨_,rfl,World.ownsRow_nil _ _ _ _,Ext.refl _⟩
 ·have hrun: ∀ty,(Builtin.append_ #[33,3] ty #[.slice none 0 0,.int .i64 (m:Int)]).run Tryz.prog w=_:=fun ty=>
   Lib.run_append_nil_zeros (P:=Tryz.prog) w 33 3 ty 56 i0 _ .i64 .i64 Tryz.underlying33 Tryz.underlying3 hi0 hz0 m h0 (by rw [hz1];omega) (by omega) (by rw [hz2];omega)
  have hG1:m≤grownCap w m 0 56:=grownCap_ge w _ _ _
  have hG2:grownCap w m 0 56≤maxLen:=grownCap_le_maxLen w m 0 56 (by simp only [maxLen];omega)
  generalize grownCap w m 0 56=G at *
  obtain⟨ROW,hROW⟩: ∃ROW:Array Value,ROW=Builtin.zeroCells (Value.agg #[.string .empty,.slice none 0 0,.slice none 0 0]).cells m++Builtin.zeroCells (Value.agg #[.string .empty,.slice none 0 0,.slice none 0 0]).cells (G - m):=⟨_,rfl⟩
  rw [←hROW]at hrun
  have hsz:ROW.size=G * 3:=by
   have h3:(Value.agg #[.string .empty,.slice none 0 0,.slice none 0 0]).cells.size=3:=rfl
   rw [hROW]
   simp only [Builtin.zeroCells,Array.size_append,Array.size_map,Array.size_range,h3]
   omega
  obtain⟨w1,hw1⟩: ∃w1,w1=w.drew.alloc (.cells ROW 56):=⟨_,rfl⟩
  rw [←hw1]at hrun
  have hown:w1.ownsRow w.heap.size 56 3 (.slice (some ⟨w.heap.size,0,none⟩) 0 G) 0 []:=by
   rw [hw1]
   exact⟨rfl,.inr ⟨w.heap.size,G,ROW,rfl,Nat.le_refl _,heap_alloc_new w.drew _,Nat.zero_le _,hG2,by omega,by simp⟩⟩
  have e1:Ext w w1:=by rw [hw1];exact((Ext.refl w).drew).alloc _
  have HOwn:=hiD hown
  have HRun:=hiD hrun
  have hmp:(0:Int) < m:=by omega
  simp only [maxLen]at hG2
  clear hw1 hROW hsz hrun hown
  go_enter Tryz.func175,Tryz.ntmps175
  go_wp2_with (at_builtin;refine Lib.wpList_append_run _ rfl (.tmp 20) (.tmp 21) _ _ rfl _ _ rfl rfl _ _ (HRun.out _) ?_)
  go_ret
  exact⟨_,rfl,HOwn.out,e1⟩
theorem ahn(w:World)(A:Option Addr)(n c:Nat)(xs:List (Sl Ob))(hn:n=xs.length)(hr:Rd w 0 w.heap.size A (sos xs))(hok: ∀x∈xs,apj w x)(hN:n≤1000000000)(hT:(yO xs).length≤1000000000):
 Calls Tryz.prog 133 #[.slice A n c] w fun e w'=> ∃v,e= .returned v∧w'.ownsRow w.heap.size 56 3 v (yO xs).length (obC (yO xs))∧Ext w w':=by
 obtain⟨i0,hi0,hz0,hz1,hz2⟩:=info_parts aco
 have Hn:=hiD hn
 have HR:=hiD hr
 have HO:=hiD hok
 have HT:=hiD hT
 clear hn hr hok
 go_enter Tryz.func133,Tryz.ntmps133
 go_wp2_with fail
 go_loop [3,11] (fun s i=> ∃k:Nat,k≤n∧i= .int .i64 (k:Int)∧s= .int .i64 ((yO (xs.take k)).length:Int)) (fun _ i=>n - (intOf i).toNat)
 case atStart=>exact⟨0,Nat.zero_le _,rfl,rfl⟩
 case round=>
  obtain⟨k,hk,rfl,rfl⟩:=hrel
  have hle:=afO xs k
  by_cases hlt:k < n
  ·have hl:k < xs.length:=by rw [←Hn.out];exact hlt
   obtain⟨b1,o1,rfl,f0⟩:=ajZ HR.out hl
   have HU:=hiD (acz xs k hl)
   have hle2:=afO xs (k+1)
   have hx:=(HO.out _ (List.getElem_mem hl)).1
   have hlen:(yO (xs.take (k+1))).length=(yO (xs.take k)).length+xs[k].n:=by rw [acz xs k hl,List.length_append,hx]
   generalize xs[k].A=xA at *
   generalize xs[k].c=xc at *
   generalize xs[k].n=xn at *
   generalize (yO (xs.take k)).length=q at *
   have HL:=hiD hlen
   have hq:q+xn≤1000000000:=by have:=HT.out;omega
   clear hx hlen hle hle2
   go_wp2_with fail
   go_round
   case rel=>exact⟨k+1,by omega,by go_num,by rw [HL.out];go_num⟩
   case measure=>simp [intOf];omega
  ·obtain rfl:k=n:=by omega
   have hall:(yO (xs.take k)).length=(yO xs).length:=by rw [List.take_of_length_le (by rw [←Hn.out];exact Nat.le_refl _)]
   rw [hall]
   clear hall hle hlt
   generalize hm:(yO xs).length=m at *
   have HM:=hiD hm
   clear hm
   go_wp2_with fail
   refine(aiT w m hT).mono ?_
   rintro e w2 ⟨v2,rfl,hown2,e2⟩
   have HOwn2:=hiD hown2
   clear hown2
   go_wp2_with fail
   go_loopw [6,27] (fun v i wr=> ∃j:Nat,j≤k∧i= .int .i64 (j:Int)∧Hid (wr.ownsRow w.heap.size 56 3 v (yO (xs.take j)).length (obC (yO (xs.take j))))∧Ext w wr) (fun _ i _=>k - (intOf i).toNat)
   case atStart=>exact⟨0,Nat.zero_le _,rfl,HOwn2,e2⟩
   case round=>
    clear HOwn2 e2
    obtain⟨j,hj,rfl,hown,e1⟩:=hrel
    by_cases hlt:j < k
    ·have hl:j < xs.length:=by rw [←Hn.out];exact hlt
     obtain⟨b1,o1,rfl,f0⟩:=ajZ (HR.out.at e1 (Nat.le_refl _)) hl
     have HU:=hiD (acz xs j hl)
     have hle2:=afO xs (j+1)
     have hx:=HO.out _ (List.getElem_mem hl)
     have hlen:(yO (xs.take (j+1))).length=(yO (xs.take j)).length+xs[j].n:=by rw [acz xs j hl,List.length_append,hx.1]
     have HX:=hiD hx
     have HL:=hiD hlen
     have hq:(yO (xs.take j)).length+xs[j].n≤1000000000:=by have:=HM.out;omega
     clear hx hlen hle2
     generalize xs[j]=x at *
     obtain⟨xA,xn,xc,xl⟩:=x
     dsimp only at f0 HU HX HL hq
     go_wp2_with
      (at_builtin
       refine qR _ rfl (.tmp 31) (.tmp 32) _ rfl 56 i0 _ 3 64 Tryz.underlying33 hi0 hz0 hz1 hz2 rfl (by omega) w.heap.size _ _ _ rfl hown.out 0 _ xA xn xc (obC xl) rfl (by rw [acZ];exact congrArg (· * 3) HX.out.1.symm) (Rd.at HX.out.2 e1 (Nat.le_refl _)) (aij _) (by simp only [maxLen];omega) (by omega) e1.size ?_
       intro v3 w3 hown3 he3 _ _
       have e3:Ext w w3:=he3 _ e1 (Nat.le_refl _)
       have HOwn3:=hiD hown3
       clear he3 hown3)
     go_roundw
     case rel=>exact⟨j+1,by omega,by go_num,hiD (by rw [HL.out,HU.out,abZ];exact HOwn3.out),e3⟩
     case measure=>simp [intOf];omega
    ·obtain rfl:j=k:=by omega
     have hall:yO (xs.take j)=yO xs:=by rw [List.take_of_length_le (by rw [←Hn.out];exact Nat.le_refl _)]
     have HAll:=hiD hall
     clear hall
     go_wp2_with fail
     go_ret
     refine⟨_,rfl,?_,e1⟩
     have:=hown.out
     rw [HAll.out]at this
     rw [HM.out]at this
     rw [HM.out]
     exact this
def ofO(os:List Ob)(n:ByteArray):List Ob:=os.filter (fun x=>isT n (okd x))++(os.filter (fun x=>isS n (okd x))++os.filter (fun x=>isG n (okd x)))
theorem aik(os:List Ob)(n:ByteArray):(ofO os n).map okd=ofP (os.map okd) n:=by
 simp [ofO,ofP,List.filter_map,Function.comp_def]
theorem aoj{os:List Ob}{n:ByteArray}{x:Ob}(h:x∈ofO os n):x∈os:=by
 simp only [ofO,List.mem_append,List.mem_filter]at h
 rcases h with h | h | h <;> exact h.1
theorem aif(os:List Ob)(n:ByteArray):(ofO os n).length≤os.length:=by
 have h1:=(ah2 (os.map okd) n).length_eq
 have h2:=List.length_filter_le (inK n) (os.map okd)
 rw [←aik,List.length_map]at h1
 rw [List.length_map]at h2
 omega
theorem anN(W:World)(p:Nat)(n:ByteArray)(hp:W.cell? ⟨p,0,none⟩=some (.string n))(x:Ob)(hn:n.size≤1048576):
 Calls Tryz.prog 131 (#[.agg x.cells.toArray]++ #[.pointer (some ⟨p,0,none⟩)]) W fun e w'=>e= .returned (.bool (!isT n (okd x)))∧Ext W w':=by
 have hbp:p < W.heap.size:=World.block_lt_of_cell? W _ hp
 have HV:=hiD (show isT n (okd x)=(x.key.toList == (({ data:= #[116,47] }:ByteArray)++n).toList)from rfl)
 generalize isT n (okd x)=V at *
 obtain⟨key,⟨dA,dn,dc,dx⟩,⟨lA,ln,lc,lx⟩⟩:=x
 simp only [Ob.cells,Sl.val,List.append_toArray,List.cons_append,List.nil_append]
 dsimp only at HV
 have hz:(({ data:= #[116,47] }:ByteArray)++n).size=2+n.size:=by rw [ByteArray.size_append];rfl
 have hb1: ¬9223372036854775807 < 2+n.size:=by omega
 go_enter Tryz.func131,Tryz.ntmps131
 go_wp2_with fail
 generalize hw1:World.alloc W _=w1;obtain⟨ew1,zw1,Gw1⟩:=aat hw1;have gw1_0:=Gw1 0 _ rfl;have gw1_1:=Gw1 1 _ rfl;have gw1_2:=Gw1 2 _ rfl;have Zw1:=hiD zw1;clear zw1 hw1 Gw1
 have g0:=gw1_0 w1 (Ext.refl _)
 have hp1:w1.cell? ⟨p,0,none⟩=some (.string n):=(Below.cell ew1 hbp).trans hp
 have E1:=hiD ew1
 clear gw1_0 gw1_1 gw1_2 Zw1 hp ew1 hbp
 go_wp2_with fail
 go_ret
 exact⟨by rw [HV.out];rfl,E1.out⟩
theorem afX(w:World)(s p:ByteArray)(hs:s.size≤1000000000)(hp:p.size≤1000000000):
 Calls Tryz.prog 132 #[.string s,.string p] w fun e w'=>e= .returned (.bool (zK s p))∧w'=w:=by
 have HH:=hiD (agX w s p hs hp)
 go_enter Tryz.func132,Tryz.ntmps132
 go_wp2_with fail
 refine HH.out.mono ?_
 rintro e w1 ⟨rfl,rfl⟩
 go_wp2_with fail
 go_ret
 exact⟨rfl,rfl⟩
def OfO(w:World)(os:List Ob)(e:Ending)(w':World):Prop:= ∃A c,e= .returned (.slice A os.length c)∧w'.ownsRow w.heap.size 56 3 (.slice A os.length c) os.length (obC os)∧Ext w w'
theorem ao1(w:World)(s:Sl Ob)(name:ByteArray)(h:Sl.At w 0 w.heap.size Ob.cells (Ob.At w 0 w.heap.size) s)(hN:s.n≤1048576)(hns:name.size≤65536)(hk: ∀x∈s.xs,x.key.size≤1048576):
 Calls Tryz.prog 70 #[s.val,.string name] w (OfO w (ofO s.xs name)):=by
 obtain⟨i0,hi0,hz0,hz1,hz2⟩:=info_parts aco
 have HA:=hiD h
 have HK:=hiD hk
 obtain⟨A,n,c,os⟩:=s
 have Hn:=hiD (show n=os.length from HA.out.len)
 have HOf:=hiD (aif os name)
 dsimp only at hN HK
 have HO:=hiD (show ofO os name=os.filter (fun x=>isT name (okd x))++(os.filter (fun x=>isS name (okd x))++os.filter (fun x=>isG name (okd x)))from rfl)
 generalize ofO os name=R at *
 simp only [Sl.val]
 clear h hk
 have HR:=hiD HA.out.rd
 have HCl:=hiD (fun W (hW:Ext w W)=>ai8 W A n c os Hn.out (Rd.at HR.out hW (Nat.le_refl _)) (by omega))
 go_enter Tryz.func70,Tryz.ntmps70
 go_upto_region 1 with fail
 generalize hwH:World.alloc w _=w1;have HH:=hiD (Heap.one hwH);clear hwH
 obtain⟨b,hb⟩: ∃b,b=w.heap.size:=⟨_,rfl⟩
 rw [←hb]at HH ⊢
 clear hb
 go_upto_region 2 with fail
 go_wp2_with fail
 refine(HCl.out _ HH.out.ext).mono ?_
 rintro e w2 ⟨v,rfl,hown,e2⟩
 clear HCl
 obtain⟨vA,vc,rfl,p1,p2,_⟩:=zr hown
 have H2:=hiD (HH.out.later e2)
 have HDel:=hiD (amy 131 #[.pointer (some ⟨b,0,none⟩)] (fun x=>!isT name (okd x)) w2 vA n vc w1.heap.size w2.heap.size os Hn.out p1 (by simpa [maxLen]using p2) (by omega) (Wr.of_own hown) (Nat.le_refl _) e2.size (fun _ _=>by kernel_rfl) (fun W hW x hx=>by
  have hc:=(HH.out.boxAt 0 rfl).cell 0 _ rfl
  have hlt:b < w1.heap.size:=World.block_lt_of_cell? w1 _ hc
  exact anN W b name ((hW.cell hlt).trans ((Below.cell e2 hlt).trans hc)) x (by omega)))
 have E2:=hiD e2
 clear hown e2 p1 p2
 go_wp2_with fail
 refine HDel.out.mono ?_
 rintro e w3 ⟨dA,dc,rfl,d1,d2,d3,d4⟩
 clear HDel H2
 have e3:Ext w1 w3:=Below.trans E2.out d4
 have hfe:(os.filter fun x=>!!isT name (okd x))=os.filter (fun x=>isT name (okd x)):=by simp
 simp only [Bool.not_not]at d1 d3 ⊢
 have hle:=List.length_filter_le (fun x=>isT name (okd x)) os
 generalize os.filter (fun x=>isT name (okd x))=o1 at *
 have H3:=hiD (((HH.out.addRd e3 d3 (Nat.le_refl _)).row0 (e:=56) (size:=3)).row0 (e:=56) (size:=3))
 have HD:=hiD d2
 clear HH E2 d3 d4 e3 hfe d2
 have hol:o1.length≤n:=by rw [Hn.out];exact hle
 clear hle
 go_wp2_with fail
 go_loopw [5,6,16] (fun s g i wr=> ∃k:Nat,k≤n∧i= .int .i64 (k:Int)∧ ∃(l1 l2:List Ob) (sA gA:Option Addr) (sc gc:Nat),s= .slice sA l1.length sc∧g= .slice gA l2.length gc∧l1.length≤k∧l2.length≤k∧Hid (l1=(os.take k).filter (fun x=>isS name (okd x))∧l2=(os.take k).filter (fun x=>isG name (okd x)))∧Hid (Heap w [.row 56 3 (.slice sA l1.length sc) l1.length (obC l1),.row 56 3 (.slice gA l2.length gc) l2.length (obC l2),.rd dA (obC o1),.box b [.string name]] wr)) (fun _ _ i _=>n - (intOf i).toNat)
 case atStart=>exact⟨0,Nat.zero_le _,rfl, [], [],none,none,0,0,rfl,rfl,Nat.le_refl _,Nat.le_refl _,hiD ⟨rfl,rfl⟩,H3⟩
 case round=>
  clear H3
  obtain⟨k,hk,rfl,l1,l2,sA,gA,sc,gc,rfl,rfl,q1,q2,HL,HH⟩:=hrel
  by_cases hlt:k < n
  ·have hkk:(k:Int) < (n:Int):=by omega
   have hl:k < os.length:=by rw [←Hn.out];exact hlt
   obtain⟨b2,o2,rfl,hb2,f0,f1,f2⟩:=aaJ HR.out hl
   have HT1:=hiD (afg (fun x=>isS name (okd x)) os k hl)
   have HT2:=hiD (afg (fun x=>isG name (okd x)) os k hl)
   have hks:os[k].key.size≤1048576:=HK.out _ (List.getElem_mem hl)
   generalize os[k]=x at *
   obtain⟨key,⟨xA,xn,xc,xx⟩,⟨lA,ln,lc,lx⟩⟩:=x
   simp only [Sl.val,okd,isS,isG]at f1 f2 HT1 HT2
   dsimp only at f0 hks
   have hz:(pS name).size=2+name.size+1:=by simp only [pS,ByteArray.size_append];rfl
   have hz2:(pG name).size=2+name.size+1:=by simp only [pG,ByteArray.size_append];rfl
   have HPs:=hiD (fun W=>afX W key (pS name) (by omega) (by omega))
   have HPg:=hiD (fun W=>afX W key (pG name) (by omega) (by omega))
   have e0:wr.cell? ⟨b2,o2+k * 3,none⟩=some (.string key):=(Below.cell (p:=⟨b2,o2+k * 3,none⟩) HH.out.ext hb2).trans f0
   have e1:wr.cell? ⟨b2,o2+k * 3+1,none⟩=some (.slice xA xn xc):=(Below.cell (p:=⟨b2,o2+k * 3+1,none⟩) HH.out.ext hb2).trans f1
   have e2:wr.cell? ⟨b2,o2+k * 3+2,none⟩=some (.slice lA ln lc):=(Below.cell (p:=⟨b2,o2+k * 3+2,none⟩) HH.out.ext hb2).trans f2
   have hb1: ¬9223372036854775807 < 2+name.size:=by omega
   have hb3: ¬9223372036854775807 < 2+name.size+1:=by omega
   have hy1:(({ data:= #[115,47] }:ByteArray)++name).size=2+name.size:=by rw [ByteArray.size_append];rfl
   have hy2:(({ data:= #[103,47] }:ByteArray)++name).size=2+name.size:=by rw [ByteArray.size_append];rfl
   clear f0 f1 f2 hb2 hz hz2
   go_upto_region 6 with(refine sSX (hiD (HH.out.alloc _ _)) yr 0 ?_;clear HH;intro wS HH)
   obtain⟨xb,hxb⟩: ∃b,b=wr.heap.size:=⟨_,rfl⟩
   rw [←hxb]at HH ⊢
   clear hxb e0 e1 e2
   go_wp2_with (first | (refine l1X HH 0 ?_) | (refine l1X HH 4 ?_))
   refine(HPs.out _).mono ?_
   rintro e wN ⟨rfl,rfl⟩
   clear HPs
   cases hs:zK key (pS name)with
   | true=>
     rw [hs]at HT1 HT2
     clear hs HPg
     go_wp2_with (first | (refine lSX HH yr 0 ?_) | (at_builtin;refine qk (e:=56) (size:=3) (bytes:=64) (news:= [.string key,.slice xA xn xc,.slice lA ln lc]) (lo:=0) (.tmp 27) (.tmp 29) _ rfl rfl Tryz.underlying33 hi0 hz0 hz1 hz2 rfl (by omega) (HH.out.alloc _ _) 2 rfl rfl (m:=1) rfl rfl ((HH.out.alloc _ _).boxRd 0 rfl).m0 (by simp [Value.oneCell']) (by simp only [maxLen];omega) (by omega) ?_;intro v7 w7 hh7 h7;obtain⟨A7,c7,rfl⟩:=h7))
     have H7:=hiD hh7.tail.tail
     clear hh7 HH
     go_roundw
     case rel=>
      have g1:l1++ [⟨key,⟨xA,xn,xc,xx⟩,⟨lA,ln,lc,lx⟩⟩]=(os.take (k+1)).filter (fun x=>zK x.key (pS name)):=by rw [HT1.out,HL.out.1];rfl
      have g2:l2=(os.take (k+1)).filter (fun x=>!zK x.key (pS name) && zK x.key (pG name)):=by rw [HT2.out,HL.out.2];simp [okd,isG]
      exact⟨k+1,by omega,by go_num,l1++ [⟨key,⟨xA,xn,xc,xx⟩,⟨lA,ln,lc,lx⟩⟩],l2,A7,gA,c7,gc,by rw [List.length_append];rfl,rfl,by rw [List.length_append];simp;omega,by omega,hiD ⟨g1,g2⟩,hiD (by rw [List.length_append,abZ];exact H7.out)⟩
     case measure=>simp [intOf];omega
   | false=>
     rw [hs]at HT1 HT2
     go_wp2_with (first | (refine l1X HH 0 ?_) | (refine l1X HH 4 ?_))
     refine(HPg.out _).mono ?_
     rintro e wN ⟨rfl,rfl⟩
     clear HPg
     cases hg:zK key (pG name)with
     | true=>
       rw [hg]at HT2
       clear hs hg
       go_wp2_with (first | (refine lSX HH yr 0 ?_) | (at_builtin;refine qk (e:=56) (size:=3) (bytes:=64) (news:= [.string key,.slice xA xn xc,.slice lA ln lc]) (lo:=0) (.tmp 38) (.tmp 40) _ rfl rfl Tryz.underlying33 hi0 hz0 hz1 hz2 rfl (by omega) (HH.out.alloc _ _) 3 rfl rfl (m:=1) rfl rfl ((HH.out.alloc _ _).boxRd 0 rfl).m0 (by simp [Value.oneCell']) (by simp only [maxLen];omega) (by omega) ?_;intro v7 w7 hh7 h7;obtain⟨A7,c7,rfl⟩:=h7))
       have H7:=hiD hh7.tail.tail
       clear hh7 HH
       go_roundw
       case rel=>
        have g1:l1=(os.take (k+1)).filter (fun x=>zK x.key (pS name)):=by rw [HT1.out,HL.out.1];simp [okd,isS]
        have g2:l2++ [⟨key,⟨xA,xn,xc,xx⟩,⟨lA,ln,lc,lx⟩⟩]=(os.take (k+1)).filter (fun x=>!zK x.key (pS name) && zK x.key (pG name)):=by rw [HT2.out,HL.out.2];simp [okd,isG]
        exact⟨k+1,by omega,by go_num,l1,l2++ [⟨key,⟨xA,xn,xc,xx⟩,⟨lA,ln,lc,lx⟩⟩],sA,A7,sc,c7,rfl,by rw [List.length_append];rfl,by omega,by rw [List.length_append];simp;omega,hiD ⟨g1,g2⟩,hiD (by rw [List.length_append,abZ];exact H7.out)⟩
       case measure=>simp [intOf];omega
     | false=>
       rw [hg]at HT2
       clear hs hg
       go_wp2_with fail
       replace HH:=hiD HH.out.tail
       go_roundw
       case rel=>
        have g1:l1=(os.take (k+1)).filter (fun x=>zK x.key (pS name)):=by rw [HT1.out,HL.out.1];simp [okd,isS]
        have g2:l2=(os.take (k+1)).filter (fun x=>!zK x.key (pS name) && zK x.key (pG name)):=by rw [HT2.out,HL.out.2];simp [okd,isG]
        exact⟨k+1,by omega,by go_num,l1,l2,sA,gA,sc,gc,rfl,rfl,by omega,by omega,hiD ⟨g1,g2⟩,HH⟩
       case measure=>simp [intOf];omega
  ·obtain rfl:k=n:=by omega
   have hT:os.take k=os:=List.take_of_length_le (by rw [←Hn.out];exact Nat.le_refl _)
   have hL:=HL.out
   rw [hT]at hL
   rw [←hL.1,←hL.2]at HO
   have HCc:=hiD (fun W (H:Heap w [.box wr.heap.size [.slice dA o1.length dc,.slice sA l1.length sc,.slice gA l2.length gc],.row 56 3 (.slice sA l1.length sc) l1.length (obC l1),.row 56 3 (.slice gA l2.length gc) l2.length (obC l2),.rd dA (obC o1),.box b [.string name]] W)=>
    ahn W (some ⟨wr.heap.size,0,none⟩) 3 3 [⟨dA,o1.length,dc,o1⟩,⟨sA,l1.length,sc,l1⟩,⟨gA,l2.length,gc,l2⟩] rfl (H.boxRd 0 rfl).m0 (fun x hx=>by
     simp only [List.mem_cons,List.not_mem_nil,or_false]at hx
     rcases hx with rfl | rfl | rfl
     ·exact⟨rfl,(H.rdAt 3 rfl).m0⟩
     ·exact⟨rfl,(H.rowRd 1 rfl).m0⟩
     ·exact⟨rfl,(H.rowRd 2 rfl).m0⟩) (by omega) (by simp only [yO,List.flatMap_cons,List.flatMap_nil,List.length_append,List.length_nil];omega))
   clear HL hL hT HOf HK HA HR hlt
   go_wp2_with fail
   generalize hwA:World.alloc _ _=w5
   have H5:=hiD (HH.out.allocE hwA)
   clear hwA
   refine(HCc.out _ H5.out).mono ?_
   rintro e w6 ⟨v6,rfl,hown6,e6⟩
   have hR:yO [⟨dA,o1.length,dc,o1⟩,⟨sA,l1.length,sc,l1⟩,⟨gA,l2.length,gc,l2⟩]=R:=by rw [HO.out];simp [yO]
   rw [hR]at hown6
   obtain⟨A6,c6,rfl,_,_,_⟩:=zr hown6
   have HW:=hiD hown6
   have E6:=hiD (H5.out.ext.trans e6)
   have E5:=hiD H5.out.ext.size
   clear hown6 e6 hR HCc
   go_wp2_with fail
   go_ret
   exact⟨_,_,rfl,xw HW.out E5.out,E6.out⟩
theorem aab(w:World)(q:Int):Calls Tryz.prog 67 #[.bool true,.int .i64 q] w fun e w'=>e= .returned (.tuple #[])∧w'=w:=by
 go_enter Tryz.func67,Tryz.ntmps67
 go_wp2_with fail
 go_end0
 exact⟨rfl,rfl⟩
theorem yQ(w:World)(q:Int):Calls Tryz.prog 67 #[.bool false,.int .i64 q] w fun e w'=>e=aao q∧w'=w:=by
 go_enter Tryz.func67,Tryz.ntmps67
 go_wp2_with fail
 exact⟨rfl,rfl,rfl⟩
theorem afS{w0 w:World}{b:Nat}{its:List It}{L:RdL}(HR:RS w0 b its L [] w):
 Calls Tryz.prog 127 #[.pointer (some ⟨b,0,none⟩)] w fun e w'=>e=aao 21∧Heap w0 its w':=by
 obtain⟨A,c,S,L',h1,h2,h3,h4,h5,h6,H⟩:=HR
 have HH:=hiD H
 clear H h1 h2 h3 h4 h5 h6
 go_enter Tryz.func127,Tryz.ntmps127
 go_wp2_with (refine l1X HH 0 ?_)
 refine(yQ _ 21).mono ?_
 rintro e w1 ⟨rfl,rfl⟩
 exact⟨rfl,rfl,HH.out.tail.tail⟩
theorem agF{w0 w:World}{b:Nat}{its:List It}{L:RdL}{s:ByteArray}{ts:List ByteArray}(HR:RS w0 b its L (s::ts) w):
 Calls Tryz.prog 127 #[.pointer (some ⟨b,0,none⟩)] w fun e w'=>e= .returned (.string s)∧RS w0 b its L ts w':=by
 obtain⟨i0,hi0,hz0,hz1,hz2⟩:=info_parts abd
 obtain⟨A,c,S,L',h1,h2,h3,h4,h5,h6,H⟩:=HR
 have HH:=hiD H
 have HO:=hiD (fun(w':World) (A':Option Addr) (hA:A'=zy A c 1 1) (H':Heap w0 (.box b [.slice A' ts.length (c - 1)]::It.bag S L'::its) w')=>show RS w0 b its L ts w' by
  subst hA
  have H2:=H'.bagMore (j:=1) rfl (L2:= [(zy A c 1 1,strV ts)]) (fun q hq ok hok=>by
   obtain rfl:=List.mem_singleton.1 hq
   have:=(hok _ h2).from_ (n:=(s::ts).length) (c:=c) (k:=1) (by simp [strV]) (by simp) h3
   simpa [strV]using this)
  refine⟨_,c - 1,S,_,fun q hq=>List.mem_append_right _ (h1 q hq),List.mem_cons_self ..,?_,?_,fun s hs=>h5 s (List.mem_cons_of_mem _ hs),?_,H2⟩
  ·rw [List.length_cons]at h3;omega
  ·omega
  ·rw [List.length_cons]at h6;omega)
 have hb:=H.bagRd (j:=1) rfl h2
 obtain⟨b1,o1,rfl,_,_,hcl⟩:=hb (by simp [strV])
 have hc0:w.cell? ⟨b1,o1,none⟩=some (.string s):=hcl 0 _ rfl
 have hlen:(s::ts).length=ts.length+1:=rfl
 rw [hlen]at HH h3 h6
 have hsl: ∀W,(Instr.slice 109 (.slice (some ⟨b1,o1,none⟩) (ts.length+1) c) (some (.int .i64 1)) none none).run Tryz.prog W= .ok (.slice (zy (some ⟨b1,o1,none⟩) c 1 1) ts.length (c - 1)) W:=fun W=>yC W 109 9 i0 1 Tryz.underlying109 hi0 hz1 (some ⟨b1,o1,none⟩) (ts.length+1) c 1 _ rfl (by omega)
 have hd:decide ((0:Int) < ((ts.length+1:Nat):Int))=true:=by simp
 clear hcl hlen H h1 h2 hb
 generalize ts.length=n at *
 go_enter Tryz.func127,Tryz.ntmps127
 go_wp2_with (refine l1X HH 0 ?_)
 refine(aab _ 21).mono ?_
 rintro e w1 ⟨rfl,rfl⟩
 go_wp2_with (first | (refine l1X HH 0 ?_) | (refine s1X HH 0 ?_;clear HH;intro wS HH))
 go_ret
 exact⟨rfl,HO.out _ _ rfl HH.out⟩
theorem al0{w0 w:World}{b:Nat}{its:List It}{L:RdL}{ts:List ByteArray}(HR:RS w0 b its L ts w)(m:Int):
 Calls Tryz.prog 126 #[.pointer (some ⟨b,0,none⟩),.int .i64 m] w fun e w'=>match rNm m ts with
  | none=>e=aao 21∧Heap w0 its w'
  | some (v,ts')=>e= .returned (.int .i64 v)∧RS w0 b its L ts' w':=by
 cases ts with
 | nil=>
   simp only [rNm]
   have HT:=hiD (afS HR)
   clear HR
   go_enter Tryz.func126,Tryz.ntmps126
   go_wp2_with fail
   refine HT.out.mono ?_
   rintro e w1 ⟨rfl,h1⟩
   exact⟨rfl,rfl,h1⟩
 | cons s ts=>
   have HT:=hiD (agF HR)
   have hs:s.size≤65536:=by
    obtain⟨A,c,S,L',_,_,_,_,h5,_⟩:=HR
    exact h5 s (List.mem_cons_self ..)
   have HF:=hiD (fun W=>acL s W (by omega))
   clear HR hs
   simp only [rNm]
   by_cases hE:fE s=0
   ·by_cases hV:fV s≤m
    ·rw [if_pos ⟨hE,hV⟩]
     rw [hE]at HF
     generalize fV s=v at *
     clear hE
     have hd:decide (v≤m)=true:=by simpa using hV
     go_enter Tryz.func126,Tryz.ntmps126
     go_wp2_with fail
     refine HT.out.mono ?_
     rintro e w1 ⟨rfl,h1⟩
     have H1:=hiD h1
     clear h1
     go_wp2_with fail
     refine(HF.out _).mono ?_
     rintro e w2 ⟨rfl,e2⟩
     go_wp2_with fail
     refine(aab _ 21).mono ?_
     rintro e w3 ⟨rfl,rfl⟩
     go_wp2_with fail
     go_ret
     exact⟨rfl,H1.out.later e2⟩
    ·rw [if_neg (fun h=>hV h.2)]
     rw [hE]at HF
     generalize fV s=v at *
     clear hE
     have hd:decide (v≤m)=false:=by simpa using hV
     go_enter Tryz.func126,Tryz.ntmps126
     go_wp2_with fail
     refine HT.out.mono ?_
     rintro e w1 ⟨rfl,h1⟩
     have H1:=hiD h1.heap
     clear h1
     go_wp2_with fail
     refine(HF.out _).mono ?_
     rintro e w2 ⟨rfl,e2⟩
     go_wp2_with fail
     refine(yQ _ 21).mono ?_
     rintro e w3 ⟨rfl,rfl⟩
     exact⟨rfl,rfl,H1.out.later e2⟩
   ·rw [if_neg (fun h=>hE h.1)]
    generalize fV s=v at *
    have hd:(fE s == 0)=false:=by simpa using hE
    generalize fE s=x at *
    clear hE
    go_enter Tryz.func126,Tryz.ntmps126
    go_wp2_with fail
    refine HT.out.mono ?_
    rintro e w1 ⟨rfl,h1⟩
    have H1:=hiD h1.heap
    clear h1
    go_wp2_with fail
    refine(HF.out _).mono ?_
    rintro e w2 ⟨rfl,e2⟩
    go_wp2_with fail
    refine(yQ _ 21).mono ?_
    rintro e w3 ⟨rfl,rfl⟩
    exact⟨rfl,rfl,H1.out.later e2⟩
section
variable {w0 w w':World} {b:Nat} {its:List It} {L:RdL} {ts:List ByteArray}
theorem ahU(HR:RS w0 b its L ts w):Calls Tryz.prog 127 #[.pointer (some ⟨b,0,none⟩)] w (RdO (Heap w0 its) (fun s ts' e w'=>s.size≤65536∧e= .returned (.string s)∧RS w0 b its L ts' w') (rTx ts)):=by
 cases ts with
 | nil=>exact afS HR
 | cons s l=>exact(agF HR).mono fun e w' h=>⟨HR.small.2 s (List.mem_cons_self ..),h⟩
theorem adM(HR:RS w0 b its L ts w)(m:Int):Calls Tryz.prog 126 #[.pointer (some ⟨b,0,none⟩),.int .i64 m] w (RdO (Heap w0 its) (fun v ts' e w'=>0≤v∧v≤m∧e= .returned (.int .i64 v)∧RS w0 b its L ts' w') (rNm m ts)):=
 (al0 HR m).mono fun e w' h=>by
   cases hr:rNm m ts with
   | none=>rw [hr]at h;exact h
   | some p=>
     rw [hr]at h
     have:=acA hr
     exact⟨this.1,this.2.1,h⟩
end
end Go.Proofs.YtckaneapjpiocaaGreatDoor
