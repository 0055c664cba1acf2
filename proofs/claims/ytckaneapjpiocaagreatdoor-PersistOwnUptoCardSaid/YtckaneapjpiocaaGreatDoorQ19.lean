/- The texts Par, Rr6, Rr7 in one file. -/
import Derived.Test.YtckaneapjpiocaaGreatDoorQ18
set_option linter.unusedVariables false
set_option linter.unusedSimpArgs false
set_option maxHeartbeats 8000000
set_option maxRecDepth 100000
namespace Go.Proofs.YtckaneapjpiocaaGreatDoor
open Go.RowKit
theorem ado(l:List UInt8):(rd l).2.length≤1024∧ ∀s∈(rd l).2,s.size≤65536:=by
 by_cases h:(rd l).1=0
 ·have h1:=afI l (rd l).2 (by rw [←h])
  exact(aeo _).1 h1.1
 ·rw [an6 l h]
  exact⟨Nat.zero_le _,fun s hs=>by cases hs⟩
theorem anL(l:List UInt8):0≤yK l∧yK l≤4611686018427387903:=by
 unfold yK
 split
 ·decide
 ·split
  ·decide
  ·split
   ·decide
   ·omega
theorem ao8(s:ByteArray):0≤fV s∧fV s≤4611686018427387903:=by
 unfold fV
 split
 ·decide
 ·split
  ·decide
  ·exact anL _
structure Rec.okc (x:Rec):Prop where
 frm: -9223372036854775808≤x.frm∧x.frm≤9223372036854775807
 guid: -9223372036854775808≤x.guid∧x.guid≤9223372036854775807
 index: -9223372036854775808≤x.index∧x.index≤9223372036854775807
 count: -9223372036854775808≤x.count∧x.count≤9223372036854775807
 kind: -9223372036854775808≤x.kind∧x.kind≤9223372036854775807
 name:x.name.size≤1000000
 data:x.data.size≤1000000
 own:x.own.length≤100000
 props: ∀p∈x.own,p.name.size≤1000000∧p.value.size≤1000000
 sum:(sumR x).wf
theorem ahg{x y:Rec}(h:x.bare=y.bare)(hy:y.okc):x.okc:=by
 obtain⟨kind,name,frm,guid,oA,on,oc,own,index,count,data,s0,s1,s2,s3⟩:=x
 obtain⟨kind',name',frm',guid',oA',on',oc',own',index',count',data',t0,t1,t2,t3⟩:=y
 simp only [Rec.bare,Rec.mk.injEq]at h
 obtain⟨rfl,rfl,rfl,rfl,-,-,-,rfl,rfl,rfl,rfl,rfl,rfl,rfl,rfl⟩:=h
 exact⟨hy.frm,hy.guid,hy.index,hy.count,hy.kind,hy.name,hy.data,hy.own,hy.props,hy.sum⟩
theorem alt{x:Rec}(h:x.okc)(ho:x.on=x.own.length):x.wf:=
 ⟨h.frm,h.guid,h.index,h.count,h.kind,Nat.le_trans h.name (by decide),Nat.le_trans h.data (by decide),ho,by have:=h.own;omega,fun p hp=>⟨Nat.le_trans (h.props p hp).1 (by decide),Nat.le_trans (h.props p hp).2 (by decide)⟩⟩
theorem aeu: ∀(n:Nat) (l:List ByteArray),l.length≤n→(∀s∈l,s.size≤1000000)→(z6 l).1.length≤l.length∧ ∀p∈(z6 l).1,p.name.size≤1000000∧p.value.size≤1000000
 | _, [],_,_=>⟨Nat.le_refl _,fun p hp=>by simp [z6]at hp⟩
 | _, [s],_,h=>⟨Nat.le_refl _,fun p hp=>by
   simp [z6]at hp
   subst hp
   exact⟨h s (by simp),Nat.zero_le _⟩⟩
 | 0,s::v::r,hn,_=>by simp at hn
 | n+1,s::v::r,hn,h=>by
   have ih:=aeu n r (by simp at hn;omega) (fun x hx=>h x (by simp [hx]))
   refine⟨by simp only [z6,List.length_cons];omega,fun p hp=>?_⟩
   simp only [z6,List.mem_cons]at hp
   rcases hp with rfl | hp
   ·exact⟨h s (by simp),h v (by simp)⟩
   ·exact ih.2 p hp
theorem acy{l:List ByteArray}{b:Bool}(h: ∀s∈l,s.size≤1000000):(stT (l,b)).1.size≤1000000∧ ∀s∈(stT (l,b)).2.1,s.size≤1000000:=by
 cases l with
 | nil=>exact⟨Nat.zero_le _,fun s hs=>by simp [stT]at hs⟩
 | cons x r=>exact⟨h x (by simp),fun s hs=>h s (by simp [stT]at hs;simp [hs])⟩
theorem adp(l:List UInt8)(k:Nat):0≤xJ l k∧xJ l k≤18446744073709551615:=by
 unfold xJ
 have h:=abP ((l.drop (k * 8)).take 8)
 have h2:((l.drop (k * 8)).take 8).length≤8:=by simp;omega
 have h3:(256:Nat) ^ ((l.drop (k * 8)).take 8).length≤256 ^ 8:=Nat.pow_le_pow_right (by omega) h2
 have h4:val ((l.drop (k * 8)).take 8) < 18446744073709551616:=Nat.lt_of_lt_of_le h h3
 omega
theorem agP(l:List UInt8):(qd l).wf:=by
 unfold qd
 split
 ·exact⟨adp l 0,adp l 1,adp l 2,adp l 3⟩
 ·unfold Su.wf Su.zero
  decide
theorem abK(s:ByteArray): -9223372036854775808≤fV s∧fV s≤9223372036854775807:=by have:=ao8 s;omega
theorem af9(k:Int)(ts:List ByteArray)(hk:0≤k∧k≤255)(hl:ts.length≤2000)(hz: ∀s∈ts,s.size≤1000000):(zX k ts).okc:=by
 have z: -9223372036854775808≤(0:Int)∧(0:Int)≤9223372036854775807:=by decide
 have z0:(sumR ⟨0,⟨#[]⟩,0,0,none,0,0, [],0,0,⟨#[]⟩,0,0,0,0⟩).wf:=by unfold Su.wf;decide
 have hT:=acy (b:=true) hz
 have hkk: -9223372036854775808≤k∧k≤9223372036854775807:=by omega
 have e1: -9223372036854775808≤(1:Int)∧(1:Int)≤9223372036854775807:=by decide
 have e2: -9223372036854775808≤(2:Int)∧(2:Int)≤9223372036854775807:=by decide
 have e3: -9223372036854775808≤(3:Int)∧(3:Int)≤9223372036854775807:=by decide
 have hp3:=aeu _ (stN (stN (stT (ts,true)).2).2).2.1 (Nat.le_refl _) (by
  have a1:=(acy (l:=(stT (ts,true)).2.1) (b:=(stT (ts,true)).2.2) hT.2).2
  exact(acy (l:=(stN (stT (ts,true)).2).2.1) (b:=(stN (stT (ts,true)).2).2.2) a1).2)
 have hlen:(stN (stN (stT (ts,true)).2).2).2.1.length≤ts.length:=Nat.le_trans (aes _) (Nat.le_trans (aes _) (afL (ts,true)))
 unfold zX
 by_cases k1:k=1
 ·rw [if_pos k1]
  refine⟨abK _,abK _,z,z,e1,hT.1,Nat.zero_le _,?_,?_,z0⟩
  ·dsimp only
   split
   ·exact Nat.le_trans hp3.1 (Nat.le_trans hlen (Nat.le_trans hl (by decide)))
   ·exact Nat.zero_le _
  ·dsimp only
   split
   ·exact hp3.2
   ·intro p hp
    cases hp
 ·rw [if_neg k1]
  by_cases k2:k=2
  ·rw [if_pos k2]
   refine⟨z,z,abK _,z,e2,Nat.zero_le _,?_,Nat.zero_le _,(fun p hp=>(by cases hp)),z0⟩
   exact(acy (l:=(stN (ts,true)).2.1) (b:=(stN (ts,true)).2.2) hT.2).1
  ·rw [if_neg k2]
   by_cases k3:k=3
   ·rw [if_pos k3]
    exact⟨z,z,abK _,abK _,e3,Nat.zero_le _,Nat.zero_le _,Nat.zero_le _,(fun p hp=>(by cases hp)),z0⟩
   ·rw [if_neg k3]
    exact⟨z,z,z,z,hkk,Nat.zero_le _,Nat.zero_le _,Nat.zero_le _,(fun p hp=>(by cases hp)),agP _⟩
def psN(l:List UInt8):Nat:=val ((l.drop 1).take 2)
def psT(l:List UInt8):List UInt8:=(l.drop 3).take (psN l)
def psE(l:List UInt8):Int:=
 match l with
 | []=>8
 | b::_=>if b.toNat < 1∨4 < b.toNat then 23 else if l.length < 3 then 8 else if l.length < 3+psN l then 8
   else if(rd (psT l)).1≠0∨yN b.toNat (rd (psT l)).2=false then 33 else if yJ (zX b.toNat (rd (psT l)).2)≠0 then 9 else 0
def psA(l:List UInt8):Rec:=if psE l=0 then zX ((l.headD 0).toNat) (rd (psT l)).2 else ae7
def psM(l:List UInt8):Nat:=if psE l=0 then 3+psN l else 0
def ang(w:World)(l:List UInt8)(e:Ending)(w':World):Prop:=
 ∃y:Rec,e= .returned (.tuple #[.agg y.cells.toArray,.int .i64 (psM l),.int .i64 (psE l)])∧y.bare=psA l∧y.on=y.own.length∧Rd w' w.heap.size w'.heap.size y.oA (prps y.own)∧Ext w w'
theorem qJ{w w':World}{l:List UInt8}{E:Int}(h:psE l=E)(hE:E≠0)(e:Ext w w'):ang w l (.returned (.tuple #[.agg ae7.cells.toArray,.int .i64 0,.int .i64 E])) w':=by
 subst h
 exact⟨ae7,by rw [psM,if_neg hE];rfl,by rw [psA,if_neg hE];rfl,rfl,fun h=>absurd rfl h,e⟩
section
variable {P:Program} {w0 w:World} {its:List It} {fn:Func} {R:Ending→World→Prop} {a:Act}
theorem qK{t:TypeId}{x b p n y z:Nat}{vs:List Value}{v u:Value}(hs:(P.info? t).map (·.size)=some n)(hk:qG P t=some true)(H:Heap w0 its w)(hres:fn.results= #[.cell x t,.tmp y,.tmp z])(hx:a.tmps.getD x undef= .pointer (some ⟨b,p,none⟩))(hy:a.tmps.getD y undef=v)(hz:a.tmps.getD z undef=u)(i:Nat)(hi:its[i]?=some (.box b vs))(hl:Nat.ble (p+n) vs.length=true)
 (hd:a.defers= []) (hR:R (.returned (.tuple #[.agg ((vs.drop p).take n).toArray,v,u])) w):bodyPost P fn R .ret a w:=by
 refine⟨hd,_,?_,hR⟩
 have:=abY H hs hk i hi (Nat.le_of_ble_eq_true hl)
 have hx':a.tmps[x]?.getD undef= .pointer (some ⟨b,p,none⟩):=by simpa using hx
 have hy':a.tmps[y]?.getD undef=v:=by simpa using hy
 have hz':a.tmps[z]?.getD undef=u:=by simpa using hz
 simp only [results,hres]
 simp [asAddr,hx',hy',hz',this]
end
open Go.Maps Go.Sort Go.Shelf
theorem Heap.bagJoin{w0 w:World}{its:List It}{S1 S2:Nat→Prop}{L1 L2:RdL}(H:Heap w0 (It.bag S1 L1::It.bag S2 L2::its) w):Heap w0 (It.bag (fun k=>S1 k∨S2 k) (L1++L2)::its) w:=by
 have h1:=H.all 0 _ rfl
 have h2:=H.all 1 _ rfl
 refine⟨H.ext,fun i x hx=>?_,fun i j x y k hij hx hy ho hat=>?_⟩
 ·cases i with
  | zero=>
    cases hx
    refine⟨fun k hk=>hk.elim (h1.1 k) (h2.1 k),fun k hk=>hk.elim (h1.2.1 k) (h2.2.1 k),fun q hq hn=>?_⟩
    rcases List.mem_append.1 hq with hq | hq
    ·obtain⟨b,o,e,q1,q2,q3⟩:=h1.2.2 q hq hn
     exact⟨b,o,e,q1,.inl q2,q3⟩
    ·obtain⟨b,o,e,q1,q2,q3⟩:=h2.2.2 q hq hn
     exact⟨b,o,e,q1,.inr q2,q3⟩
  | succ i=>exact H.all (i+2) x hx
 ·cases i with
  | zero=>
    cases hx
    cases j with
    | zero=>exact hij rfl
    | succ j=>
      rcases ho with ho | ho
      ·exact H.apart 0 (j+2) _ y k (by omega) rfl hy ho hat
      ·exact H.apart 1 (j+2) _ y k (by omega) rfl hy ho hat
  | succ i=>
    cases j with
    | zero=>
      cases hy
      rcases hat with hat | hat
      ·exact H.apart (i+2) 0 x _ k (by omega) hx rfl ho hat
      ·exact H.apart (i+2) 1 x _ k (by omega) hx rfl ho hat
    | succ j=>exact H.apart (i+2) (j+2) x y k (fun e=>hij (by omega)) hx hy ho hat
def qH{α:Type}(f:List ByteArray→Option (α×List ByteArray)):Nat→List ByteArray→Option (List α×List ByteArray)
 | 0,ts=>some ([],ts)
 | n+1,ts=>(f ts).bind fun a=>(qH f n a.2).bind fun r=>some (a.1::r.1,r.2)
theorem acC{α β:Type}(f:List ByteArray→Option (α×List ByteArray))(n:Nat)(ts:List ByteArray)(d:List α)(k:List α→List ByteArray→Option β):
 ((qH f (n+1) ts).bind fun r=>k (d++r.1) r.2)=(f ts).bind fun a=>(qH f n a.2).bind fun r=>k ((d++ [a.1])++r.1) r.2:=by
 rw [qH,Option.bind_assoc]
 congr 1
 funext a
 rw [Option.bind_assoc]
 congr 1
 funext r
 simp
def abw(ts:List ByteArray):Option (Unit×List ByteArray):=if ts= []then some ((), [])else none
theorem RS.leave{w0 w:World}{b:Nat}{its:List It}{L:RdL}{ts:List ByteArray}(h:RS w0 b its L ts w): ∃S L',(∀q∈L,q∈L')∧Heap w0 (It.bag S L'::its) w:=by
 obtain⟨A,c,S,L',h1,h2,h3,h4,h5,h6,H⟩:=h
 exact⟨S,L',h1,H.tail⟩
def acl(w0:World)(its:List It)(l:List UInt8)(e:Ending)(w':World):Prop:=if(rd l).1=0 then∃b,e= .returned (.pointer (some ⟨b,0,none⟩))∧RS w0 b its [] (rd l).2 w' else e=aao 21∧Heap w0 its w'
theorem aea{w0 w:World}{its:List It}(H:Heap w0 its w)(key:ByteArray)(A:Option Addr)(n c:Nat)(l:List UInt8)(lv:Value)(hn:n=l.length)(hnc:n≤c)(hcm:c≤maxLen)(hr:Rd w 0 w.heap.size A (bytes l))(hN:n≤100000000):
 Calls Tryz.prog 100 #[.agg #[.string key,.slice A n c,lv]] w (acl w0 its l):=by
 have HH:=hiD H
 have HRd:=hiD (fun W (hW:Ext w W)=>aeK W A n c l hn hnc (Rd.at hr hW (Nat.le_refl _)) (by omega) (by simp only [maxLen]at hcm;omega))
 have HS:=hiD (ado l)
 clear H hn hnc hcm hr hN
 go_enter Tryz.func100,Tryz.ntmps100
 go_upto_region 1 with fail
 generalize hwH:World.alloc w _=w1
 have HE:=hiD (show Ext w w1 by rw [←hwH];exact(Ext.refl w).alloc _)
 have HX:=hiD (HH.out.allocE hwH)
 clear hwH
 have HH:=HX
 go_wp2_with (refine l1X HH 0 ?_)
 refine(HRd.out _ HE.out).mono ?_
 rintro e w2 ⟨v,rfl,hown,e2⟩
 obtain⟨A2,c2,rfl,_,_,_⟩:=zr hown
 obtain⟨q1,q2⟩:=z7 hown
 have HR0:=hiD (HH.out.tail.later e2)
 have H2:=hiD ((HH.out.tail.bag0).bagExt (j:=0) rfl e2 (L2:= [(A2,strV (rd l).2)]) (fun q hq=>by
  obtain rfl:=List.mem_singleton.1 hq
  exact Rd.of_own hown))
 clear hown e2 HRd HE HX HH
 by_cases hE:(rd l).1=0
 ·have HO:=hiD (fun b w' (h:RS w0 b its [] (rd l).2 w')=>show acl w0 its l (.returned (.pointer (some ⟨b,0,none⟩))) w' by rw [acl,if_pos hE];exact⟨b,rfl,h⟩)
  rw [hE]
  clear hE
  generalize rd l=r at *
  go_wp2_with fail
  refine(yX _ 21).mono ?_
  rintro e w3 ⟨rfl,rfl⟩
  go_wp2_with fail
  go_ret
  refine HO.out _ _ ?_
  obtain⟨S,H3⟩:=H2.out
  exact⟨A2,c2,S,_,(by intro q hq;cases hq),List.mem_append_left _ (List.mem_cons_self ..),q1,q2,HS.out.2,HS.out.1,H3.alloc _ _⟩
 ·have HO:=hiD (fun w' (h:Heap w0 its w')=>show acl w0 its l (aao 21) w' by rw [acl,if_neg hE];exact⟨rfl,h⟩)
  have hd:((rd l).1 == 0)=false:=by simpa using hE
  clear hE H2
  go_wp2_with fail
  refine(yB _ 21).mono ?_
  rintro e w3 ⟨rfl,rfl⟩
  exact⟨rfl,HO.out _ HR0.out⟩
theorem anG:(Tryz.prog.info? 137).map (fun i=>(i.zero,i.size,i.bytes))=some (some (.agg #[.string .empty,.int .i64 0,.slice none 0 0,.slice none 0 0,.slice none 0 0]),5,96):=by kernel_rfl
def Dst.bare(x:Dst):Dst:={ x with body:=slB x.body.xs,snaps:=slB (x.snaps.xs.map Sna.bare),own:=slB x.own.xs }
structure DstIn (L:RdL) (x:Dst):Prop where
 body:InL L Blk.cells x.body
 snaps:InL L Sna.cells x.snaps
 own:InL L Prp.cells x.own
 all: ∀y∈x.snaps.xs,SnaIn L y
theorem DstIn.sub{L L2:RdL}{x:Dst}(h:DstIn L x)(hs: ∀q∈L,q∈L2):DstIn L2 x:=⟨h.body.sub hs,h.snaps.sub hs,h.own.sub hs,fun y hy=>(h.all y hy).sub hs⟩
structure Dst.fit (x:Dst):Prop where
 path:sml x.path
 origin:sml x.origin
 body: ∀y∈x.body.xs,Blk.sm y
 bodyS:x.body.xs.length≤1048576
 own: ∀y∈x.own.xs,Prp.sm y
 ownS:x.own.xs.length≤1048576
 snaps: ∀y∈x.snaps.xs,Sna.fit y
 snapsS:x.snaps.xs.length≤1048576
def aeL(path:ByteArray)(ts:List ByteArray):Option Dst:=
 (rTx ts).bind fun o=>(aac o.2).bind fun p=>(qS p.2).bind fun d=>(rNm 16 d.2).bind fun n=>(qH acg n.1.toNat n.2).bind fun r=>(abw r.2).bind fun _=>some ⟨path,o.1,slB d.1,slB r.1,slB p.1⟩
def adi(path:ByteArray)(l:List UInt8):Option Dst:=if(rd l).1=0 then aeL path (rd l).2 else none
def aph(w0:World)(its:List It)(r:Option Dst)(e:Ending)(w':World):Prop:=match r with
 | none=>e=aao 21∧Heap w0 its w'
 | some px=> ∃(x:Dst) (S:Nat→Prop) (L2:RdL),e= .returned (.agg x.cells.toArray)∧x.bare=px∧DstIn L2 x∧x.fit∧Heap w0 (It.bag S L2::its) w'
theorem aoq{w0 w:World}{its:List It}(H:Heap w0 its w)(path:ByteArray)(hp:sml path)(key:ByteArray)(A:Option Addr)(n c:Nat)(l:List UInt8)(lA:Option Addr)(ln lc:Nat)(hn:n=l.length)(hnc:n≤c)(hcm:c≤maxLen)(hr:Rd w 0 w.heap.size A (bytes l))(hN:n≤100000000):
 Calls Tryz.prog 49 #[.string path,.agg #[.string key,.slice A n c,.slice lA ln lc]] w (aph w0 its (adi path l)):=by
 obtain⟨i0,hi0,hz0,hz1,hz2⟩:=info_parts anG
 have HH:=hiD H
 have HPt:=hiD hp
 have HOp:=hiD (fun W i9 (hW:Ext w W) (h:Heap w0 i9 W)=>aea h key A n c l (.slice lA ln lc) hn hnc hcm (Rd.at hr hW (Nat.le_refl _)) hN)
 have HV:=hiD (show adi path l=if(rd l).1=0 then aeL path (rd l).2 else none from rfl)
 generalize adi path l=V at *
 clear H hp hn hnc hcm hr hN
 go_enter Tryz.func49,Tryz.ntmps49
 go_upto_region 1 with fail
 generalize hwH:World.alloc (World.alloc w _) _=w1
 have HE:=hiD (show Ext w w1 by rw [←hwH];exact((Ext.refl w).alloc _).alloc _)
 replace HH:=hiD ((HH.out.alloc _ _).allocE hwH)
 clear hwH
 simp only [World.size_alloc]at HH
 obtain⟨ob,hob⟩: ∃b,b=w.heap.size:=⟨_,rfl⟩
 obtain⟨rb,hrb⟩: ∃b,b=w.heap.size+1:=⟨_,rfl⟩
 rw [←hrb,←hob]at HH ⊢
 clear hrb hob
 go_wp2_with (refine lSX HH yr 1 ?_)
 refine(HOp.out _ _ HE.out HH.out).mono ?_
 intro e w2 h
 clear HE HOp
 by_cases hE:(rd l).1=0
 ·rw [acl,if_pos hE]at h
  obtain⟨b,rfl,h⟩:=h
  have hV:=HV.out
  rw [if_pos hE,aeL]at hV
  replace HV:=hiD hV
  replace HH:=hiD h
  clear hV h hE
  generalize (rd l).2=ts at *
  go_wp2_with fail
  refine zw HV (ab6 HH.out) (fun w' h1 h2=>by subst h1;exact⟨rfl,rfl,h2.tail.tail⟩) ?_
  rintro og us e w3 HV ⟨g0,rfl,h⟩
  replace HH:=hiD h
  clear h
  go_wp2_with fail
  refine zw HV (ajD HH.out) (fun w' h1 h2=>by subst h1;exact⟨rfl,rfl,h2.tail.tail⟩) ?_
  rintro ow us e w4 HV ⟨o0,oA,oc,rfl,p1,p2,h⟩
  replace HH:=hiD h
  have HP:=hiD (And.intro o0 (And.intro p1 p2))
  clear h o0 p1 p2
  go_wp2_with fail
  refine zw HV (aem HH.out) (fun w' h1 h2=>by subst h1;exact⟨rfl,rfl,h2.tail.tail⟩) ?_
  rintro bd us e w5 HV ⟨b9,bA,bc,rfl,q1,q2,h⟩
  obtain⟨A2,c2,S2,L2,_,_,H,hB⟩:=h.open
  replace HH:=hiD H
  have HB:=hiD hB
  have HQ:=hiD (And.intro b9 (And.intro q1 q2))
  clear h H hB b9 q1 q2
  dsimp only at HV
  go_upto_region 3 with(refine sSX (hiD (HH.out.alloc _ _)) xq 0 ?_;clear HH;intro wS HH)
  obtain⟨xb,hxb⟩: ∃b,b=w5.heap.size:=⟨_,rfl⟩
  rw [←hxb]at HH ⊢
  clear hxb
  replace HH:=hiD ((HB.out _ _ HH.out.in2).push (x:= .row 137 5 (.slice none 0 0) 0 []) fun l h=>h.row0)
  clear HB
  go_wp2_with fail
  refine zw HV (ad2 HH.out 16) (fun w' h1 h2=>by subst h1;exact⟨rfl,rfl,h2.tail.tail.tail.tail⟩) ?_
  rintro kv us e w6 HV ⟨k0,k4,rfl,h⟩
  replace HH:=hiD h
  clear h
  dsimp only at HV
  obtain⟨K,rfl⟩: ∃K:Nat,kv=(K:Int):=⟨kv.toNat,by omega⟩
  clear k0
  rw [Int.toNat_natCast]at HV
  obtain⟨L0,hL0⟩: ∃L0,L0=(bA,blks bd)::(oA,prps ow)::([]:RdL):=⟨_,rfl⟩
  rw [←hL0]at HH
  have HL0:=hiD hL0
  clear hL0
  go_wp2_with fail
  go_loopw [19] (fun i wr=> ∃(xs:List Sna) (us:List ByteArray) (L2:RdL),xs.length≤K∧i= .int .i64 (xs.length:Int)∧ ∃sA sc,Hid (V=(qH acg (K - xs.length) us).bind fun r=>(abw r.2).bind fun _=>some ⟨path,og,slB bd,slB (xs.map Sna.bare++r.1),slB ow⟩)∧Hid (∀y∈xs,SnaIn L2 y∧y.fit)∧Hid (∀q∈L0,q∈L2)∧
   Hid (RS w0 b (.row 137 5 (.slice sA xs.length sc) xs.length (xs.flatMap Sna.cells):: .box xb [.string path,.string og,.slice bA bd.length bc,.slice sA xs.length sc,.slice oA ow.length oc]:: .box rb [.string ⟨#[]⟩,.string ⟨#[]⟩,.slice none 0 0,.slice none 0 0,.slice none 0 0]:: .box ob [.string key,.slice A n c,.slice lA ln lc]::its) L2 us wr)) (fun i _=>K - (intOf i).toNat)
  case atStart=>exact⟨[],us,L0,Nat.zero_le _,rfl,none,0,HV,hiD (fun y h=>by cases h),hiD (fun q h=>h),HH⟩
  case round=>
   clear HH HV
   obtain⟨xs,us,L2,hk,rfl,A2,c2,HV,HX,HL,HR⟩:=hrel
   by_cases hlt:xs.length < K
   ·have hkk:(xs.length:Int) < (K:Int):=by omega
    have hV:=HV.out
    rw [show K - xs.length=(K - xs.length - 1)+1 by omega,acC acg (K - xs.length - 1) us (xs.map Sna.bare) (fun d ts=>(abw ts).bind fun _=>some (⟨path,og,slB bd,slB d,slB ow⟩:Dst))]at hV
    replace HV:=hiD hV
    clear hV
    go_upto_region 5 with fail
    replace HR:=hiD (HR.out.later (Ext.drew (Ext.refl _)))
    obtain⟨A3,c3,S3,L3,_,_,H,_⟩:=HR.out.open
    have HH:=hiD H
    clear H
    refine qe (fun z=>Nat.blt z 6) (S:=fun W=>W.cell? ⟨xb,3,none⟩=some (.slice A2 xs.length c2)) (by kernel_rfl) ((HH.out.boxAt 3 rfl).cell 3 _ rfl) (fun hHeld=>?_)
    generalize World.drew _=wd at *
    refine tM 0 3 ?_
    clear hHeld HH
    refine oMX 3 (fun K hK=>?_)
    go_simp
    refine zw HV (anq HR.out) (fun w' h1 h2=>by subst h1;exact⟨rfl,rfl,h2.tail.tail.tail.tail⟩) ?_
    rintro px us2 e w7 HV ⟨x,L4,rfl,rfl,hin,hL,hf,h⟩
    obtain⟨A3,c3,S3,L3,_,_,H,hB⟩:=h.open
    have HH:=hiD H
    have HB:=hiD hB
    replace HX:=hiD (show∀y∈xs++ [x],SnaIn L4 y∧y.fit from fun y hy=>by
     rcases List.mem_append.1 hy with hy | hy
     ·exact⟨(HX.out y hy).1.sub hL,(HX.out y hy).2⟩
     ·obtain rfl:=List.mem_singleton.1 hy
      exact⟨hin,hf⟩)
    replace HL:=hiD (fun q hq=>hL q (HL.out q hq))
    have HC:=hiD (show(xs++ [x]).flatMap Sna.cells=xs.flatMap Sna.cells++x.cells by simp)
    have HLn:=hiD (show(xs++ [x]).length=xs.length+1 by simp)
    have HMp:=hiD (show xs.map Sna.bare++ [x.bare]=(xs++ [x]).map Sna.bare by simp)
    have hcl:x.cells.length=5:=rfl
    rw [HMp.out]at HV
    generalize xs++ [x]=ys at *
    clear h H hB hin hf hL HMp HR
    obtain⟨xn,xg,⟨xbA,xbn,xbc,xbs⟩,⟨xtA,xtn,xtc,xts⟩,⟨xoA,xon,xoc,xos⟩⟩:=x
    simp only [Sna.cells,Sl.val]at HC ⊢
    go_wp2_with fail
    refine hK.out _ _ ((HH.out.boxAt 3 rfl).cell 3 _ rfl) (fun hHeld=>?_)
    clear hK K hHeld
    refine lyX ?_
    refine oMX 4 (fun K hK=>?_)
    go_simp
    generalize hwA:World.alloc _ _=w8
    replace HH:=hiD (HH.out.allocE hwA)
    clear hwA
    refine hK.out _ _ ((HH.out.boxAt 4 rfl).cell 3 _ rfl) (fun hHeld=>?_)
    clear hK K hHeld
    refine lyX ?_
    refine fMX 5 (fun K hK=>?_)
    refine zO (.tmp 22) (.tmp 25) _ rfl Tryz.underlying50 hi0 hz0 hz1 hz2 rfl (by omega) HH.out 3 rfl rfl (m:=1) rfl rfl (HH.out.boxRd 0 rfl).m0 (by simp [Value.oneCell']) (by simp only [maxLen];omega) (by omega) ?_
    rintro v8 w9 hh8 ⟨A8,c8,rfl⟩
    replace HH:=hiD hh8.tail
    clear hh8
    refine hK.out _ _ ?_;clear hK K;refine lyX ?_
    refine yL 6 (v:=?_) rfl (by kernel_rfl) (by kernel_rfl) (by kernel_rfl) (by kernel_rfl) (fun _ _ _ h=>h) (by kernel_rfl) ?_ (fun h=>absurd h (aal (by kernel_rfl))) ?_;rotate_left;(focus(intro w;go_simp <;> with_reducible rfl));refine lyX ?_
    refine fMX 7 (fun K hK=>?_)
    refine z8 HH.out rfl rfl rfl 3 rfl (Nat.le_of_ble_eq_true rfl) rfl (by kernel_rfl) ?_
    intro w10 hh9
    refine hK.out _ _ ?_;clear hK K;refine lyX ?_
    refine xD (by kernel_rfl) ?_
    have H9:=hiD (HB.out _ _ hh9)
    clear hh9 HB HH
    go_wp2_with fail
    go_roundw
    case rel=>exact⟨ys,us2,L4,by rw [HLn.out];omega,by rw [HLn.out];go_num,A8,c8,hiD (by rw [show K - ys.length=K - xs.length - 1 by rw [HLn.out];omega];exact HV.out),HX,HL,hiD (by rw [HLn.out,HC.out];exact H9.out)⟩
    case measure=>simp [intOf];omega
   ·have hkK:xs.length=K:=by omega
    have hV:=HV.out
    rw [show K - xs.length=0 by omega,qH,Option.bind_some]at hV
    replace HV:=hiD hV
    clear hV
    simp only [List.append_nil]at HV
    go_wp2_with fail
    refine zw HV (afD HR.out) (fun w' h1 h2=>by subst h1;exact⟨rfl,rfl,h2.tail.tail.tail.tail⟩) ?_
    rintro _ us2 e w7 HV ⟨rfl,h⟩
    have hV:=HV.out
    subst hV
    obtain⟨A3,c3,S3,L3,_,hL3,H,hB⟩:=h.open
    have HH:=hiD H
    have HB:=hiD hB
    clear H hB h HR
    go_wp2_with (first | (refine lSX HH xq 3 ?_) | (refine sSX HH xq 4 ?_;clear HH;intro wS HH))
    refine aax xq (by kernel_rfl) HH.out rfl rfl 4 rfl rfl rfl ?_
    obtain⟨r1,r2⟩:=z7 (HH.out.rowAt 2 rfl)
    obtain⟨S9,L9,hL9,H9⟩:=((HB.out _ _ HH.out).bagRow).drop.drop.drop.leave
    have hLs:=HL0.out
    have hq:=HQ.out
    have hp:=HP.out
    obtain⟨o1,o2⟩:=aaV _ hp.1
    obtain⟨d1,d2⟩:=qt _ hq.1.1
    have hs0: ∀q∈L0,q∈L9:=fun q hq=>hL9 q (List.mem_cons_of_mem _ (HL.out q hq))
    refine⟨⟨path,og,⟨bA,bd.length,bc,bd⟩,⟨A2,xs.length,c2,xs⟩,⟨oA,ow.length,oc,ow⟩⟩,S9,L9,rfl,rfl,⟨⟨rfl,hq.2.1,hq.2.2,hs0 _ (by rw [hLs];simp [blks])⟩,⟨rfl,r1,r2,hL9 _ (List.mem_cons_self ..)⟩,⟨rfl,hp.2.1,hp.2.2,hs0 _ (by rw [hLs];simp [prps])⟩,fun y hy=>(HX.out y hy).1.sub fun q hq=>hL9 q (List.mem_cons_of_mem _ hq)⟩,⟨HPt.out,Nat.le_trans g0 (by decide),fun y hy=>hq.1.2 y hy,Nat.le_trans d1 (by decide),fun y hy=>?_,Nat.le_trans o1 (by decide),fun y hy=>(HX.out y hy).2,by show xs.length≤_;omega⟩,H9⟩
    have:=o2 y hy
    exact⟨Nat.le_trans this.1 (by decide),Nat.le_trans this.2 (by decide)⟩
 ·rw [acl,if_neg hE]at h
  obtain⟨rfl,h⟩:=h
  have hV:=HV.out
  rw [if_neg hE]at hV
  subst hV
  exact⟨rfl,rfl,h.tail.tail⟩
end Go.Proofs.YtckaneapjpiocaaGreatDoor
