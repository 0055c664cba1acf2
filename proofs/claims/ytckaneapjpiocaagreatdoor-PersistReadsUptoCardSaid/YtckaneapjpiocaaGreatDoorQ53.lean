/- The texts Plv, Pre, Oobj in one file. -/
import Derived.Test.YtckaneapjpiocaaGreatDoorQ46
import Derived.Test.YtckaneapjpiocaaGreatDoorQ49
import Derived.Test.YtckaneapjpiocaaGreatDoorQ47
set_option linter.unusedVariables false
set_option linter.unusedSimpArgs false
set_option maxHeartbeats 16000000
set_option maxRecDepth 100000
namespace Go.Proofs.YtckaneapjpiocaaGreatDoor
open Go.RowKit Go.Maps Go.Sort Go.Shelf
theorem am4{l:List UInt8}{cap:Int}{fs:List Prp}{lg:List Lin}{ns:List ByteArray}(h:acH l=some ((cap,fs,lg),ns)):
 l=zu (zm cap::zm (fs.length:Int)::(zW fs++(zm (lg.length:Int)::(lg.flatMap zR++ns)))):=by
 rw [acH]at h
 split at h
 ·rename_i h0
  have hf:=aej h0
  simp only [rPh,Option.bind_eq_some_iff]at h
  obtain⟨⟨q,u1⟩,h1,⟨o,u2⟩,h2,⟨m,u3⟩,h3,⟨g,u4⟩,h4,h⟩:=h
  cases h
  have e1:=(xj h1).1
  have e2:=aeG h2
  obtain⟨e3,m0,_⟩:=xj h3
  obtain⟨e4,hl⟩:=acn (fun _ _ _=>ahc) h4
  dsimp only at e2 e3 e4 hl
  have hm:m=(g.length:Int):=by omega
  rw [←hf,e1,e2,e3,e4,hm,yU]
  rfl
 ·cases h
theorem aga{xs:List KD}: ∀{ns:List ByteArray} {ts:List Tnt},aaG xs ns=some ts→ts.map Tnt.name=ns∧ts.flatMap qP=ns.flatMap (ofP xs)∧(∀n∈ns,zd n=true)∧ ∀t∈ts,zH t=true
 | [],ts,h=>by
   cases h
   exact⟨rfl,rfl,(fun n h=>by cases h),fun t h=>by cases h⟩
 | n::ns,ts,h=>by
   rw [aaG]at h
   split at h
   ·rename_i hn
    rw [Option.bind_eq_some_iff]at h
    obtain⟨t,h1,h⟩:=h
    rw [Option.bind_eq_some_iff]at h
    obtain⟨l,h2,h⟩:=h
    cases h
    obtain⟨i1,i2,i3⟩:=amP h1
    obtain⟨j1,j2,j3,j4⟩:=aga h2
    refine⟨by rw [List.map_cons,i1,j1],by rw [List.flatMap_cons,List.flatMap_cons,j2];exact congrArg (· ++_) i3,fun m hm=>?_,fun u hu=>?_⟩
    ·rcases List.mem_cons.1 hm with rfl | hm
     ·exact hn
     ·exact j3 m hm
    ·rcases List.mem_cons.1 hu with rfl | hu
     ·exact i2
     ·exact j4 u hu
   ·cases h
theorem afy(xs:List KD): ∀(ns:List ByteArray),ns.Nodup→(∀n∈ns,zd n=true)→(ns.flatMap (ofP xs)).Perm (xs.filter fun x=>ns.any fun n=>inK n x)
 | [],_,_=>by simp
 | n::ns,hd,hn=>by
   rw [List.nodup_cons]at hd
   have ih:=afy xs ns hd.2 fun m hm=>hn m (List.mem_cons_of_mem _ hm)
   have h1:=ac7 (inK n) (fun x=>ns.any fun n=>inK n x) xs fun x _ hx=>by
    rw [List.any_eq_false]
    intro m hm hmx
    have:=afQ (hn n (List.mem_cons_self ..)) (hn m (List.mem_cons_of_mem _ hm)) hx hmx
    exact hd.1 (this▸hm)
   rw [List.flatMap_cons]
   refine(((ah2 xs n).append ih).trans h1.symm).trans ?_
   simp only [List.any_cons]
   exact .refl _
theorem amO{xs:List KD}{P:Pol}(h:rPol xs=some P):yf P=true∧xs.Perm (qQ P)∧xs.Pairwise ltK∧ ∀t∈P.ten.xs,zH t=true:=by
 rw [rPol,Option.bind_eq_some_iff]at h
 obtain⟨⟨hk,hd⟩,h1,h⟩:=h
 split at h
 ·rename_i hris
  rw [Option.bind_eq_some_iff]at h
  obtain⟨⟨⟨cap,fs,lg⟩,ns⟩,h2,h⟩:=h
  rw [Option.bind_eq_some_iff]at h
  obtain⟨ts,h3,h⟩:=h
  rw [aeR]at h
  split at h
  ·rename_i hF
   obtain⟨hm,hB⟩:=hF
   dsimp only at hm
   have e0:=am4 (l:=hd) h2
   cases h
   obtain⟨j1,j2,j3,j4⟩:=aga h3
   have hB0:=hB
   simp only [yf,Bool.and_eq_true,decide_eq_true_eq,List.all_eq_true]at hB0
   have hR:=hB0.2.2.2.2.2.2.1
   rw [show(mkP (cap,fs,lg) ts).ten.xs.map Tnt.name=ns from j1]at hR
   have hnd:=ae4 hR
   have hP:=aaX hris
   rw [List.pairwise_map]at hP
   have e1:hk=kP:=(aei _).1 (List.find?_some h1)
   subst e1
   have e2:qQ (mkP (cap,fs,lg) ts)=(kP,hd)::ns.flatMap (ofP xs):=by
    rw [qQ,show(mkP (cap,fs,lg) ts).ten.xs.flatMap qP=ns.flatMap (ofP xs)from j2,yY,show(mkP (cap,fs,lg) ts).ten.xs.map Tnt.name=ns from j1,e0]
    rfl
   have hpp:=afy xs ns hnd j3
   have h4:=ac7 isP (fun x=>ns.any fun n=>inK n x) xs fun x _ hx=>by
    rw [List.any_eq_false]
    intro m _ hmx
    rw [agw ((aei x).1 hx)]at hmx
    cases hmx
   have hmem:(kP,hd)∈xs.filter isP:=List.mem_filter.2 ⟨List.mem_of_find?_eq_some h1,List.find?_some h1⟩
   have l1:=h4.length_eq
   have l2:=List.length_filter_le (fun x=>isP x || ns.any fun n=>inK n x) xs
   have l3:=hpp.length_eq
   have l4:abT xs ns=(ns.flatMap (ofP xs)).length:=by rw [abT,List.length_flatMap]
   rw [List.length_append]at l1
   have l5:(xs.filter isP).length≤1:=by omega
   have e3:xs.filter isP= [(kP,hd)]:=by
    cases hq:xs.filter isP with
    | nil=>rw [hq]at hmem;cases hmem
    | cons y r=>
      rw [hq,List.length_cons]at l5
      have:r= []:=List.eq_nil_of_length_eq_zero (by omega)
      subst this
      rw [hq,List.mem_singleton]at hmem
      rw [hmem]
   rw [e3,List.length_singleton]at l1
   have e4:xs.filter (fun x=>isP x || ns.any fun n=>inK n x)=xs:=List.filter_eq_self.2 ((List.length_filter_eq_length_iff).1 (by omega))
   rw [e4,e3]at h4
   refine⟨hB,?_,hP,j4⟩
   rw [e2]
   exact h4.trans (.cons _ hpp.symm)
  ·cases h
 ·cases h
theorem aja(p:Pol):yY p.bare=yY p:=by
 show zm p.cap::zm (p.forced.xs.length:Int)::(zW p.forced.xs++(zm (p.log.xs.length:Int)::(p.log.xs.flatMap zR++(p.ten.xs.map Tnt.bare).map Tnt.name)))=_
 rw [List.map_map];rfl
theorem akM(p:Pol)(h: ∀t∈p.ten.xs,∀x∈t.stages.xs,x.beg.on=x.beg.own.length∧x.beg.kind=1):qQ p.bare=qQ p:=by
 rw [qQ,qQ,aja]
 congr 1
 show(p.ten.xs.map Tnt.bare).flatMap qP=_
 rw [List.flatMap_map]
 have: ∀l:List Tnt,(∀t∈l,t∈p.ten.xs)→l.flatMap (fun t=>qP t.bare)=l.flatMap qP:=fun l=>by
  induction l with
  | nil=>intro _;rfl
  | cons t l ih=>
    intro hl
    rw [List.flatMap_cons,List.flatMap_cons,ih fun u hu=>hl u (List.mem_cons_of_mem _ hu),qP,akz t (h t (hl t (List.mem_cons_self ..)))]
 exact this _ fun t h=>h
theorem alS{L:RdL}{p:Pol}{xs:List KD}(h:rPol xs=some p.bare)(hi:PolIn L p):yf p=true∧xs.Perm (qQ p)∧xs.Pairwise ltK:=by
 obtain⟨h1,h2,h3,h4⟩:=amO h
 rw [ad7 p hi.stg]at h1
 have hb0:=h1
 simp only [yf,Bool.and_eq_true,decide_eq_true_eq,List.all_eq_true]at hb0
 refine⟨h1,?_,h3⟩
 rwa [akM p fun t ht x hx=>⟨hi.stg t ht x hx,by
  have h2:=hb0.2.2.2.2.2.1 t ht
  simp only [zH,xM,Bool.and_eq_true,List.all_eq_true]at h2
  have:=h2.2.2.2.2.2.1.2.1 x hx
  simp only [stB,Bool.and_eq_true,beq_iff_eq]at this
  exact this.2.2.1⟩]at h2
def zPo:Pol:=⟨0,⟨none,0,0, []⟩,⟨none,0,0, []⟩,⟨none,0,0, []⟩⟩
theorem alg(w:World):Pol.At w 0 w.heap.size zPo:=⟨by decide,ace ..,by decide,ace ..,by decide,ace ..⟩
theorem ahx(w:World):Calls Tryz.prog 26 #[.agg adK.toArray,.agg adK.toArray] w fun e w'=>e= .returned (.bool true)∧Ext w w':=
 acQ w zPo zPo (alg w) (alg w) rfl
theorem agq(w:World)(s:Sl Ob)(hM:xf w)(h:Sl.At w 0 w.heap.size Ob.cells (Ob.At w 0 w.heap.size) s)(hN:s.n≤1048576)(hD: ∀x∈s.xs,x.data.n≤100000000∧x.key.size≤1048576):
 Calls Tryz.prog 9 #[s.val] w fun e w'=>e= .returned (.bool true)∧Ext w w':=by
 have HAl:=hiD (acK w hM)
 have HMx:=hiD hM
 have HRd:=hiD (fun W (hW:Ext w W)=>abG W s (hM.ext hW) (yG h hW (Nat.le_refl _) fun _ h=>Ob.At.on h hW (Nat.le_refl _)) hN hD)
 have HA:=hiD h
 clear hM h hD
 obtain⟨A,n,c,os⟩:=s
 dsimp only at hN HRd
 simp only [Sl.val]at HRd ⊢
 have Hn:=hiD (show n=os.length from HA.out.len)
 obtain⟨TO,hTO⟩: ∃TO,TO=fun W=>PrO W (os.map okd):=⟨_,rfl⟩
 have HR2:=hiD (fun W (hW:Ext w W)=>show Calls Tryz.prog 25 #[.slice A n c] W (TO W)by rw [hTO];exact HRd.out W hW)
 have HTO:=hiD hTO
 clear HRd hTO
 go_enter Tryz.func9,Tryz.ntmps9
 go_wp2_with fail
 refine HAl.out.mono ?_
 rintro e w2 ⟨rfl,e2⟩
 have E2:=hiD e2
 clear e2 HAl
 go_wp2_with fail
 refine(HR2.out _ E2.out).mono ?_
 intro e w3 h3
 rw [HTO.out]at h3
 clear HTO HR2
 rcases h3 with⟨_,rfl,e3⟩ | ⟨u,S,L,hr,rfl,hin,hfit,h3⟩
 ·have HH:=hiD (Heap.start w2)
  replace HH:=hiD (HH.out.later e3)
  clear e3
  go_upto_region 4 with(refine sSX (hiD (HH.out.alloc _ _)) zD 0 ?_;clear HH;intro wS HH)
  obtain⟨d0,d1,d2,d3,-⟩:=zY (HH.out.boxAt 0 rfl)
  go_wp2_with fail
  refine(ahx _).mono ?_
  rintro e w4 ⟨rfl,e4⟩
  have E4:=hiD (E2.out.trans (HH.out.ext.trans e4))
  go_wp2_with fail
  go_ret
  exact⟨rfl,E4.out⟩
 ·obtain⟨i1,i2,i3⟩:=alS hr hin
  have hAt:=hin.at_ h3 (j:=0) rfl hfit
  have HM3:=hiD (HMx.out.ext (E2.out.trans h3.ext))
  have HOb:=hiD (fun W (hW:Ext w3 W)=>(adl W u (HM3.out.ext hW) (hAt.on hW (Nat.le_refl _))).mono (R':=fun e w'=> ∃(A2:Option Addr) (c2:Nat) (os2:List Ob),e= .returned (.tuple #[.slice A2 os2.length c2,.int .i64 0])∧os2.map okd=os.map okd∧Ext W w'∧Sl.At w' 0 w'.heap.size Ob.cells (Ob.At w' 0 w'.heap.size) ⟨A2,os2.length,c2,os2⟩) fun e w' q=>by
   rcases q with⟨q,_⟩ | ⟨_,A2,c2,os2,q1,q2,q3,q4⟩
   ·rw [i1]at q;cases q
   ·have hT: ∀t∈u.ten.xs,zH t=true:=by
     have hb0:=i1
     simp only [yf,Bool.and_eq_true,decide_eq_true_eq,List.all_eq_true]at hb0
     exact hb0.2.2.2.2.2.1
    have hR:yR (u.ten.xs.map Tnt.name)=true:=by
     have hb0:=i1
     simp only [yf,Bool.and_eq_true,decide_eq_true_eq,List.all_eq_true]at hb0
     exact hb0.2.2.2.2.2.2.1
    have hx:=ak6 q2
    have hsr:(os2.map okd).Pairwise fun x y=>lessB y.1 x.1=false:=by
     rw [List.pairwise_map,List.pairwise_iff_getElem]
     exact fun i j hi hj hij=>q3 i j hi hj hij
    exact⟨A2,c2,os2,q1,ael (hx.trans i2.symm) (ahW hx (akk hT (ae4 hR)) hsr) i3,q4.ext,(ahO i1 q2 q4).1⟩)
  have HCk:=hiD (fun W (hW:Ext w3 W)=>af1 W u (hAt.on hW (Nat.le_refl _)))
  rw [show xW u=0 by rw [xW,i1];rfl]at HCk
  have E3:=hiD (E2.out.trans h3.ext)
  clear hr hin hfit hAt i1 i2 i3
  obtain⟨ucap,⟨uA,un,uc,ux⟩,⟨vA,vn,vc,vx⟩,⟨xA,xn,xc,xx⟩⟩:=u
  simp only [Pol.cells,Sl.val]at HOb HCk ⊢
  have HH:=hiD (Heap.start w3)
  clear h3
  go_upto_region 4 with(refine sSX (hiD (HH.out.alloc _ _)) zD 0 ?_;clear HH;intro wS HH)
  go_wp2_with (refine lSX HH zD 0 ?_)
  refine(HOb.out _ HH.out.ext).mono ?_
  rintro e w5 ⟨A2,c2,os2,rfl,hos,e5,h2⟩
  replace HH:=hiD (HH.out.later e5)
  have HA2:=hiD h2
  have HOs:=hiD hos
  clear e5 h2 hos HOb
  have hl:=ac6 HOs.out
  rw [←Hn.out]at hl
  have hlen:((os2.length:Int) != (n:Int))=false:=by rw [hl];simp
  have HL:=hiD hl
  clear hl
  obtain⟨d0,d1,d2,d3,-⟩:=zY (HH.out.boxAt 0 rfl)
  go_wp2_with fail
  refine(HCk.out _ HH.out.ext).mono ?_
  rintro e w6 ⟨rfl,e6⟩
  replace HH:=hiD (HH.out.later e6)
  replace HA2:=hiD (yG HA2.out e6 (Nat.le_refl _) fun _ h=>Ob.At.on h e6 (Nat.le_refl _))
  clear e6 HCk d0 d1 d2 d3 hlen
  go_wp2_with fail
  have hl:=HL.out
  have E6:=hiD (E3.out.trans HH.out.ext)
  clear HH
  rw [hl]at HA2
  have hl2:=hl
  clear hl
  go_loopw [7] (fun i wr=> ∃k:Nat,k≤n∧i= .int .i64 (k:Int)∧Hid (Ext w6 wr)) (fun i _=>n - (intOf i).toNat)
  case atStart=>exact⟨0,Nat.zero_le _,rfl,hiD (Ext.refl _)⟩
  case round=>
   obtain⟨k,hk,rfl,HE⟩:=hrel
   by_cases hlt:k < n
   ·have hkk:(k:Int) < (n:Int):=by omega
    have l1:k < os.length:=by rw [←Hn.out];exact hlt
    have l2:k < os2.length:=by omega
    obtain⟨b1,o1,rfl,hb1,f0,f1,_⟩:=aaJ HA.out.rd l1
    obtain⟨b2,o2,hA2,hb2,g0,g1,_⟩:=aaJ HA2.out.rd l2
    dsimp only at hA2
    subst hA2
    have hE:=(E6.out.trans HE.out).trans (Ext.drew (Ext.refl wr))
    have hE6:=HE.out.trans (Ext.drew (Ext.refl wr))
    have hd1:=HA.out.all _ (List.getElem_mem l1)
    have hd2:=HA2.out.all _ (List.getElem_mem l2)
    have he:=ac3 HOs.out k l2 l1
    have hx1:=Rd.at hd1.data.rdb hE (Nat.le_refl _)
    have hx2:=Rd.at hd2.data.rdb hE6 (Nat.le_refl _)
    have q1:wr.drew.cell? ⟨b1,o1+k * 3,none⟩=_:=(Below.cell (p:=⟨b1,o1+k * 3,none⟩) hE hb1).trans f0
    have q2:wr.drew.cell? ⟨b1,o1+k * 3+1,none⟩=_:=(Below.cell (p:=⟨b1,o1+k * 3+1,none⟩) hE hb1).trans f1
    have q3:wr.drew.cell? ⟨b2,o2+k * 3,none⟩=_:=(Below.cell (p:=⟨b2,o2+k * 3,none⟩) hE6 hb2).trans g0
    have q4:wr.drew.cell? ⟨b2,o2+k * 3+1,none⟩=_:=(Below.cell (p:=⟨b2,o2+k * 3+1,none⟩) hE6 hb2).trans g1
    have hn1:=hd1.data.len
    have hn2:=hd2.data.len
    clear f0 f1 g0 g1 hE hE6 hd1 hd2
    generalize os[k]=x at *
    generalize os2[k]=y at *
    obtain⟨k1,⟨A3,n3,c3,x3⟩,_⟩:=x
    obtain⟨k2,⟨A4,n4,c4,x4⟩,_⟩:=y
    simp only [okd,Prod.mk.injEq]at he
    obtain⟨rfl,rfl⟩:=he
    simp only [Sl.val]at q2 q4
    have hc1:=qB (P:=Tryz.prog) wr.drew 53 9 5 Tryz.underlying53 Tryz.underlying5 Tryz.underlying9 _ _ A3 n3 c3 x4 hn1 hx1
    have hc2:=qB (P:=Tryz.prog) wr.drew 53 9 5 Tryz.underlying53 Tryz.underlying5 Tryz.underlying9 _ _ A4 n4 c4 x4 hn2 hx2
    have hs1:(k2.toList != k2.toList)=false:=by simp
    have hs2:((⟨x4.toArray⟩:ByteArray).toList != (⟨x4.toArray⟩:ByteArray).toList)=false:=by simp
    clear hx1 hx2 hn1 hn2
    go_upto_region 12 with fail
    refine wp_region_held_drew (S:=fun w'=>w'=(wr).drew) (by kernel_rfl) rfl (fun hHeld=>?_)
    refine tW 0 26 ?_
    refine dnX ?_
    go_wp2_with fail
    go_roundw
    case rel=>exact⟨k+1,by omega,by go_num,hiD (Ext.drew HE.out)⟩
    case measure=>simp [intOf];omega
   ·obtain rfl:k=n:=by omega
    go_wp2_with fail
    go_ret
    exact⟨rfl,E6.out.trans HE.out⟩
end Go.Proofs.YtckaneapjpiocaaGreatDoor
namespace Go.Proofs.YtckaneapjpiocaaGreatDoor.opb
open Go.RowKit Go.ChangeShapes Go.WideShapes Go.Deep Go.Joins
section
variable {H:Type} {enc:TypeId×Value→H} {w:World}
theorem akT:zz enc Tryz.prog w 53 (fun s:Oct=> [s.val]) (fun s=>Oct.At w 0 w.heap.size s∧s.n≤1048576):=
 (yz 1 Tryz.underlying53 (by kernel_rfl) (by omega) (fun _=>rfl) ((zS Tryz.underlying5).map (fun z=>UInt8.ofNat z.toNat) (fun z h=>by
   have h1:(0:Int)≤z∧z≤255:=h
   show [Value.int .u8 z]= [.int .u8 ((UInt8.ofNat z.toNat).toNat:Int)]
   rw [UInt8.toNat_ofNat']
   congr 2
   omega) (I':=fun _=>True) (fun _ _=>trivial))).map id (fun _ _=>rfl) (fun s h=>⟨⟨h.len,h.le,h.cap,h.rd,fun _ _=>trivial⟩,h.small⟩)
theorem ajR:zz enc Tryz.prog w 54 (fun s:Loc=> [s.val]) (fun s=>Loc.At w 0 w.heap.size s):=
 (yz 1 Tryz.underlying54 (by kernel_rfl) (by omega) (fun _=>rfl) ((zS Tryz.underlying3).map (cells':=amh) id (fun z h=>rfl) (I':=fun y=>(Lit.int .i64 y).wf=true) (fun y h=>by
   simp only [Lit.wf,Bool.and_eq_true,decide_eq_true_eq];exact h))).map id (fun _ _=>rfl) (fun s h=>⟨h.len,h.le,h.cap,h.rd,h.all⟩)
theorem alT:zz enc Tryz.prog w 56 Ob.cells (fun x=>Ob.At w 0 w.heap.size x∧x.data.n≤1048576∧x.key.size≤1048576):=
 (yj Tryz.underlying56 (by kernel_rfl) (zi.cons 1 (yq Tryz.underlying9) rfl (by kernel_rfl) (zi.cons 1 akT rfl (by kernel_rfl) (zi.cons 1 ajR rfl (by kernel_rfl) zi.nil)))).map
   (fun x=>⟨x.1,x.2.1,x.2.2.1⟩) (fun _ _=>rfl) (fun _ h=>⟨⟨Nat.le_trans h.1 (by decide),h.2.1.1,h.2.2.1⟩,h.2.1.2,h.1⟩)
theorem opens_objs:zz enc Tryz.prog w 33 (fun s:Sl Ob=> [s.val]) (In w Ob.cells (fun x=>Ob.At w 0 w.heap.size x∧x.data.n≤1048576∧x.key.size≤1048576)):=
 yz 3 Tryz.underlying33 (by kernel_rfl) (by omega) (fun _=>rfl) alT
end
end Go.Proofs.YtckaneapjpiocaaGreatDoor.opb
