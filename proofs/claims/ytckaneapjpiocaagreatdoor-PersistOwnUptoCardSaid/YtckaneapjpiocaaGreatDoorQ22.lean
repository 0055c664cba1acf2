/- The texts Rr9 in one file. -/
import Derived.Test.YtckaneapjpiocaaGreatDoorQ20
import Derived.Test.YtckaneapjpiocaaGreatDoorQ21
set_option linter.unusedVariables false
set_option linter.unusedSimpArgs false
set_option maxHeartbeats 16000000
set_option maxRecDepth 100000
namespace Go.Proofs.YtckaneapjpiocaaGreatDoor
open Go.RowKit Go.Maps Go.Sort Go.Shelf
section
variable {P:Program} {l rest rest':List Oper} {Q:Exit→Act→World→Prop} {md:Region.Mode} {S:World→Prop} {oi oj:Oper} {fuel:Nat} {m:Nat→Bool} {listed:Array Bool} {a:Act} {w:World}
theorem amS(i j:Nat)(hi:l.drop i=oi::rest)(hj:l.drop j=oj::rest')(hr:Region.ready md l.toArray listed= [i,j])(wi:Region.wanted oi (yielded l.toArray a.tmps)=true)(wj:Region.wanted oj (yielded l.toArray a.tmps)=true)
 (h1: ∀K':Act→World→Prop,Shut (∀a w,S w→(S w→zU P md l.toArray Q S m fuel (listed.setIfInBounds i true) a w)→K' a w)→Oper.wp P oi a w K' Q)
 (h2: ∀K':Act→World→Prop,Shut (∀a w,S w→(S w→zU P md l.toArray Q S m fuel (listed.setIfInBounds j true) a w)→K' a w)→Oper.wp P oj a w K' Q):zU P md l.toArray Q S m (fuel+1) listed a w:=by
 refine⟨fun h0=>absurd (hr▸h0) (by simp),fun k hk=>?_⟩
 rw [hr]at hk
 rcases List.mem_cons.1 hk with rfl | hk
 ·exact wpOp_step (xH hi) fun K' hK=>by rw [if_pos wi];exact h1 K' (fun a w hS hW=>hK a w ⟨fun _=>hS,hW hS⟩)
 ·obtain rfl:=List.mem_singleton.1 hk
  exact wpOp_step (xH hj) fun K' hK=>by rw [if_pos wj];exact h2 K' (fun a w hS hW=>hK a w ⟨fun _=>hS,hW hS⟩)
end
def agS:List ByteArray→Option (Rec×List ByteArray)
 | []=>none
 | s::l=>if psE s.data.toList=0∧psM s.data.toList=s.size then some (psA s.data.toList,l)else none
def ahi:List ByteArray→Option (Su×List ByteArray)
 | []=>none
 | s::l=>if acO s.data.toList=0 then some (qd s.data.toList,l)else none
def aeY(into:ByteArray)(ts:List ByteArray):Option Stg:=
 (agS ts).bind fun r=>(qS r.2).bind fun d=>(rAm d.2).bind fun a=>(rAm a.2).bind fun x=>(ahi x.2).bind fun s=>(rNm 1 s.2).bind fun q=>(abw q.2).bind fun _=>some ⟨into,r.1,none,0,0,d.1,a.1,x.1,s.1,q.1 == 1⟩
def aaS(into:ByteArray)(l:List UInt8):Option Stg:=if(rd l).1=0 then aeY into (rd l).2 else none
structure StgIn (L:RdL) (x:Stg):Prop where
 beg:(x.beg.oA,prps x.beg.own)∈L
 begL:x.beg.on=x.beg.own.length
 bodyN:x.bn=x.body.length
 bodyC:x.bn≤x.bc∧x.bc≤maxLen
 body:(x.bA,blks x.body)∈L
theorem StgIn.sub{L L2:RdL}{x:Stg}(h:StgIn L x)(hs: ∀q∈L,q∈L2):StgIn L2 x:=⟨hs _ h.beg,h.begL,h.bodyN,h.bodyC,hs _ h.body⟩
structure Stg.fit (x:Stg):Prop where
 into:sml x.into
 beg:x.beg.wf
 begN:x.beg.on≤1048576
 begS:(sumR x.beg).wf
 bodyM:x.bn≤1048576
 bodyW: ∀b∈x.body,b.wf
 pos:(Lit.int .i64 x.pos).wf=true
 next:(Lit.int .i64 x.next).wf=true
 su:x.su.wf
def apl(w0:World)(its:List It)(r:Option Stg)(e:Ending)(w':World):Prop:=match r with
 | none=>e=aao 21∧Heap w0 its w'
 | some px=> ∃(x:Stg) (S:Nat→Prop) (L2:RdL),e= .returned (.agg x.cells.toArray)∧x.bare=px∧StgIn L2 x∧x.fit∧Heap w0 (It.bag S L2::its) w'
theorem anM(l:List UInt8)(h:psE l=0):(psA l).okc:=by
 rw [psA,if_pos h]
 have hs:=ado (psT l)
 refine af9 _ _ ?_ (Nat.le_trans hs.1 (by decide)) (fun s h=>Nat.le_trans (hs.2 s h) (by decide))
 have:=((l.headD 0).toNat_lt)
 omega
theorem amd(l:List UInt8)(y:Rec)(h:y.bare=psA l):psA l=(psA l).bare:=by rw [←h];rfl
theorem amN{w0 w:World}{its:List It}(H:Heap w0 its w)(path:ByteArray)(hp:sml path)(key:ByteArray)(A:Option Addr)(n c:Nat)(l:List UInt8)(lA:Option Addr)(ln lc:Nat)(hn:n=l.length)(hnc:n≤c)(hcm:c≤maxLen)(hr:Rd w 0 w.heap.size A (bytes l))(hN:n≤100000000):
 Calls Tryz.prog 50 #[.string path,.agg #[.string key,.slice A n c,.slice lA ln lc]] w (apl w0 its (aaS path l)):=by
 have HH:=hiD H
 have HPt:=hiD hp
 have HOp:=hiD (fun W i9 (hW:Ext w W) (h:Heap w0 i9 W)=>aea h key A n c l (.slice lA ln lc) hn hnc hcm (Rd.at hr hW (Nat.le_refl _)) hN)
 have HV:=hiD (show aaS path l=if(rd l).1=0 then aeY path (rd l).2 else none from rfl)
 generalize aaS path l=V at *
 clear H hp hn hnc hcm hr hN
 go_enter Tryz.func50,Tryz.ntmps50
 go_upto_region 1 with fail
 generalize hwH:World.alloc (World.alloc w _) _=w1
 have HE:=hiD (show Ext w w1 by rw [←hwH];exact((Ext.refl w).alloc _).alloc _)
 replace HH:=hiD ((HH.out.alloc _ _).allocE hwH)
 clear hwH
 simp only [World.size_alloc]at HH
 obtain⟨ob,hob⟩: ∃b,b=w.heap.size:=⟨_,rfl⟩
 obtain⟨rb,hrb⟩: ∃b,b=w.heap.size+1:=⟨_,rfl⟩
 rw [←hrb,←hob]at HH ⊢
 clear hrb hob
 go_wp2_with (refine lSX HH yr 1 ?_)
 refine(HOp.out _ _ HE.out HH.out).mono ?_
 intro e w2 h
 clear HE HOp
 by_cases hE:(rd l).1=0
 ·rw [acl,if_pos hE]at h
  obtain⟨b,rfl,h⟩:=h
  have hV:=HV.out
  rw [if_pos hE,aeY]at hV
  replace HV:=hiD hV
  replace HH:=hiD h
  clear hV h hE
  generalize (rd l).2=ts at *
  go_wp2_with fail
  cases ts with
  | nil=>
    have hV:=HV.out
    rw [agS,Option.bind_none]at hV
    subst hV
    refine(aaw HH.out).mono ?_
    rintro e w3 ⟨rfl,h3⟩
    exact⟨rfl,rfl,h3.tail.tail⟩
  | cons s us=>
    have hs:=HH.out.small.2 s (List.mem_cons_self ..)
    refine(aa3 HH.out).mono ?_
    rintro e w3 ⟨rfl,h3⟩
    obtain⟨cc,w4,hcv,e4,hr4,hcc,hcm⟩:=acR w3 s (by omega)
    replace HH:=hiD (h3.later e4)
    have HPs:=hiD (alj w4 _ s.size cc s.data.toList rfl hcc hr4.m0 (by omega) (by simp only [maxLen]at hcm;omega))
    have hV:=HV.out
    rw [agS]at hV
    replace HV:=hiD hV
    clear h3 e4 hr4 hcc hcm hV
    have HPm:=hiD (show psM s.data.toList≤65538 by
     rw [psM]
     split
     ·have h1:=abP ((s.data.toList.drop 1).take 2)
      have h2:((s.data.toList.drop 1).take 2).length≤2:=by rw [List.length_take];omega
      have h3:256 ^ ((s.data.toList.drop 1).take 2).length≤256 ^ 2:=Nat.pow_le_pow_right (by decide) h2
      have h4:psN s.data.toList=val ((s.data.toList.drop 1).take 2):=rfl
      omega
     ·omega)
    go_upto_region 3 with fail
    go_wp2_with fail
    refine HPs.out.mono ?_
    rintro e w5 ⟨y,rfl,hy1,hy2,hy3,e5⟩
    have HA:=hiD (anM s.data.toList)
    have HAb:=hiD (amd _ y hy1)
    rw [←hy1]at HA HAb HV
    have HR:=hiD (HH.out.more (L2:= [(y.oA,prps y.own)]) e5 (fun q hq=>by
     obtain rfl:=List.mem_singleton.1 hq
     exact hy3))
    have HY:=hiD hy2
    have hm:=HPm.out
    generalize psM s.data.toList=pm at *
    generalize psE s.data.toList=pe at *
    clear hy1 hy2 hy3 e5 HPs HPm HH
    obtain⟨A2,c2,S2,L2,_,_,H,hB⟩:=HR.out.open
    have HH:=hiD H
    have HB:=hiD hB
    clear H hB HR
    obtain⟨kind,rnm,frm,guid,oA,on,oc,own,index,count,data,s0,s1,s2,s3⟩:=y
    simp only [Rec.cells]at HH ⊢
    (try dsimp only at HY)
    (try dsimp only at HB)
    go_upto_region 4 with(refine sSX (hiD (HH.out.alloc _ _)) ze 0 ?_;clear HH;intro wS HH)
    obtain⟨pb,hpb⟩: ∃b,b=w5.heap.size:=⟨_,rfl⟩
    rw [←hpb]at HH ⊢
    clear hpb
    have HR:=hiD (show RS w0 b (.box pb [.int .i64 kind,.string rnm,.int .i64 frm,.int .i64 guid,.slice oA on oc,.int .i64 index,.int .i64 count,.string data,.int .u64 s0,.int .u64 s1,.int .u64 s2,.int .u64 s3]:: .box rb _:: .box ob _::its) _ us wS from HB.out _ _ HH.out.in2)
    clear HB HH
    by_cases hok:pe=0∧pm=s.size
    ·obtain⟨rfl,rfl⟩:=hok
     have hV:=HV.out
     rw [if_pos ⟨rfl,rfl⟩,Option.bind_some]at hV
     replace HV:=hiD hV
     clear hV
     replace HA:=hiD (HA.out rfl)
     go_wp2_with fail
     refine(yX _ 21).mono ?_
     rintro e wN ⟨rfl,rfl⟩
     (try dsimp only at HV)
     go_upto_region 5 with fail
     replace HR:=hiD (HR.out.later (Ext.drew (Ext.refl _)))
     refine qe (fun z=>true) (S:=Heap w0 [.box pb [.int .i64 kind,.string rnm,.int .i64 frm,.int .i64 guid,.slice oA on oc,.int .i64 index,.int .i64 count,.string data,.int .u64 s0,.int .u64 s1,.int .u64 s2,.int .u64 s3]]) (by kernel_rfl) (HR.out.heap.only 0 rfl) (fun hHeld=>?_)
     generalize World.drew _=wd at *
     refine tM 0 1 ?_
     refine mG 1 rfl (fun wT hST=>zj hST ze (by kernel_rfl) rfl rfl 0 rfl (Nat.le_of_ble_eq_true rfl)) hHeld ?_
     refine lyX ?_
     refine tM 2 1 ?_
     refine tM 4 1 ?_
     refine tM 6 1 ?_
     clear hHeld
     refine amS 3 9 rfl rfl (by kernel_rfl) (by kernel_rfl) (by kernel_rfl) (fun K hK=>?_) (fun K hK=>?_)
     focus
      go_simp
      refine zw HV (aem HR.out) (fun w' h1 h2=>by subst h1;exact⟨rfl,rfl,h2.tail.tail.tail⟩) ?_
      rintro bd us e wE HV ⟨b9,bA,bc,rfl,q1,q2,h⟩
      replace HR:=hiD h
      clear h
      (try dsimp only at HV)
      go_wp2_with fail
      refine hK.out _ _ (HR.out.heap.only 0 rfl) (fun hHeld=>?_)
      clear hK K hHeld
      refine lyX ?_
      refine amS 5 9 rfl rfl (by kernel_rfl) (by kernel_rfl) (by kernel_rfl) (fun K hK=>?_) (fun K hK=>?_)
      focus
       go_simp
       refine zw HV (qZ HR.out) (fun w' h1 h2=>by subst h1;exact⟨rfl,rfl,h2.tail.tail.tail⟩) ?_
       rintro at_ us e wE HV ⟨t0,t1,rfl,h⟩
       replace HR:=hiD h
       clear h
       (try dsimp only at HV)
       go_wp2_with fail
       refine hK.out _ _ (HR.out.heap.only 0 rfl) (fun hHeld=>?_)
       clear hK K hHeld
       refine lyX ?_
       refine amS 7 9 rfl rfl (by kernel_rfl) (by kernel_rfl) (by kernel_rfl) (fun K hK=>?_) (fun K hK=>?_)
       focus
        go_simp
        refine zw HV (qZ HR.out) (fun w' h1 h2=>by subst h1;exact⟨rfl,rfl,h2.tail.tail.tail⟩) ?_
        rintro nx us e wE HV ⟨x0,x1,rfl,h⟩
        replace HR:=hiD h
        clear h
        (try dsimp only at HV)
        go_wp2_with fail
        refine hK.out _ _ (HR.out.heap.only 0 rfl) (fun hHeld=>?_)
        clear hK K hHeld
        refine lyX ?_
        have hHeld:=HR.out.heap.only 0 rfl
        refine tM 8 1 ?_
        clear hHeld
        refine oMX 9 (fun K hK=>?_)
        go_simp
        generalize hwA:World.alloc _ _=wA
        replace HR:=hiD (HR.out.push fun l h=>h.allocE hwA)
        clear hwA
        obtain⟨xb,hxb⟩: ∃b,b=wE.heap.size:=⟨_,rfl⟩
        rw [←hxb]at HR ⊢
        clear hxb
        refine hK.out _ _ (HR.out.heap.only 1 rfl) (fun hHeld=>?_)
        clear hK K hHeld
        refine lyX ?_
       rotate_left 1
       focus
        go_simp
        generalize hwA:World.alloc _ _=wA
        replace HR:=hiD (HR.out.push fun l h=>h.allocE hwA)
        clear hwA
        obtain⟨xb,hxb⟩: ∃b,b=wE.heap.size:=⟨_,rfl⟩
        rw [←hxb]at HR ⊢
        clear hxb
        refine hK.out _ _ (HR.out.heap.only 1 rfl) (fun hHeld=>?_)
        clear hK K hHeld
        refine lyX ?_
        refine oMX 7 (fun K hK=>?_)
        go_simp
        refine zw HV (qZ HR.out) (fun w' h1 h2=>by subst h1;exact⟨rfl,rfl,h2.tail.tail.tail.tail⟩) ?_
        rintro nx us e wE HV ⟨x0,x1,rfl,h⟩
        replace HR:=hiD h
        clear h
        (try dsimp only at HV)
        go_wp2_with fail
        refine hK.out _ _ (HR.out.heap.only 1 rfl) (fun hHeld=>?_)
        clear hK K hHeld
        refine lyX ?_
        have hHeld:=HR.out.heap.only 1 rfl
        refine tM 8 1 ?_
        clear hHeld
      rotate_left 2
      focus
       go_simp
       generalize hwA:World.alloc _ _=wA
       replace HR:=hiD (HR.out.push fun l h=>h.allocE hwA)
       clear hwA
       obtain⟨xb,hxb⟩: ∃b,b=wE.heap.size:=⟨_,rfl⟩
       rw [←hxb]at HR ⊢
       clear hxb
       refine hK.out _ _ (HR.out.heap.only 1 rfl) (fun hHeld=>?_)
       clear hK K hHeld
       refine lyX ?_
       refine oMX 5 (fun K hK=>?_)
       go_simp
       refine zw HV (qZ HR.out) (fun w' h1 h2=>by subst h1;exact⟨rfl,rfl,h2.tail.tail.tail.tail⟩) ?_
       rintro at_ us e wE HV ⟨t0,t1,rfl,h⟩
       replace HR:=hiD h
       clear h
       (try dsimp only at HV)
       go_wp2_with fail
       refine hK.out _ _ (HR.out.heap.only 1 rfl) (fun hHeld=>?_)
       clear hK K hHeld
       refine lyX ?_
       refine oMX 7 (fun K hK=>?_)
       go_simp
       refine zw HV (qZ HR.out) (fun w' h1 h2=>by subst h1;exact⟨rfl,rfl,h2.tail.tail.tail.tail⟩) ?_
       rintro nx us e wE HV ⟨x0,x1,rfl,h⟩
       replace HR:=hiD h
       clear h
       (try dsimp only at HV)
       go_wp2_with fail
       refine hK.out _ _ (HR.out.heap.only 1 rfl) (fun hHeld=>?_)
       clear hK K hHeld
       refine lyX ?_
       have hHeld:=HR.out.heap.only 1 rfl
       refine tM 8 1 ?_
       clear hHeld
     rotate_left 3
     focus
      go_simp
      generalize hwA:World.alloc _ _=wA
      replace HR:=hiD (HR.out.push fun l h=>h.allocE hwA)
      clear hwA
      obtain⟨xb,hxb⟩: ∃b,b=wd.heap.size:=⟨_,rfl⟩
      rw [←hxb]at HR ⊢
      clear hxb
      refine hK.out _ _ (HR.out.heap.only 1 rfl) (fun hHeld=>?_)
      clear hK K hHeld
      refine lyX ?_
      refine oMX 3 (fun K hK=>?_)
      go_simp
      refine zw HV (aem HR.out) (fun w' h1 h2=>by subst h1;exact⟨rfl,rfl,h2.tail.tail.tail.tail⟩) ?_
      rintro bd us e wE HV ⟨b9,bA,bc,rfl,q1,q2,h⟩
      replace HR:=hiD h
      clear h
      (try dsimp only at HV)
      go_wp2_with fail
      refine hK.out _ _ (HR.out.heap.only 1 rfl) (fun hHeld=>?_)
      clear hK K hHeld
      refine lyX ?_
      refine oMX 5 (fun K hK=>?_)
      go_simp
      refine zw HV (qZ HR.out) (fun w' h1 h2=>by subst h1;exact⟨rfl,rfl,h2.tail.tail.tail.tail⟩) ?_
      rintro at_ us e wE HV ⟨t0,t1,rfl,h⟩
      replace HR:=hiD h
      clear h
      (try dsimp only at HV)
      go_wp2_with fail
      refine hK.out _ _ (HR.out.heap.only 1 rfl) (fun hHeld=>?_)
      clear hK K hHeld
      refine lyX ?_
      refine oMX 7 (fun K hK=>?_)
      go_simp
      refine zw HV (qZ HR.out) (fun w' h1 h2=>by subst h1;exact⟨rfl,rfl,h2.tail.tail.tail.tail⟩) ?_
      rintro nx us e wE HV ⟨x0,x1,rfl,h⟩
      replace HR:=hiD h
      clear h
      (try dsimp only at HV)
      go_wp2_with fail
      refine hK.out _ _ (HR.out.heap.only 1 rfl) (fun hHeld=>?_)
      clear hK K hHeld
      refine lyX ?_
      have hHeld:=HR.out.heap.only 1 rfl
      refine tM 8 1 ?_
      clear hHeld
     all_goals
      refine fMX 10 (fun K hK=>?_)
      obtain⟨A2,c2,S2,L2,_,_,H,hB⟩:=HR.out.open
      refine yE H xT rfl rfl rfl 2 rfl rfl (Nat.le_of_ble_eq_true rfl) rfl ?_
      intro wF hF
      refine hK.out _ _ ?_;clear hK K;refine lyX ?_
      refine xD (by kernel_rfl) ?_
      replace HR:=hiD (show RS w0 b (.box xb [.string path,.int .i64 kind,.string rnm,.int .i64 frm,.int .i64 guid,.slice oA on oc,.int .i64 index,.int .i64 count,.string data,.int .u64 s0,.int .u64 s1,.int .u64 s2,.int .u64 s3,.slice bA bd.length bc,.int .i64 at_,.int .i64 nx,.int .u64 0,.int .u64 0,.int .u64 0,.int .u64 0,.bool false]:: .box pb _:: .box rb _:: .box ob _::its) _ us wF from hB _ _ hF)
      have HQ:=hiD (And.intro b9 (And.intro q1 q2))
      clear H hB hF b9 q1 q2
      go_wp2_with fail
      cases us with
      | nil=>
        have hV:=HV.out
        rw [ahi,Option.bind_none]at hV
        subst hV
        refine(aaw HR.out).mono ?_
        rintro e w9 ⟨rfl,h9⟩
        exact⟨rfl,rfl,h9.tail.tail.tail.tail⟩
      | cons s9 us=>
        have hs:=HR.out.small.2 s9 (List.mem_cons_self ..)
        refine(aa3 HR.out).mono ?_
        rintro e w9 ⟨rfl,h9⟩
        obtain⟨cc,w10,hcv,e10,hr10,hcc,hcm⟩:=acR w9 s9 (by omega)
        replace HR:=hiD (h9.later e10)
        have HFr:=hiD (agj w10 _ s9.size cc s9.data.toList rfl hcc hr10.m0 (by omega) (by simp only [maxLen]at hcm;omega))
        have HSw:=hiD (agP s9.data.toList)
        have hV:=HV.out
        rw [ahi]at hV
        replace HV:=hiD hV
        generalize qd s9.data.toList=su at *
        generalize acO s9.data.toList=sE at *
        clear h9 e10 hr10 hcc hcm hV
        go_wp2_with fail
        refine HFr.out.mono ?_
        rintro e w11 ⟨rfl,e11⟩
        obtain⟨A2,c2,S2,L2,_,_,H,hB⟩:=(HR.out.later e11).open
        have HH:=hiD H
        have HB:=hiD hB
        clear H hB HR HFr e11
        obtain⟨ua,ub,uc,ud⟩:=su
        simp only [Su.cells]
        go_upto_region 7 with(first | (refine sSX HH qw 2 ?_;clear HH;intro wS HH))
        have HR:=hiD (show RS w0 b (.box xb [.string path,.int .i64 kind,.string rnm,.int .i64 frm,.int .i64 guid,.slice oA on oc,.int .i64 index,.int .i64 count,.string data,.int .u64 s0,.int .u64 s1,.int .u64 s2,.int .u64 s3,.slice bA bd.length bc,.int .i64 at_,.int .i64 nx,.int .u64 ua,.int .u64 ub,.int .u64 uc,.int .u64 ud,.bool false]:: .box pb _:: .box rb _:: .box ob _::its) _ us wS from HB.out _ _ HH.out)
        clear HB HH
        by_cases hsE:sE=0
        ·subst hsE
         have hV:=HV.out
         rw [if_pos rfl,Option.bind_some]at hV
         replace HV:=hiD hV
         clear hV
         go_wp2_with fail
         refine(yX _ 21).mono ?_
         rintro e wN ⟨rfl,rfl⟩
         (try dsimp only at HV)
         go_wp2_with fail
         refine zw HV (ad2 HR.out 1) (fun w' h1 h2=>by subst h1;exact⟨rfl,rfl,h2.tail.tail.tail.tail⟩) ?_
         rintro qv us e wE HV ⟨v0,v1,rfl,h⟩
         obtain⟨A2,c2,S2,L2,_,_,H,hB⟩:=h.open
         have HH:=hiD H
         have HB:=hiD hB
         clear H hB h HR
         (try dsimp only at HV)
         go_upto_region 9 with(refine s1X HH 2 ?_;clear HH;intro wS HH)
         have HR:=hiD (show RS w0 b (.box xb [.string path,.int .i64 kind,.string rnm,.int .i64 frm,.int .i64 guid,.slice oA on oc,.int .i64 index,.int .i64 count,.string data,.int .u64 s0,.int .u64 s1,.int .u64 s2,.int .u64 s3,.slice bA bd.length bc,.int .i64 at_,.int .i64 nx,.int .u64 ua,.int .u64 ub,.int .u64 uc,.int .u64 ud,.bool (qv == 1)]:: .box pb _:: .box rb _:: .box ob _::its) _ us wS from HB.out _ _ HH.out)
         clear HB HH
         go_wp2_with fail
         refine zw HV (afD HR.out) (fun w' h1 h2=>by subst h1;exact⟨rfl,rfl,h2.tail.tail.tail.tail⟩) ?_
         rintro _ us e wE HV ⟨rfl,h⟩
         have hV:=HV.out
         subst hV
         obtain⟨A2,c2,S2,L2,_,hL2,H,hB⟩:=h.open
         have HH:=hiD H
         have HB:=hiD hB
         clear H hB h HR
         go_wp2_with (first | (refine lSX HH xT 2 ?_) | (refine sSX HH xT 4 ?_;clear HH;intro wS HH))
         refine aax xT (by kernel_rfl) HH.out rfl rfl 4 rfl rfl rfl ?_
         obtain⟨S9,L9,hL9,H9⟩:=(HB.out _ _ HH.out).drop.drop.drop.drop.leave
         have hq:=HQ.out
         obtain⟨d1,d2⟩:=qt _ hq.1.1
         have hok:=ahg (x:=⟨kind,rnm,frm,guid,oA,on,oc,own,index,count,data,s0,s1,s2,s3⟩) (y:=Rec.bare ⟨kind,rnm,frm,guid,oA,on,oc,own,index,count,data,s0,s1,s2,s3⟩) rfl HA.out
         refine⟨⟨path,⟨kind,rnm,frm,guid,oA,on,oc,own,index,count,data,s0,s1,s2,s3⟩,bA,bd.length,bc,bd,at_,nx,⟨ua,ub,uc,ud⟩,qv == 1⟩,S9,L9,rfl,rfl,⟨hL9 _ (by simp),HY.out,rfl,hq.2,hL9 _ (by simp)⟩,⟨HPt.out,alt hok HY.out,?_,hok.sum,Nat.le_trans d1 (by decide),hq.1.2,aas t0 (Int.le_trans t1 (by decide)),aas x0 (Int.le_trans x1 (by decide)),HSw.out⟩,H9⟩
         have:=hok.own
         have h9:=HY.out
         show on≤1048576
         (try dsimp only at this)
         omega
        ·have hV:=HV.out
         rw [if_neg hsE,Option.bind_none]at hV
         subst hV
         have hd:(sE == 0)=false:=by simpa using hsE
         go_wp2_with fail
         refine(yB _ 21).mono ?_
         rintro e wN ⟨rfl,rfl⟩
         exact⟨rfl,rfl,HR.out.heap.tail.tail.tail.tail⟩
    ·have hV:=HV.out
     rw [if_neg hok,Option.bind_none]at hV
     subst hV
     by_cases hp0:pe=0
     ·have hd:((pm:Int) == (s.size:Int))=false:=by
       have:pm≠s.size:=fun h=>hok ⟨hp0,h⟩
       simp;omega
      subst hp0
      go_wp2_with fail
      refine(yB _ 21).mono ?_
      rintro e wN ⟨rfl,rfl⟩
      exact⟨rfl,rfl,HR.out.heap.tail.tail.tail⟩
     ·have hd:(pe == 0)=false:=by simpa using hp0
      go_wp2_with fail
      refine(yB _ 21).mono ?_
      rintro e wN ⟨rfl,rfl⟩
      exact⟨rfl,rfl,HR.out.heap.tail.tail.tail⟩
 ·rw [acl,if_neg hE]at h
  obtain⟨rfl,h⟩:=h
  have hV:=HV.out
  rw [if_neg hE]at hV
  subst hV
  exact⟨rfl,rfl,h.tail.tail⟩
end Go.Proofs.YtckaneapjpiocaaGreatDoor
