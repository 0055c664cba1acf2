/- The texts Rr8 in one file. -/
import Derived.Test.YtckaneapjpiocaaGreatDoorQ19
set_option linter.unusedVariables false
set_option linter.unusedSimpArgs false
set_option maxHeartbeats 8000000
set_option maxRecDepth 100000
namespace Go.Proofs.YtckaneapjpiocaaGreatDoor
open Go.RowKit Go.Maps Go.Sort Go.Shelf
theorem anv:(Tryz.prog.info? 116).map (fun i=>(i.zero,i.size,i.bytes))=some (some (.agg #[.string .empty,.string .empty,.int .i64 0]),3,40):=by kernel_rfl
theorem ah7:(Tryz.prog.info? 81).map (fun i=>(i.zero,i.size,i.bytes))=some (some (.agg #[.string .empty,.int .i64 0,.string .empty,.int .i64 0]),4,48):=by kernel_rfl
def adj(ts:List ByteArray):Option (Gra×List ByteArray):=(rTx ts).bind fun u=>(rTx u.2).bind fun p=>(rAm p.2).bind fun m=>some (⟨u.1,p.1,m.1⟩,m.2)
def aaN(ts:List ByteArray):Option (Lin×List ByteArray):=(rTx ts).bind fun u=>(rAm u.2).bind fun k=>(rTx k.2).bind fun p=>(rAm p.2).bind fun e=>some (⟨u.1,k.1,p.1,e.1⟩,e.2)
def rHd(name:ByteArray)(ts:List ByteArray):Option Tnt:=
 (rAm ts).bind fun q=>(rAm q.2).bind fun nx=>(rNm 16 nx.2).bind fun n=>(qH adj n.1.toNat n.2).bind fun g=>(rNm 16 g.2).bind fun m=>(qH aaN m.1.toNat m.2).bind fun l=>(abw l.2).bind fun _=>some ⟨name,q.1,nx.1,slB [],slB g.1,slB [],slB l.1⟩
def abC(name:ByteArray)(l:List UInt8):Option Tnt:=if(rd l).1=0 then rHd name (rd l).2 else none
structure HdIn (L:RdL) (px t:Tnt):Prop where
 name:t.name=px.name
 quota:t.quota=px.quota
 next:t.next=px.next
 sets:t.sets=slB []
 grants:t.grants.xs=px.grants.xs
 stages:t.stages=slB []
 log:t.log.xs=px.log.xs
 psets:px.sets=slB []
 pstages:px.stages=slB []
 pgrants:px.grants=slB px.grants.xs
 plog:px.log=slB px.log.xs
 grantsL:InL L Gra.cells t.grants
 logL:InL L Lin.cells t.log
 grantsF: ∀y∈t.grants.xs,Gra.sm y
 logF: ∀y∈t.log.xs,Lin.sm y
 quotaF:(Lit.int .i64 t.quota).wf=true
 nextF:(Lit.int .i64 t.next).wf=true
 gn:t.grants.xs.length≤16
 ln:t.log.xs.length≤16
def HdO(w0:World)(its:List It)(r:Option Tnt)(e:Ending)(w':World):Prop:=match r with
 | none=>e=aao 21∧Heap w0 its w'
 | some px=> ∃(t:Tnt) (S:Nat→Prop) (L2:RdL),e= .returned (.agg t.cells.toArray)∧HdIn L2 px t∧Heap w0 (It.bag S L2::its) w'
theorem an9{w0 w:World}{its:List It}(H:Heap w0 its w)(name:ByteArray)(key:ByteArray)(A:Option Addr)(n c:Nat)(l:List UInt8)(lA:Option Addr)(ln lc:Nat)(hn:n=l.length)(hnc:n≤c)(hcm:c≤maxLen)(hr:Rd w 0 w.heap.size A (bytes l))(hN:n≤100000000):
 Calls Tryz.prog 47 #[.string name,.agg #[.string key,.slice A n c,.slice lA ln lc]] w (HdO w0 its (abC name l)):=by
 obtain⟨i0,hi0,hz0,hz1,hz2⟩:=info_parts anv
 obtain⟨i1,hi1,hx0,hx1,hx2⟩:=info_parts ah7
 have HH:=hiD H
 have HOp:=hiD (fun W i9 (hW:Ext w W) (h:Heap w0 i9 W)=>aea h key A n c l (.slice lA ln lc) hn hnc hcm (Rd.at hr hW (Nat.le_refl _)) hN)
 have HV:=hiD (show abC name l=if(rd l).1=0 then rHd name (rd l).2 else none from rfl)
 generalize abC name l=V at *
 clear H hn hnc hcm hr hN
 go_enter Tryz.func47,Tryz.ntmps47
 go_upto_region 1 with fail
 generalize hwH:World.alloc (World.alloc w _) _=w1
 have HE:=hiD (show Ext w w1 by rw [←hwH];exact((Ext.refl w).alloc _).alloc _)
 replace HH:=hiD ((HH.out.alloc _ _).allocE hwH)
 clear hwH
 simp only [World.size_alloc]at HH
 obtain⟨ob,hob⟩: ∃b,b=w.heap.size:=⟨_,rfl⟩
 obtain⟨rb,hrb⟩: ∃b,b=w.heap.size+1:=⟨_,rfl⟩
 rw [←hrb,←hob]at HH ⊢
 clear hrb hob
 go_wp2_with (refine lSX HH yr 1 ?_)
 refine(HOp.out _ _ HE.out HH.out).mono ?_
 intro e w2 h
 clear HE HOp
 by_cases hE:(rd l).1=0
 ·rw [acl,if_pos hE]at h
  obtain⟨b,rfl,h⟩:=h
  have hV:=HV.out
  rw [if_pos hE,rHd]at hV
  replace HV:=hiD hV
  replace HH:=hiD h
  clear hV h hE
  generalize (rd l).2=ts at *
  go_wp2_with fail
  refine zw HV (qZ HH.out) (fun w' h1 h2=>by subst h1;exact⟨rfl,rfl,h2.tail.tail⟩) ?_
  rintro qu us e w3 HV ⟨a0,a1,rfl,h⟩
  replace HH:=hiD h
  clear h
  go_wp2_with fail
  refine zw HV (qZ HH.out) (fun w' h1 h2=>by subst h1;exact⟨rfl,rfl,h2.tail.tail⟩) ?_
  rintro nx us e w4 HV ⟨b0,b1,rfl,h⟩
  replace HH:=hiD h
  clear h
  obtain⟨A2,c2,S2,L2,_,_,H,hB⟩:=HH.out.open
  replace HH:=hiD H
  have HB:=hiD hB
  clear H hB
  dsimp only at HV
  go_upto_region 3 with(refine sSX (hiD (HH.out.alloc _ _)) zt 0 ?_;clear HH;intro wS HH)
  obtain⟨xb,hxb⟩: ∃b,b=w4.heap.size:=⟨_,rfl⟩
  rw [←hxb]at HH ⊢
  clear hxb
  replace HH:=hiD ((HB.out _ _ HH.out.in2).push (x:= .row 116 3 (.slice none 0 0) 0 []) fun l h=>h.row0)
  clear HB
  go_wp2_with fail
  refine zw HV (ad2 HH.out 16) (fun w' h1 h2=>by subst h1;exact⟨rfl,rfl,h2.tail.tail.tail.tail⟩) ?_
  rintro kv us e w6 HV ⟨k0,k4,rfl,h⟩
  replace HH:=hiD h
  clear h
  dsimp only at HV
  obtain⟨K,rfl⟩: ∃K:Nat,kv=(K:Int):=⟨kv.toNat,by omega⟩
  clear k0
  rw [Int.toNat_natCast]at HV
  go_wp2_with fail
  go_loopw [17] (fun i wr=> ∃(xs:List Gra) (us:List ByteArray),xs.length≤K∧i= .int .i64 (xs.length:Int)∧ ∃sA sc,Hid (V=(qH adj (K - xs.length) us).bind fun r=>(rNm 16 (r.2)).bind fun m=>(qH aaN m.1.toNat m.2).bind fun l=>(abw l.2).bind fun _=>some (⟨name,qu,nx,slB [],slB (xs++r.1),slB [],slB l.1⟩:Tnt))∧Hid (∀y∈xs,Gra.sm y)∧
   Hid (RS w0 b (.row 116 3 (.slice sA xs.length sc) xs.length (xs.flatMap Gra.cells):: .box xb [.string name,.int .i64 qu,.int .i64 nx,.slice none 0 0,.slice sA xs.length sc,.slice none 0 0,.slice none 0 0]:: .box rb [.string ⟨#[]⟩,.int .i64 0,.int .i64 0,.slice none 0 0,.slice none 0 0,.slice none 0 0,.slice none 0 0]:: .box ob [.string key,.slice A n c,.slice lA ln lc]::its) ([]:RdL) us wr)) (fun i _=>K - (intOf i).toNat)
  case atStart=>exact⟨[],us,Nat.zero_le _,rfl,none,0,HV,hiD (fun y h=>by cases h),HH⟩
  case round=>
   clear HH HV
   obtain⟨xs,us,hk,rfl,A2,c2,HV,HX,HH⟩:=hrel
   by_cases hlt:xs.length < K
   ·have hkk:(xs.length:Int) < (K:Int):=by omega
    have hV:=HV.out
    rw [show K - xs.length=(K - xs.length - 1)+1 by omega,acC adj (K - xs.length - 1) us xs (fun(d:List Gra) ts=>(rNm 16 (ts)).bind fun m=>(qH aaN m.1.toNat m.2).bind fun l=>(abw l.2).bind fun _=>some (⟨name,qu,nx,slB [],slB (d),slB [],slB l.1⟩:Tnt))]at hV
    simp only [adj,Option.bind_assoc,Option.bind_some]at hV
    replace HV:=hiD hV
    clear hV
    go_upto_region 5 with fail
    replace HH:=hiD (HH.out.later (Ext.drew (Ext.refl _)))
    obtain⟨A3,c3,S3,L3,_,_,H,_⟩:=HH.out.open
    refine qe (fun z=>Nat.blt z 11) (S:=fun W=>W.cell? ⟨xb,4,none⟩=some (.slice A2 xs.length c2)) (by kernel_rfl) ((H.boxAt 3 rfl).cell 4 _ rfl) (fun hHeld=>?_)
    generalize World.drew _=wd at *
    clear H
    refine tM 0 3 ?_
    refine tM 4 1 ?_
    refine tM 6 1 ?_
    clear hHeld
    refine oMX 3 (fun K hK=>?_)
    go_simp
    refine zw HV (ab6 HH.out) (fun w' h1 h2=>by subst h1;exact⟨rfl,rfl,h2.tail.tail.tail.tail⟩) ?_
    rintro u us e wa HV ⟨u0,rfl,h⟩
    replace HH:=hiD h
    clear h
    dsimp only at HV
    obtain⟨A3,c3,S3,L3,_,_,H,hB⟩:=HH.out.open
    go_wp2_with fail
    refine hK.out _ _ ((H.boxAt 3 rfl).cell 4 _ rfl) (fun hHeld=>?_)
    clear hK K
    refine lyX ?_
    clear H hB hHeld
    refine oMX 5 (fun K hK=>?_)
    go_simp
    refine zw HV (ab6 HH.out) (fun w' h1 h2=>by subst h1;exact⟨rfl,rfl,h2.tail.tail.tail.tail⟩) ?_
    rintro p us e wb HV ⟨p0,rfl,h⟩
    replace HH:=hiD h
    clear h
    dsimp only at HV
    obtain⟨A3,c3,S3,L3,_,_,H,hB⟩:=HH.out.open
    go_wp2_with fail
    refine hK.out _ _ ((H.boxAt 3 rfl).cell 4 _ rfl) (fun hHeld=>?_)
    clear hK K
    refine lyX ?_
    clear H hB hHeld
    refine oMX 7 (fun K hK=>?_)
    go_simp
    refine zw HV (qZ HH.out) (fun w' h1 h2=>by subst h1;exact⟨rfl,rfl,h2.tail.tail.tail.tail⟩) ?_
    rintro m us e wc_ HV ⟨m0,m1,rfl,h⟩
    replace HH:=hiD h
    clear h
    dsimp only at HV
    obtain⟨A3,c3,S3,L3,_,_,H,hB⟩:=HH.out.open
    go_wp2_with fail
    refine hK.out _ _ ((H.boxAt 3 rfl).cell 4 _ rfl) (fun hHeld=>?_)
    clear hK K
    refine lyX ?_
    refine tM 8 1 ?_
    clear hHeld
    replace HH:=hiD H
    have HB:=hiD hB
    clear H hB
    have HC:=hiD (show(xs++ [(⟨u,p,m⟩:Gra)]).flatMap Gra.cells=xs.flatMap Gra.cells++ [.string u,.string p,.int .i64 m]by simp [Gra.cells])
    have HLn:=hiD (show(xs++ [(⟨u,p,m⟩:Gra)]).length=xs.length+1 by simp)
    replace HX:=hiD (show∀y∈xs++ [(⟨u,p,m⟩:Gra)],Gra.sm y from fun y hy=>by
     rcases List.mem_append.1 hy with hy | hy
     ·exact HX.out y hy
     ·obtain rfl:=List.mem_singleton.1 hy
      exact⟨Nat.le_trans u0 (by decide),Nat.le_trans p0 (by decide),aas m0 (Int.le_trans m1 (by decide))⟩)
    generalize xs++ [(⟨u,p,m⟩:Gra)]=ys at *
    refine oMX 9 (fun K hK=>?_)
    go_simp
    generalize hwA:World.alloc _ _=w8
    replace HH:=hiD (HH.out.allocE hwA)
    clear hwA
    refine hK.out _ _ ((HH.out.boxAt 4 rfl).cell 4 _ rfl) (fun hHeld=>?_)
    clear hK K hHeld
    refine lyX ?_
    refine fMX 10 (fun K hK=>?_)
    refine zO (.tmp 20) (.tmp 28) _ rfl Tryz.underlying23 hi0 hz0 hz1 hz2 rfl (by omega) HH.out 3 rfl rfl (m:=1) rfl rfl (HH.out.boxRd 0 rfl).m0 (by simp [Value.oneCell']) (by simp only [maxLen];omega) (by omega) ?_
    rintro v8 w9 hh8 ⟨A8,c8,rfl⟩
    replace HH:=hiD hh8.tail
    clear hh8
    refine hK.out _ _ ?_;clear hK K;refine lyX ?_
    refine yL 11 (v:=?_) rfl (by kernel_rfl) (by kernel_rfl) (by kernel_rfl) (by kernel_rfl) (fun _ _ _ h=>h) (by kernel_rfl) ?_ (fun h=>absurd h (aal (by kernel_rfl))) ?_;rotate_left;(focus(intro w;go_simp <;> with_reducible rfl));refine lyX ?_
    refine fMX 12 (fun K hK=>?_)
    refine z8 HH.out rfl rfl rfl 3 rfl (Nat.le_of_ble_eq_true rfl) rfl (by kernel_rfl) ?_
    intro w10 hh9
    refine hK.out _ _ ?_;clear hK K;refine lyX ?_
    refine xD (by kernel_rfl) ?_
    have H9:=hiD (HB.out _ _ hh9)
    clear hh9 HB HH
    go_wp2_with fail
    go_roundw
    case rel=>exact⟨ys,us,by rw [HLn.out];omega,by rw [HLn.out];go_num,A8,c8,hiD (by rw [show K - ys.length=K - xs.length - 1 by rw [HLn.out];omega];exact HV.out),HX,hiD (by rw [HLn.out,HC.out];exact H9.out)⟩
    case measure=>simp [intOf];omega
   ·have hkK:xs.length=K:=by omega
    have hV:=HV.out
    rw [show K - xs.length=0 by omega,qH,Option.bind_some]at hV
    replace HV:=hiD hV
    clear hV
    simp only [List.append_nil]at HV
    obtain⟨gA,gc,hg⟩: ∃gA gc,gA=A2∧gc=c2:=⟨_,_,rfl,rfl⟩
    obtain⟨rfl,rfl⟩:=hg
    obtain⟨A3,c3,S3,L3,_,_,H,_⟩:=HH.out.open
    obtain⟨r1,r2⟩:=z7 (H.rowAt 2 rfl)
    clear H
    have HG:=hiD (And.intro r1 r2)
    clear r1 r2
    replace HH:=hiD ((HH.out.bagRow).push (x:= .row 81 4 (.slice none 0 0) 0 []) fun l h=>h.row0)
    have HGx:=HX
    clear HX
    obtain⟨L1,hL1⟩: ∃L1,L1= [(gA,xs.flatMap Gra.cells)]:=⟨_,rfl⟩
    rw [←hL1]at HH
    have HL1:=hiD hL1
    clear hL1
    have hg16:xs.length≤16:=by omega
    generalize xs=gs at *
    go_wp2_with fail
    refine zw HV (ad2 HH.out 16) (fun w' h1 h2=>by subst h1;exact⟨rfl,rfl,h2.tail.tail.tail.tail⟩) ?_
    rintro kv us e w7 HV ⟨k0,k5,rfl,h⟩
    replace HH:=hiD h
    clear h
    dsimp only at HV
    obtain⟨K2,rfl⟩: ∃K2:Nat,kv=(K2:Int):=⟨kv.toNat,by omega⟩
    clear k0
    rw [Int.toNat_natCast]at HV
    go_wp2_with fail
    go_loopw [34] (fun i wr=> ∃(xs:List Lin) (us:List ByteArray),xs.length≤K2∧i= .int .i64 (xs.length:Int)∧ ∃sA sc,Hid (V=(qH aaN (K2 - xs.length) us).bind fun r=>(abw (r.2)).bind fun _=>some (⟨name,qu,nx,slB [],slB gs,slB [],slB (xs++r.1)⟩:Tnt))∧Hid (∀y∈xs,Lin.sm y)∧
     Hid (RS w0 b (.row 81 4 (.slice sA xs.length sc) xs.length (xs.flatMap Lin.cells):: .box xb [.string name,.int .i64 qu,.int .i64 nx,.slice none 0 0,.slice gA gs.length gc,.slice none 0 0,.slice sA xs.length sc]:: .box rb [.string ⟨#[]⟩,.int .i64 0,.int .i64 0,.slice none 0 0,.slice none 0 0,.slice none 0 0,.slice none 0 0]:: .box ob [.string key,.slice A n c,.slice lA ln lc]::its) L1 us wr)) (fun i _=>K2 - (intOf i).toNat)
    case atStart=>exact⟨[],us,Nat.zero_le _,rfl,none,0,HV,hiD (fun y h=>by cases h),HH⟩
    case round=>
     clear HH HV
     obtain⟨xs,us,hk,rfl,A2,c2,HV,HX,HH⟩:=hrel
     by_cases hlt:xs.length < K2
     ·have hkk:(xs.length:Int) < (K2:Int):=by omega
      have hV:=HV.out
      rw [show K2 - xs.length=(K2 - xs.length - 1)+1 by omega,acC aaN (K2 - xs.length - 1) us xs (fun(d:List Lin) ts=>(abw (ts)).bind fun _=>some (⟨name,qu,nx,slB [],slB gs,slB [],slB (d)⟩:Tnt))]at hV
      simp only [aaN,Option.bind_assoc,Option.bind_some]at hV
      replace HV:=hiD hV
      clear hV
      go_upto_region 9 with fail
      replace HH:=hiD (HH.out.later (Ext.drew (Ext.refl _)))
      obtain⟨A3,c3,S3,L3,_,_,H,_⟩:=HH.out.open
      refine qe (fun z=>Nat.blt z 13) (S:=fun W=>W.cell? ⟨xb,6,none⟩=some (.slice A2 xs.length c2)) (by kernel_rfl) ((H.boxAt 3 rfl).cell 6 _ rfl) (fun hHeld=>?_)
      generalize World.drew _=wd at *
      clear H
      refine tM 0 3 ?_
      refine tM 4 1 ?_
      refine tM 6 1 ?_
      refine tM 8 1 ?_
      clear hHeld
      refine oMX 3 (fun K hK=>?_)
      go_simp
      refine zw HV (ab6 HH.out) (fun w' h1 h2=>by subst h1;exact⟨rfl,rfl,h2.tail.tail.tail.tail⟩) ?_
      rintro u us e wa HV ⟨u0,rfl,h⟩
      replace HH:=hiD h
      clear h
      dsimp only at HV
      obtain⟨A3,c3,S3,L3,_,_,H,hB⟩:=HH.out.open
      go_wp2_with fail
      refine hK.out _ _ ((H.boxAt 3 rfl).cell 6 _ rfl) (fun hHeld=>?_)
      clear hK K
      refine lyX ?_
      clear H hB hHeld
      refine oMX 5 (fun K hK=>?_)
      go_simp
      refine zw HV (qZ HH.out) (fun w' h1 h2=>by subst h1;exact⟨rfl,rfl,h2.tail.tail.tail.tail⟩) ?_
      rintro kd us e wb HV ⟨m0,m1,rfl,h⟩
      replace HH:=hiD h
      clear h
      dsimp only at HV
      obtain⟨A3,c3,S3,L3,_,_,H,hB⟩:=HH.out.open
      go_wp2_with fail
      refine hK.out _ _ ((H.boxAt 3 rfl).cell 6 _ rfl) (fun hHeld=>?_)
      clear hK K
      refine lyX ?_
      clear H hB hHeld
      refine oMX 7 (fun K hK=>?_)
      go_simp
      refine zw HV (ab6 HH.out) (fun w' h1 h2=>by subst h1;exact⟨rfl,rfl,h2.tail.tail.tail.tail⟩) ?_
      rintro p us e wc_ HV ⟨p0,rfl,h⟩
      replace HH:=hiD h
      clear h
      dsimp only at HV
      obtain⟨A3,c3,S3,L3,_,_,H,hB⟩:=HH.out.open
      go_wp2_with fail
      refine hK.out _ _ ((H.boxAt 3 rfl).cell 6 _ rfl) (fun hHeld=>?_)
      clear hK K
      refine lyX ?_
      clear H hB hHeld
      refine oMX 9 (fun K hK=>?_)
      go_simp
      refine zw HV (qZ HH.out) (fun w' h1 h2=>by subst h1;exact⟨rfl,rfl,h2.tail.tail.tail.tail⟩) ?_
      rintro er us e wd_ HV ⟨m2,m3,rfl,h⟩
      replace HH:=hiD h
      clear h
      dsimp only at HV
      obtain⟨A3,c3,S3,L3,_,_,H,hB⟩:=HH.out.open
      go_wp2_with fail
      refine hK.out _ _ ((H.boxAt 3 rfl).cell 6 _ rfl) (fun hHeld=>?_)
      clear hK K
      refine lyX ?_
      refine tM 10 1 ?_
      clear hHeld
      replace HH:=hiD H
      have HB:=hiD hB
      clear H hB
      have HC:=hiD (show(xs++ [(⟨u,kd,p,er⟩:Lin)]).flatMap Lin.cells=xs.flatMap Lin.cells++ [.string u,.int .i64 kd,.string p,.int .i64 er]by simp [Lin.cells])
      have HLn:=hiD (show(xs++ [(⟨u,kd,p,er⟩:Lin)]).length=xs.length+1 by simp)
      replace HX:=hiD (show∀y∈xs++ [(⟨u,kd,p,er⟩:Lin)],Lin.sm y from fun y hy=>by
       rcases List.mem_append.1 hy with hy | hy
       ·exact HX.out y hy
       ·obtain rfl:=List.mem_singleton.1 hy
        exact⟨Nat.le_trans u0 (by decide),Nat.le_trans p0 (by decide),aas m0 (Int.le_trans m1 (by decide)),aas m2 (Int.le_trans m3 (by decide))⟩)
      generalize xs++ [(⟨u,kd,p,er⟩:Lin)]=ys at *
      refine oMX 11 (fun K hK=>?_)
      go_simp
      generalize hwA:World.alloc _ _=w8
      replace HH:=hiD (HH.out.allocE hwA)
      clear hwA
      refine hK.out _ _ ((HH.out.boxAt 4 rfl).cell 6 _ rfl) (fun hHeld=>?_)
      clear hK K hHeld
      refine lyX ?_
      refine fMX 12 (fun K hK=>?_)
      refine zO (.tmp 37) (.tmp 47) _ rfl Tryz.underlying25 hi1 hx0 hx1 hx2 rfl (by omega) HH.out 3 rfl rfl (m:=1) rfl rfl (HH.out.boxRd 0 rfl).m0 (by simp [Value.oneCell']) (by simp only [maxLen];omega) (by omega) ?_
      rintro v8 w9 hh8 ⟨A8,c8,rfl⟩
      replace HH:=hiD hh8.tail
      clear hh8
      refine hK.out _ _ ?_;clear hK K;refine lyX ?_
      refine yL 13 (v:=?_) rfl (by kernel_rfl) (by kernel_rfl) (by kernel_rfl) (by kernel_rfl) (fun _ _ _ h=>h) (by kernel_rfl) ?_ (fun h=>absurd h (aal (by kernel_rfl))) ?_;rotate_left;(focus(intro w;go_simp <;> with_reducible rfl));refine lyX ?_
      refine fMX 14 (fun K hK=>?_)
      refine z8 HH.out rfl rfl rfl 3 rfl (Nat.le_of_ble_eq_true rfl) rfl (by kernel_rfl) ?_
      intro w10 hh9
      refine hK.out _ _ ?_;clear hK K;refine lyX ?_
      refine xD (by kernel_rfl) ?_
      have H9:=hiD (HB.out _ _ hh9)
      clear hh9 HB HH
      go_wp2_with fail
      go_roundw
      case rel=>exact⟨ys,us,by rw [HLn.out];omega,by rw [HLn.out];go_num,A8,c8,hiD (by rw [show K2 - ys.length=K2 - xs.length - 1 by rw [HLn.out];omega];exact HV.out),HX,hiD (by rw [HLn.out,HC.out];exact H9.out)⟩
      case measure=>simp [intOf];omega
     ·have hkK:xs.length=K2:=by omega
      have hV:=HV.out
      rw [show K2 - xs.length=0 by omega,qH,Option.bind_some]at hV
      replace HV:=hiD hV
      clear hV
      simp only [List.append_nil]at HV
      go_wp2_with fail
      refine zw HV (afD HH.out) (fun w' h1 h2=>by subst h1;exact⟨rfl,rfl,h2.tail.tail.tail.tail⟩) ?_
      rintro _ us2 e w7 HV ⟨rfl,h⟩
      have hV:=HV.out
      subst hV
      obtain⟨A3,c3,S3,L3,_,hL3,H,hB⟩:=h.open
      replace HH:=hiD H
      have HB:=hiD hB
      clear H hB h
      go_wp2_with (first | (refine lSX HH zt 3 ?_) | (refine sSX HH zt 4 ?_;clear HH;intro wS HH))
      refine aax zt (by kernel_rfl) HH.out rfl rfl 4 rfl rfl rfl ?_
      obtain⟨r1,r2⟩:=z7 (HH.out.rowAt 2 rfl)
      obtain⟨S9,L9,hL9,H9⟩:=((HB.out _ _ HH.out).bagRow).drop.drop.drop.leave
      exact⟨⟨name,qu,nx,slB [],⟨gA,gs.length,gc,gs⟩,slB [],⟨A2,xs.length,c2,xs⟩⟩,S9,L9,rfl,⟨rfl,rfl,rfl,rfl,rfl,rfl,rfl,rfl,rfl,rfl,rfl,⟨rfl,HG.out.1,HG.out.2,hL9 _ (List.mem_cons_of_mem _ (by rw [HL1.out];exact List.mem_cons_self ..))⟩,⟨rfl,r1,r2,hL9 _ (List.mem_cons_self ..)⟩,HGx.out,HX.out,aas a0 (Int.le_trans a1 (by decide)),aas b0 (Int.le_trans b1 (by decide)),hg16,by show xs.length≤16;omega⟩,H9⟩
 ·rw [acl,if_neg hE]at h
  obtain⟨rfl,h⟩:=h
  have hV:=HV.out
  rw [if_neg hE]at hV
  subst hV
  exact⟨rfl,rfl,h.tail.tail⟩
end Go.Proofs.YtckaneapjpiocaaGreatDoor
