/- The texts Rr16, Tr4, Qui in one file. -/
import Derived.Test.YtckaneapjpiocaaGreatDoorQ23
set_option linter.unusedVariables false
set_option linter.unusedSimpArgs false
set_option maxHeartbeats 8000000
set_option maxRecDepth 100000
namespace Go.Proofs.YtckaneapjpiocaaGreatDoor
open Go.RowKit Go.Maps Go.Sort Go.Shelf
theorem agZ{s p:ByteArray}(h:(xO s p).2=true):s=p++(xO s p).1:=by
 cases hq:zK s p with
 | false=>rw [xO,hq]at h;cases h
 | true=>
   rw [xO,hq,if_pos rfl]
   simp only []
   rw [zK,Bool.and_eq_true,beq_iff_eq,decide_eq_true_eq]at hq
   obtain⟨h1,h2⟩:=hq
   rw [ByteArray.toList_eq,ByteArray.toList_eq]at h2
   refine aah ?_
   rw [yT,←h2]
   have e1:(s.extract 0 p.size).data.toList=s.data.toList.take p.size:=by simp [ByteArray.data_extract]
   have e2:(s.extract p.size s.size).data.toList=s.data.toList.drop p.size:=by
    simp [ByteArray.data_extract]
    exact List.take_of_length_le (by rw [List.length_drop];show s.data.toList.length - _≤_;rw [Array.length_toList];exact Nat.le_refl _)
   rw [e1,e2,List.take_append_drop]
theorem aej{l:List UInt8}(h:(rd l).1=0):zu (rd l).2=l:=by
 obtain⟨h1,h2⟩:=afI l (rd l).2 (by rw [←h])
 rwa [wB,if_pos h1]at h2
def fS(name:ByteArray)(s:Dst):ByteArray×List ByteArray:=(zJ [kS,name,s.path],yo s)
def fG(name:ByteArray)(s:Stg):ByteArray×List ByteArray:=(zJ [kG,name,s.into],yl s)
theorem ama{p:ByteArray}{l:List UInt8}{s:Dst}(h:adi p l=some s):zu (yo s)=l∧s.path=p:=by
 rw [adi]at h
 split at h
 ·rename_i h0
  obtain⟨h1,h2⟩:=al8 h
  exact⟨by rw [←h1];exact aej h0,h2⟩
 ·cases h
theorem aix{p:ByteArray}{l:List UInt8}{s:Stg}(h:aaS p l=some s)(hk:s.beg.kind=1):zu (yl s)=l∧s.into=p:=by
 rw [aaS]at h
 split at h
 ·rename_i h0
  obtain⟨h1,h2⟩:=amE h hk
  exact⟨by rw [←h1];exact aej h0,h2⟩
 ·cases h
theorem adN(name:ByteArray): ∀(l:List (ByteArray×List UInt8)) (q nx:Int) (s0:List Dst) (gr:List Gra) (g0:List Stg) (lg:List Lin) (t:Tnt),aaD name ⟨name,q,nx,slB s0,slB gr,slB g0,slB lg⟩ l=some t→
 ∃ss gs,t=⟨name,q,nx,slB (s0++ss),slB gr,slB (g0++gs),slB lg⟩∧(g0≠ []→ss= [])∧((∀x∈gs,x.beg.kind=1)→l=(ss.map (fS name)++gs.map (fG name)).map aaM)
 | [],q,nx,s0,gr,g0,lg,t,h=>by
   cases h
   exact⟨[], [],by simp,fun _=>rfl,fun _=>rfl⟩
 | x::l,q,nx,s0,gr,g0,lg,t,h=>by
   rw [aaD,Option.bind_eq_some_iff]at h
   obtain⟨t1,h1,h⟩:=h
   rw [aft,afR]at h1
   cases hc:(xO x.1 (pS name)).2 && g0.isEmpty with
   | true=>
     rw [show((xO x.1 (pS name)).2 && (slB g0).xs.isEmpty)=true from hc,cond_true,Option.bind_eq_some_iff]at h1
     obtain⟨s,h2,h1⟩:=h1
     cases h1
     obtain⟨e1,e2⟩:=ama h2
     rw [Bool.and_eq_true]at hc
     have hg0:g0= []:=List.isEmpty_iff.1 hc.2
     obtain⟨ss,gs,rfl,_,k3⟩:=adN name l q nx (s0++ [s]) gr g0 lg t h
     refine⟨s::ss,gs,by simp,fun hn=>absurd hg0 hn,fun hk=>?_⟩
     rw [List.map_cons,List.cons_append,List.map_cons,←k3 hk]
     congr 1
     obtain⟨xk,xd⟩:=x
     rw [fS,aaM]
     simp only []
     rw [e1,aiF,e2,←agZ hc.1]
   | false=>
     rw [show((xO x.1 (pS name)).2 && (slB g0).xs.isEmpty)=false from hc,cond_false]at h1
     cases hd:(xO x.1 (pG name)).2 with
     | false=>rw [hd,cond_false]at h1;cases h1
     | true=>
       rw [hd,cond_true,Option.bind_eq_some_iff]at h1
       obtain⟨s,h2,h1⟩:=h1
       cases h1
       obtain⟨ss,gs,rfl,k2,k3⟩:=adN name l q nx s0 gr (g0++ [s]) lg t h
       have hss:ss= []:=k2 (by simp)
       subst hss
       refine⟨[],s::gs,by simp,fun _=>rfl,fun hk=>?_⟩
       obtain⟨e1,e2⟩:=aix h2 (hk s (by simp))
       rw [List.map_nil,List.nil_append,List.map_cons,List.map_cons]
       have k4:=k3 (fun y hy=>hk y (by simp [hy]))
       rw [List.map_nil,List.nil_append]at k4
       rw [←k4]
       congr 1
       obtain⟨xk,xd⟩:=x
       rw [fG,aaM]
       simp only []
       rw [e1,agz,e2,←agZ hd]
theorem amP{name:ByteArray}{xs:List (ByteArray×List UInt8)}{t:Tnt}(h:abR name xs=some t):t.name=name∧zH t=true∧(qF t).map aaM=xs:=by
 cases xs with
 | nil=>cases h
 | cons x l=>
   rw [abR]at h
   split at h
   ·rename_i hk
    rw [Option.bind_eq_some_iff]at h
    obtain⟨t0,h1,h⟩:=h
    rw [Option.bind_eq_some_iff]at h
    obtain⟨t1,h2,h⟩:=h
    split at h
    ·rename_i hB
     cases h
     rw [abC]at h1
     split at h1
     ·rename_i h0
      obtain⟨e1,e2,e3,e4,e5,e6⟩:=anX h1
      have hf:=aej h0
      rw [e1]at hf
      obtain⟨nm,q,nx,st0,gr,sg0,lg⟩:=t0
      simp only []at e2 e3 e4 e5 e6
      subst e2 e3 e4
      rw [e5,e6]at h2
      obtain⟨ss,gs,rfl,_,k3⟩:=adN nm l q nx [] gr.xs [] lg.xs t h2
      have hb:=hB
      simp only [zH,xM,Bool.and_eq_true,List.all_eq_true]at hb
      have hst:=hb.2.2.2.2.2.1.2.1
      have hk1: ∀y∈gs,y.beg.kind=1:=fun y hy=>by
       have:=hst y (by simpa [slB]using hy)
       simp only [stB,Bool.and_eq_true,beq_iff_eq]at this
       exact this.2.2.1
      refine⟨rfl,hB,?_⟩
      rw [k3 hk1,qF,List.map_cons]
      have ho:aaM (zJ [kT,nm],xK ⟨nm,q,nx,slB ([]++ss),slB gr.xs,slB ([]++gs),slB lg.xs⟩)=x:=by
       obtain⟨xk,xd⟩:=x
       rw [aaM]
       simp only []at hk hf ⊢
       rw [aiL,←hk,←hf];rfl
      rw [ho];rfl
     ·cases h1
    ·cases h
   ·cases h
theorem alE(x:Dst):yo x.bare=yo x:=by
 rw [yo,yo]
 have:x.bare.snaps.xs.flatMap yM=x.snaps.xs.flatMap yM:=by
  show(x.snaps.xs.map Sna.bare).flatMap yM=_
  rw [List.flatMap_map];rfl
 rw [this,show x.bare.snaps.xs.length=x.snaps.xs.length from List.length_map ..];rfl
theorem ajL(x:Stg)(h:x.beg.on=x.beg.own.length)(hk:x.beg.kind=1):yl x.bare=yl x:=by
 have:yh x.beg.bare=yh x.beg:=by
  rw [yh,yh,aeq (y:=x.beg) rfl h (.inl hk)];rfl
 rw [yl,yl,show x.bare.beg=x.beg.bare from rfl,this];rfl
theorem akz(t:Tnt)(h: ∀x∈t.stages.xs,x.beg.on=x.beg.own.length∧x.beg.kind=1):qF t.bare=qF t:=by
 rw [qF,qF]
 have e1:t.bare.sets.xs.map (fun s=>(zJ [kS,t.bare.name,s.path],yo s))=t.sets.xs.map (fun s=>(zJ [kS,t.name,s.path],yo s)):=by
  show(t.sets.xs.map Dst.bare).map _=_
  rw [List.map_map]
  refine List.map_congr_left fun x _=>?_
  show(_,yo x.bare)=_
  rw [alE];rfl
 have e2:t.bare.stages.xs.map (fun s=>(zJ [kG,t.bare.name,s.into],yl s))=t.stages.xs.map (fun s=>(zJ [kG,t.name,s.into],yl s)):=by
  show(t.stages.xs.map Stg.bare).map _=_
  rw [List.map_map]
  refine List.map_congr_left fun x hx=>?_
  show(_,yl x.bare)=_
  rw [ajL x (h x hx).1 (h x hx).2];rfl
 rw [e1,e2];rfl
def abV(a b:ByteArray):Int:=if lessB a b=true then -1 else if lessB b a=true then 1 else 0
theorem ad1(w:World)(a b:ByteArray):Calls Tryz.prog 62 #[.string a,.string b] w fun e w'=>e= .returned (.int .i64 (abV a b))∧w'=w:=by
 have he:(a.toList == b.toList)=(!lessB a b && !lessB b a):=by
  rw [yW]
  by_cases h:a=b
  ·subst h;rw [aa7];simp
  ·rw [decide_eq_false h]
   cases h1:lessB a b with
   | true=>rfl
   | false=>
     cases h2:lessB b a with
     | true=>rfl
     | false=>exact absurd (acx h1 h2) h
 have h1:Op.bytesLess a.toList b.toList=lessB a b:=rfl
 have h2:Op.bytesLess b.toList a.toList=lessB b a:=rfl
 have HV:=hiD (show abV a b=if lessB a b=true then -1 else if lessB b a=true then 1 else 0 from rfl)
 generalize abV a b=V at *
 generalize lessB a b=x at *
 generalize lessB b a=y at *
 cases x <;> cases y <;> (focus(go_enter Tryz.func62,Tryz.ntmps62;go_wp2_with (refine(ain _ _).mono ?_;rintro e wN ⟨rfl,rfl⟩);go_ret;exact⟨by rw [HV.out];rfl,rfl⟩))
theorem anZ(w:World)(A:Option Addr)(c lo hi:Nat)(x y:Int)(hr:Rd w lo hi A (ints [x,y])):
 Calls Tryz.prog 185 #[.slice A 2 c] w fun e w'=>e= .returned (.int .i64 (if x=0 then y else x))∧Ext w w':=by
 obtain⟨b,o,rfl,_,f0⟩:=ah4 hr (k:=0) (by simp)
 obtain⟨b',o',hh,_,f1⟩:=ah4 hr (k:=1) (by simp)
 obtain⟨rfl,rfl⟩:b=b'∧o=o':=by simpa using hh
 simp only [List.getElem_cons_zero,List.getElem_cons_succ,Nat.add_zero]at f0 f1
 obtain⟨V,hV⟩: ∃V,V=if x=0 then y else x:=⟨_,rfl⟩
 rw [←hV]
 have HV:=hiD hV
 clear hV
 clear hh hr
 go_enter Tryz.func185,Tryz.ntmps185
 go_wp2_with fail
 go_loopw [5,8] (fun _ i wr=> ∃k:Nat,k≤2∧i= .int .i64 (k:Int)∧Hid (0 < k→x=0)∧Hid (1 < k→y=0)∧wr=w) (fun _ i _=>2 - (intOf i).toNat)
 case atStart=>exact⟨0,by omega,rfl,hiD (fun h=>absurd h (by decide)),hiD (fun h=>absurd h (by decide)),rfl⟩
 case round=>
  obtain⟨k,hk,rfl,H0,H1,rfl⟩:=hrel
  rcases(show k=0∨k=1∨k=2 by omega)with rfl | rfl | rfl
  ·by_cases hx:x=0
   ·subst hx
    go_wp2_with fail
    go_roundw
    case rel=>exact⟨1,by omega,by go_num,hiD (by simp),hiD (by simp),by simp⟩
    case measure=>(first | (simp [intOf];done) | (simp [intOf];omega))
   ·have q:(x == 0)=false:=by simpa using hx
    rw [if_neg hx]at HV
    go_wp2_with fail
    go_ret
    exact⟨by rw [HV.out];rfl,Ext.refl _⟩
  ·have hx:=H0.out (by decide)
   rw [if_pos hx]at HV
   by_cases hy:y=0
   ·subst hy
    go_wp2_with fail
    go_roundw
    case rel=>exact⟨2,by omega,by go_num,hiD (fun _=>hx),hiD (by simp),by simp⟩
    case measure=>(first | (simp [intOf];done) | (simp [intOf];omega))
   ·have q:(y == 0)=false:=by simpa using hy
    go_wp2_with fail
    go_ret
    exact⟨by rw [HV.out];rfl,Ext.refl _⟩
  ·have hx:=H0.out (by decide)
   have hy:=H1.out (by decide)
   rw [if_pos hx]at HV
   subst hy
   go_wp2_with fail
   go_ret
   exact⟨by rw [HV.out];rfl,Ext.refl _⟩
def afM(x y:Gra):Int:=if abV x.user y.user=0 then abV x.path y.path else abV x.user y.user
theorem aoc(x y:Gra):decide (0≤afM x y)=!ltG x y:=by
 unfold afM ltG abV
 cases h1:lessB x.user y.user with
 | true=>simp
 | false=>
   cases h2:lessB y.user x.user with
   | true=>
     have:x.user≠y.user:=fun e=>by rw [e,aa7]at h2;cases h2
     simp [this]
   | false=>
     have:=acx h1 h2
     cases h3:lessB x.path y.path <;> cases h4:lessB y.path x.path <;> simp [this]
theorem akl(w:World)(x y:Gra):Calls Tryz.prog 142 #[.agg x.cells.toArray,.agg y.cells.toArray] w fun e w'=>e= .returned (.int .i64 (afM x y))∧Ext w w':=by
 have HV:=hiD (show afM x y=if abV x.user y.user=0 then abV x.path y.path else abV x.user y.user from rfl)
 generalize afM x y=V at *
 obtain⟨x1,x2,x3⟩:=x
 obtain⟨y1,y2,y3⟩:=y
 dsimp only at HV
 have HC1:=hiD (fun W=>ad1 W x1 y1)
 have HC2:=hiD (fun W=>ad1 W x2 y2)
 generalize abV x1 y1=u at *
 generalize abV x2 y2=v at *
 simp only [Gra.cells]
 go_enter Tryz.func142,Tryz.ntmps142
 go_upto_region 1 with fail
 generalize hwH:World.alloc (World.alloc w _) _=w1;have HH:=hiD (Heap.two hwH);clear hwH
 have HHd:=hiD HH.out.drew
 clear HH
 refine wp_region_held_drew (S:=Heap w [_,_]) (by kernel_rfl) HHd.out (fun hHeld=>?_)
 generalize World.drew w1=wd at *
 refine tW 0 1 ?_
 refine tH 1 1 ?_
 refine tW 2 1 ?_
 refine tH 3 0 ?_
 refine tW 5 1 ?_
 refine tH 6 1 ?_
 refine tW 7 1 ?_
 refine tH 8 0 ?_
 clear hHeld
 refine oS 4 (fun K hK=>?_)
 go_simp
 refine(HC1.out _).mono ?_
 rintro e w3 ⟨rfl,rfl⟩
 go_wp2_with fail
 refine hK.out _ _ HHd.out (fun hHeld=>?_);clear hK K;refine lyX ?_
 clear hHeld
 refine oS 9 (fun K hK=>?_)
 go_simp
 refine(HC2.out _).mono ?_
 rintro e w4 ⟨rfl,rfl⟩
 go_wp2_with fail
 refine hK.out _ _ HHd.out (fun hHeld=>?_);clear hK K;refine lyX ?_
 clear hHeld
 refine oS 10 (fun K hK=>?_)
 go_simp;generalize hwA:World.alloc _ _=w5;have HH5:=hiD ((HHd).out.allocE hwA);clear hwA HHd
 refine hK.out _ _ HH5.out.tail (fun hHeld=>?_);clear hK K;refine lyX ?_
 clear hHeld
 refine oS 11 (fun K hK=>?_)
 go_simp
 refine(anZ w5 _ _ _ _ u v (HH5.out.boxRd 0 rfl)).mono ?_
 rintro e w6 ⟨rfl,e6⟩
 have HH6:=hiD (HH5.out.tail.later e6)
 clear HH5 e6
 rw [←HV.out]
 go_wp2_with fail
 refine hK.out _ _ HH6.out (fun hHeld=>?_);clear hK K;refine lyX ?_
 refine tW 12 1 ?_
 refine dnX ?_
 clear hHeld
 go_wp2_with fail
 go_ret
 exact⟨rfl,HH6.out.ext⟩
theorem aou(l:List Gra)(k:Nat)(h:k < l.length)(hp:qz l[k]=false):grB l=false:=by
 rw [grB,aaf qz l k h hp];simp
theorem aoo(l:List Gra)(k:Nat)(h:k+1 < l.length)(hp:ltG l[k] l[k+1]=false):grB l=false:=by
 have:((List.range (l.length - 1)).all fun k=>ltG (l.getD k zG) (l.getD (k+1) zG))=false:=by
  rw [List.all_eq_false]
  refine⟨k,List.mem_range.2 (by omega),?_⟩
  simp [List.getD,List.getElem?_eq_getElem h,List.getElem?_eq_getElem (show k < l.length by omega),hp]
 rw [grB,this];simp
theorem aov(l:List Gra)(h16:l.length≤16)(h1: ∀k (h:k < l.length),qz l[k]=true)(h2: ∀k (h:k+1 < l.length),ltG l[k] l[k+1]=true):grB l=true:=by
 have a:l.all qz=true:=List.all_eq_true.2 fun x hx=>by
  obtain⟨k,hk,rfl⟩:=List.getElem_of_mem hx
  exact h1 k hk
 have b:((List.range (l.length - 1)).all fun k=>ltG (l.getD k zG) (l.getD (k+1) zG))=true:=by
  rw [List.all_eq_true]
  intro k hk
  have hk:=List.mem_range.1 hk
  simp [List.getD,List.getElem?_eq_getElem (show k+1 < l.length by omega),List.getElem?_eq_getElem (show k < l.length by omega),h2 k (by omega)]
 rw [grB,a,b,decide_eq_true h16];rfl
theorem ajX{w:World}{lo hi:Nat}{A:Option Addr}{xs:List Gra}(h:Rd w lo hi A (xs.flatMap Gra.cells)){k:Nat}(hk:k < xs.length):
 ∃b o,A=some ⟨b,o,none⟩∧b < hi∧w.cell? ⟨b,o+k * 3,none⟩=some (.string xs[k].user)∧w.cell? ⟨b,o+k * 3+1,none⟩=some (.string xs[k].path)∧w.cell? ⟨b,o+k * 3+2,none⟩=some (.int .i64 xs[k].perms):=by
 obtain⟨b,o,h1,_,h3,G⟩:=zh (size:=3) (fun _=>rfl) (by omega) h hk
 exact⟨b,o,h1,h3,G 0 _ rfl,G 1 _ rfl,G 2 _ rfl⟩
theorem akV(w:World)(s:Sl Gra)(hM:xf w)(h:Sl.At w 0 w.heap.size Gra.cells Gra.sm s):
 Calls Tryz.prog 82 #[s.val] w fun e w'=>e= .returned (.int .i64 (if grB s.xs=true then 0 else 9))∧Ext w w':=by
 have HA:=hiD h
 have HMx:=hiD hM
 obtain⟨A,n,c,xs⟩:=s
 have Hn:=hiD (show n=xs.length from h.len)
 have hm:n≤9223372036854775807:=Nat.le_trans (Nat.le_trans h.le h.cap) (by decide)
 have H1:=hiD (aou xs)
 have H2:=hiD (aoo xs)
 have HY:=hiD (aov xs)
 have H0:=hiD (show 16 < n→grB xs=false from fun h16=>by rw [grB,decide_eq_false (by have:=Hn.out;omega)];rfl)
 dsimp only
 generalize grB xs=V at *
 clear h hM
 simp only [Sl.val]
 by_cases h16:16 < n
 ·obtain rfl:V=false:=H0.out h16
  have q:(16:Int) < (n:Int):=by omega
  go_enter Tryz.func82,Tryz.ntmps82
  go_wp2_with fail
  go_ret
  exact⟨rfl,Ext.refl _⟩
 ·have q: ¬(16:Int) < (n:Int):=by omega
  go_enter Tryz.func82,Tryz.ntmps82
  go_wp2_with fail
  go_loopw [3,4,10] (fun _ _ v wr=> ∃k:Nat,k≤n∧v= .int .i64 (k:Int)∧Hid ((∀j (h:j < xs.length),j < k→qz xs[j]=true)∧ ∀j (h:j+1 < xs.length),j+1 < k→ltG xs[j] xs[j+1]=true)∧Ext w wr) (fun _ _ v _=>n - (intOf v).toNat)
  case atStart=>exact⟨0,Nat.zero_le _,rfl,hiD ⟨fun j h hj=>absurd hj (Nat.not_lt_zero _),fun j h hj=>absurd hj (Nat.not_lt_zero _)⟩,Ext.refl _⟩
  case round=>
   obtain⟨k,hk,rfl,HK,e1⟩:=hrel
   by_cases hlt:k < n
   ·have l1:k < xs.length:=by rw [←Hn.out];exact hlt
    obtain⟨b1,o1,hA1,hb1,f0,f1,f2⟩:=ajX (HA.out.rd.ext e1 (Nat.le_refl _)) l1
    dsimp only at hA1
    subst hA1
    have HSm:=hiD (HA.out.all _ (List.getElem_mem l1))
    have HB1:=hiD (fun hp=>(Bool.eq_false_iff.2 (fun hv=>by rw [H1.out k l1 hp]at hv;cases hv):V=false))
    have HB2:=hiD (fun(j:Nat) (hj:k=j+1) (hp:ltG (xs[j]'(by omega)) xs[k]=false)=>show V=false by subst hj;exact H2.out j l1 hp)
    have HT:=hiD (fun(h1:qz xs[k]=true) (h2: ∀j (hj:k=j+1),ltG (xs[j]'(by omega)) xs[k]=true)=>show(∀j (h:j < xs.length),j < k+1→qz xs[j]=true)∧ ∀j (h:j+1 < xs.length),j+1 < k+1→ltG xs[j] xs[j+1]=true from
     ⟨fun j h hj=>by
       rcases Nat.lt_or_ge j k with h3 | h3
       ·exact HK.out.1 j h h3
       ·obtain rfl:j=k:=by omega
        exact h1,fun j h hj=>by
       rcases Nat.lt_or_ge (j+1) k with h3 | h3
       ·exact HK.out.2 j h h3
       ·obtain rfl:k=j+1:=by omega
        exact h2 j rfl⟩)
    have HPv:=hiD (fun(j:Nat) (hj:k=j+1)=>show∃y:Gra,xs[j]'(by omega)=y∧wr.cell? ⟨b1,o1+j * 3,none⟩=some (.string y.user)∧wr.cell? ⟨b1,o1+j * 3+1,none⟩=some (.string y.path)∧wr.cell? ⟨b1,o1+j * 3+2,none⟩=some (.int .i64 y.perms)by
     obtain⟨b2,o2,hh,_,d0,d1,d2⟩:=ajX (HA.out.rd.ext e1 (Nat.le_refl _)) (k:=j) (show j < xs.length by omega)
     obtain⟨rfl,rfl⟩:b1=b2∧o1=o2:=by simpa using hh
     exact⟨_,rfl,d0,d1,d2⟩)
    generalize xs[k]=x at *
    obtain⟨us,pa,pe⟩:=x
    dsimp only at f0 f1 f2
    have hkn:(k:Int) < (n:Int):=by omega
    have HX:=hiD (show qz ⟨us,pa,pe⟩=(zd us && (zF pa && (decide (1≤pe) && decide (pe≤255))))from rfl)
    have HNm:=hiD (fun W=>qq us W (Nat.le_trans HSm.out.1 (by decide)))
    have HPa:=hiD (fun W (hW:Ext w W)=>aaZ pa W (HMx.out.ext hW) (Nat.lt_of_le_of_lt HSm.out.2.1 (by decide)))
    have HH:=hiD (Heap.start wr)
    go_upto_region 6 with(refine sSX (hiD (HH.out.alloc _ _)) abx 0 ?_;clear HH;intro wS HH)
    obtain⟨xb,hxb⟩: ∃b,b=wr.heap.size:=⟨_,rfl⟩
    rw [←hxb]at HH ⊢
    clear hxb f0 f1 f2
    have HHd:=hiD (show Heap wr [.box xb [.string us,.string pa,.int .i64 pe]] (World.drew wS)from HH.out.drew)
    clear HH
    refine wp_region_held_drew (S:=Heap wr [.box xb [.string us,.string pa,.int .i64 pe]]) (by kernel_rfl) HHd.out (fun hHeld=>?_)
    generalize World.drew _=wd at *
    refine tW 0 1 ?_
    refine tH 1 0 ?_
    clear hHeld
    refine oS 2 (fun K hK=>?_)
    go_simp
    refine cX HHd (HNm.out _) ?_
    clear HHd
    intro w3 HH3
    clear HNm
    go_wp2_with fail
    refine hK.out _ _ HH3.out (fun hHeld=>?_);clear hK K;refine lyX ?_
    generalize zd us=b1 at *
    cases b1 with
    | false=>
      obtain rfl:V=false:=HB1.out (by rw [HX.out];rfl)
      clear HT HPv HB1 HB2
      refine tW 3 2 ?_
      refine sW 5 4 ?_
      refine tW 9 2 ?_
      refine sW 11 3 ?_
      refine tW 14 2 ?_
      refine sW 16 3 ?_
      refine tW 19 2 ?_
      refine sW 21 12 ?_
      refine tW 33 1 ?_
      refine dnX ?_
      clear hHeld
      go_wp2_with fail
      go_ret
      exact⟨rfl,e1.trans HH3.out.ext⟩
    | true=>
      refine tW 3 3 ?_
      refine tH 6 0 ?_
      clear hHeld
      refine oS 7 (fun K hK=>?_)
      go_simp
      refine cX HH3 (HPa.out _ (e1.trans HH3.out.ext)) ?_
      clear HH3
      intro w4 HH4
      clear HPa
      go_wp2_with fail
      refine hK.out _ _ HH4.out (fun hHeld=>?_);clear hK K;refine lyX ?_
      generalize zF pa=b2 at *
      cases b2 with
      | false=>
        obtain rfl:V=false:=HB1.out (by rw [HX.out];rfl)
        clear HT HPv HB1 HB2
        refine tW 8 3 ?_
        refine sW 11 3 ?_
        refine tW 14 2 ?_
        refine sW 16 3 ?_
        refine tW 19 2 ?_
        refine sW 21 12 ?_
        refine tW 33 1 ?_
        refine dnX ?_
        clear hHeld
        go_wp2_with fail
        go_ret
        exact⟨rfl,e1.trans HH4.out.ext⟩
      | true=>
        refine tW 8 4 ?_
        refine tH 12 0 ?_
        by_cases hp1:pe < 1
        ·obtain rfl:V=false:=HB1.out (by rw [HX.out,decide_eq_false (show¬1≤pe by omega)];rfl)
         have q1:decide (pe < 1)=true:=decide_eq_true hp1
         clear HT HPv HB1 HB2
         refine tW 13 3 ?_
         refine sW 16 3 ?_
         refine tW 19 2 ?_
         refine sW 21 12 ?_
         refine tW 33 1 ?_
         refine dnX ?_
         clear hHeld
         go_wp2_with fail
         go_ret
         exact⟨rfl,e1.trans HH4.out.ext⟩
        ·have q1:decide (pe < 1)=false:=decide_eq_false hp1
         refine tW 13 4 ?_
         refine tH 17 0 ?_
         by_cases hp2:255 < pe
         ·obtain rfl:V=false:=HB1.out (by rw [HX.out,decide_eq_false (show¬pe≤255 by omega),Bool.and_false,Bool.and_false,Bool.and_false])
          have q2:decide (255 < pe)=true:=decide_eq_true hp2
          clear HT HPv HB1 HB2
          refine tW 18 3 ?_
          refine sW 21 12 ?_
          refine tW 33 1 ?_
          refine dnX ?_
          clear hHeld
          go_wp2_with fail
          go_ret
          exact⟨rfl,e1.trans HH4.out.ext⟩
         ·have q2:decide (255 < pe)=false:=decide_eq_false hp2
          have HG1:=hiD (show qz ⟨us,pa,pe⟩=true by rw [HX.out,decide_eq_true (show 1≤pe by omega),decide_eq_true (show pe≤255 by omega)];rfl)
          clear hp1 hp2
          by_cases hk0:k=0
          ·subst hk0
           have HK2:=hiD (HT.out HG1.out (fun j hj=>by omega))
           clear HT HPv HB1 HB2 HG1 HX
           refine tW 18 6 ?_
           refine sW 24 8 ?_
           refine tW 32 2 ?_
           refine dnX ?_
           clear hHeld
           go_wp2_with fail
           go_roundw
           case rel=>exact⟨1,by omega,by go_num,HK2,e1.trans HH4.out.ext⟩
           case measure=>(first | (simp [intOf];done) | (simp [intOf];omega))
          ·obtain⟨j,rfl⟩: ∃j,k=j+1:=⟨k - 1,by omega⟩
           obtain⟨y,hy,d0,d1,d2⟩:=HPv.out j rfl
           have HL:=hiD (fun hp=>HB2.out j rfl (by rw [hy];exact hp))
           have HT2:=hiD (fun hp=>HT.out HG1.out (fun i hi=>by obtain rfl:i=j:=(by omega);rw [hy];exact hp))
           have HO:=hiD (aoc y ⟨us,pa,pe⟩)
           have HOr:=hiD (fun W=>akl W y ⟨us,pa,pe⟩)
           generalize afM y ⟨us,pa,pe⟩=od at *
           generalize ltG y ⟨us,pa,pe⟩=lt at *
           have p0: ∀W,Heap wr [.box xb [.string us,.string pa,.int .i64 pe]] W→W.cell? ⟨b1,o1+j * 3,none⟩=some (.string y.user):=fun W hW=>(Below.cell hW.ext (World.block_lt_of_cell? wr _ d0)).trans d0
           have p1: ∀W,Heap wr [.box xb [.string us,.string pa,.int .i64 pe]] W→W.cell? ⟨b1,o1+j * 3+1,none⟩=some (.string y.path):=fun W hW=>(Below.cell hW.ext (World.block_lt_of_cell? wr _ d1)).trans d1
           have p2: ∀W,Heap wr [.box xb [.string us,.string pa,.int .i64 pe]] W→W.cell? ⟨b1,o1+j * 3+2,none⟩=some (.int .i64 y.perms):=fun W hW=>(Below.cell hW.ext (World.block_lt_of_cell? wr _ d2)).trans d2
           have q3:IntKind.i64.wrap (j:Int)=(j:Int):=IntWalk.i64_in _ (by omega)
           have q4:(0:Int) < (j:Int)+1:=by omega
           have q5:(j:Int) < (n:Int):=by omega
           clear hy d0 d1 d2 HT HPv HB1 HB2 HG1 HX
           simp only [Gra.cells]at HOr
           refine tW 18 11 ?_
           refine tG 29 rfl (fun wT hST=>zj hST abx (by kernel_rfl) rfl rfl 0 rfl (Nat.le_of_ble_eq_true rfl)) hHeld ?_;refine lyX ?_
           clear hHeld p0 p1 p2
           refine oS 30 (fun K hK=>?_)
           go_simp
           refine cX HH4 (HOr.out _) ?_
           clear HH4
           intro w5 HH5
           clear HOr
           go_wp2_with fail
           refine hK.out _ _ HH5.out (fun hHeld=>?_);clear hK K;refine lyX ?_
           have q6:=HO.out
           cases lt with
           | false=>
             obtain rfl:V=false:=HL.out rfl
             clear HL HT2
             refine tW 31 3 ?_
             refine dnX ?_
             clear hHeld
             go_wp2_with fail
             go_ret
             exact⟨rfl,e1.trans HH5.out.ext⟩
           | true=>
             have HK2:=hiD (HT2.out rfl)
             clear HL HT2
             refine tW 31 3 ?_
             refine dnX ?_
             clear hHeld
             go_wp2_with fail
             go_roundw
             case rel=>exact⟨j+1+1,by omega,by go_num,HK2,e1.trans HH5.out.ext⟩
             case measure=>(first | (simp [intOf];done) | (simp [intOf];omega))
   ·obtain rfl:k=n:=by omega
    obtain rfl:V=true:=(HY.out (by rw [←Hn.out];omega) (fun j h=>HK.out.1 j h (by rw [Hn.out];exact h)) (fun j h=>HK.out.2 j h (by rw [Hn.out];exact h)))
    go_wp2_with fail
    go_ret
    exact⟨rfl,e1⟩
def afb(ρ:Operand→Value):Op→Option Value
 | .move x=>some (ρ x)
 | .assign x=>some (ρ x)
 | .pick c a b=>match ρ c with
   | .bool t=>some (if t then ρ a else ρ b)
   | _=>none
 | .unOp .not _ x=>match ρ x with
   | .bool t=>some (.bool (!t))
   | _=>none
 | _=>none
theorem ajr{P:Program}{ρ:Operand→Value}{oi:Oper}{v:Value}(h:afb ρ oi.op=some v)(w:World):(execOp ρ oi).run P w= .ok (.value v) w:=by
 unfold afb at h
 split at h
 ·rename_i x e
  cases h
  simp only [execOp,e];rfl
 ·rename_i x e
  cases h
  simp only [execOp,e];rfl
 ·rename_i c x y e
  split at h
  ·rename_i t ht
   cases h
   simp only [execOp,e,ht]
   cases t <;> rfl
  ·cases h
 ·rename_i T x e
  split at h
  ·rename_i t ht
   cases h
   simp only [execOp,e,ht]
   rfl
  ·cases h
 ·cases h
def abo(md:Region.Mode)(l:List Oper):List Nat→Array Bool→Act→Option (Array Bool×Act)
 | [],s,a=>some (s,a)
 | i::is,s,a=>
   match l[i]? with
   | none=>none
   | some oi=>
     if oi.dst.isSome && Region.noSelect l.toArray && Region.free md l.toArray s i && (Region.ready md l.toArray s).contains i then
      if Region.wanted oi (yielded l.toArray a.tmps)then
       match afb a.eval oi.op with
       | some v=>abo md l is (s.setIfInBounds i true) (a.put oi.dst v)
       | none=>none
      else abo md l is (s.setIfInBounds i true) (a.put oi.dst undef)
     else none
def zg:List (Nat×Option Nat×Value)→Act→Act
 | [],a=>a
 | (_,d,v)::is,a=>zg is (a.put d v)
def zf:List (Nat×Option Nat×Value)→Array Bool→Array Bool
 | [],s=>s
 | (i,_,_)::is,s=>zf is (s.setIfInBounds i true)
variable {P:Program} {l:List Oper} {Q:Exit→Act→World→Prop} {md:Region.Mode} {S:World→Prop}
theorem adW(hQ: ∀c a d v w,Q (.panic c) (Act.put a (some d) v) w→Q (.panic c) a w): ∀(is:List Nat) (fuel:Nat) (s s':Array Bool) (a a':Act) (w:World),abo md l is s a=some (s',a')→S w→
 wpAnyH P md l.toArray Q S fuel s' a' w→wpAnyH P md l.toArray Q S (fuel+is.length) s a w
 | [],fuel,s,s',a,a',w,h,hS,hw=>by
   simp only [abo,Option.some.injEq,Prod.mk.injEq]at h
   obtain⟨rfl,rfl⟩:=h
   exact hw
 | i::is,fuel,s,s',a,a',w,h,hS,hw=>by
   simp only [abo]at h
   cases hi:l[i]? with
   | none=>rw [hi]at h;cases h
   | some oi=>
     rw [hi]at h
     dsimp only at h
     split at h
     ·rename_i hc
      simp only [Bool.and_eq_true]at hc
      obtain⟨d,hd⟩:=Option.isSome_iff_exists.1 hc.1.1.1
      have hi':l.toArray[i]?=some oi:=by simpa using hi
      split at h
      ·rename_i hwd
       cases hq:afb a.eval oi.op with
       | none=>rw [hq]at h;cases h
       | some v=>
         rw [hq]at h
         exact wpAnyH_take hi' hc.1.1.2 hc.1.2 hc.2 (fun c a w h=>hQ c a d _ w (by rw [←hd];exact h)) (Or.inl ⟨hwd,fun w _=>ajr hq w⟩) hS (adW hQ is fuel _ _ _ _ w h hS hw)
      ·rename_i hwd
       exact wpAnyH_take hi' hc.1.1.2 hc.1.2 hc.2 (fun c a w h=>hQ c a d _ w (by rw [←hd];exact h)) (Or.inr ⟨by simpa using hwd,rfl⟩) hS (adW hQ is fuel _ _ _ _ w h hS hw)
     ·cases h
theorem zq(is:List (Nat×Option Nat×Value)){fuel fuel':Nat}{s:Array Bool}{a:Act}{w:World}(hf:fuel'=fuel+(is.map Prod.fst).length)(hQ: ∀c a d v w,Q (.panic c) (Act.put a (some d) v) w→Q (.panic c) a w)
 (hc:abo md l (is.map Prod.fst) s a=some (zf is s,zg is a)) (hS:S w)
 (h:wpAnyH P md l.toArray Q S fuel (zf is s) (zg is a) w):wpAnyH P md l.toArray Q S fuel' s a w:=by
 subst hf
 exact adW hQ _ _ _ _ _ _ w hc hS h
end Go.Proofs.YtckaneapjpiocaaGreatDoor
