/- The texts Tpl, Hpk, Wri, Rl, Tr1 in one file. -/
import Derived.Test.YtckaneapjpiocaaGreatDoorQ7
set_option linter.unusedVariables false
set_option linter.unusedSimpArgs false
set_option maxHeartbeats 4000000
set_option maxRecDepth 100000
namespace Go.Proofs.YtckaneapjpiocaaGreatDoor
open Go.RowKit Go.Maps Go.Sort Go.Shelf
def yH(xs:List Blk):List UInt8:=xs.flatMap fun x=>zp x.index 2++x.data.data.toList
def aaa(l:List UInt8):ByteArray:=⟨l.toArray⟩
theorem aar(l:List UInt8):(aaa l).size=l.length:=List.size_toArray
def yU(l:List Prp):List ByteArray:=zm (l.length:Int)::zW l
def xV(x:Gra):List ByteArray:= [x.user,x.path,zm x.perms]
def zR(x:Lin):List ByteArray:= [x.user,zm x.kind,x.path,zm x.err]
def xK(t:Tnt):List ByteArray:=zm t.quota::zm t.next::zm (t.grants.xs.length:Int)::(t.grants.xs.flatMap xV++(zm (t.log.xs.length:Int)::t.log.xs.flatMap zR))
def yM(x:Sna):List ByteArray:=x.name::zm x.guid::(yU x.own.xs++(zm (x.tags.xs.length:Int)::(x.tags.xs++ [aaa (yH x.body.xs)])))
def yo(x:Dst):List ByteArray:=x.origin::(yU x.own.xs++(aaa (yH x.body.xs)::zm (x.snaps.xs.length:Int)::x.snaps.xs.flatMap yM))
def yl(x:Stg):List ByteArray:= [aaa (yh x.beg),aaa (yH x.body),zm x.pos,zm x.next,aaa (qy x.su),zm (if x.done=true then 1 else 0)]
def zJ(l:List ByteArray):ByteArray:=⟨(Go.Lib.join (l.map (·.data.toList)) [47]).toArray⟩
def kT:ByteArray:=⟨#[116]⟩
def kS:ByteArray:=⟨#[115]⟩
def kG:ByteArray:=⟨#[103]⟩
def qF(t:Tnt):List (ByteArray×List ByteArray):=
 (zJ [kT,t.name],xK t)::(t.sets.xs.map (fun s=>(zJ [kS,t.name,s.path],yo s))++t.stages.xs.map (fun s=>(zJ [kG,t.name,s.into],yl s)))
def tln(l:List ByteArray):Nat:=(l.map fun s=>3+s.size).sum
theorem aaE:tln []=0:=rfl
theorem ye(s:ByteArray)(l:List ByteArray):tln (s::l)=3+s.size+tln l:=by simp [tln]
theorem aa6(l m:List ByteArray):tln (l++m)=tln l+tln m:=by simp [tln]
theorem abn{α:Type}(f:α→List ByteArray)(l:List α)(m:Nat)(h: ∀x∈l,tln (f x)≤m):tln (l.flatMap f)≤l.length * m:=by
 induction l with
 | nil=>simp [tln]
 | cons x l ih=>
   rw [List.flatMap_cons,aa6,List.length_cons,Nat.add_mul]
   have h1:=h x (by simp)
   have h2:=ih fun y hy=>h y (by simp [hy])
   omega
theorem ali{α:Type}(f:α→List ByteArray)(g:α→Nat)(l:List α)(h: ∀x∈l,tln (f x)≤g x):tln (l.flatMap f)≤(l.map g).sum:=by
 induction l with
 | nil=>simp [tln]
 | cons x l ih=>
   rw [List.flatMap_cons,aa6,List.map_cons,List.sum_cons]
   have h1:=h x (by simp)
   have h2:=ih fun y hy=>h y (by simp [hy])
   omega
theorem ag1(l:List ByteArray):(zu l).length=2+tln l:=by
 unfold zu
 rw [List.length_append,zo]
 congr 1
 induction l with
 | nil=>rfl
 | cons s l ih=>
   rw [List.flatMap_cons,List.length_append,ih,ye]
   congr 1
   show(zp s.size 3++s.data.toList).length=_
   rw [List.length_append,zo]
   congr 1
theorem aaY{α:Type}(f:α→List ByteArray)(l:List α)(m:Nat)(h: ∀x∈l,(f x).length≤m):(l.flatMap f).length≤l.length * m:=by
 induction l with
 | nil=>simp
 | cons x l ih=>
   rw [List.flatMap_cons,List.length_append,List.length_cons,Nat.add_mul]
   have h1:=h x (by simp)
   have h2:=ih fun y hy=>h y (by simp [hy])
   omega
theorem zN(z:Int):(zm z).size=8:=aa4 z
theorem xe{s:ByteArray}(h:zd s=true):s.size≤16:=by
 simp only [zd,Bool.and_eq_true,decide_eq_true_eq]at h
 exact h.1.2
theorem ajl(s:List UInt8): ∀cur,((zP cur s).map List.length).sum+(zP cur s).length=cur.length+s.length+1:=by
 induction s with
 | nil=>intro cur;simp [zP]
 | cons b s ih=>
   intro cur
   rw [zP]
   by_cases h:b=47
   ·rw [if_pos h,List.map_cons,List.sum_cons,List.length_cons]
    have:=ih []
    simp only [List.length_nil,List.length_cons]at *
    omega
   ·rw [if_neg h]
    have:=ih (cur++ [b])
    simp only [List.length_append,List.length_cons,List.length_nil]at *
    omega
theorem qL(l:List Nat)(m:Nat)(h: ∀x∈l,x≤m):l.sum≤l.length * m:=by
 induction l with
 | nil=>simp
 | cons x l ih=>
   rw [List.sum_cons,List.length_cons,Nat.add_mul]
   have h1:=h x (by simp)
   have h2:=ih fun y hy=>h y (by simp [hy])
   omega
theorem aau{s:ByteArray}(h:zF s=true):s.size≤67:=by
 simp only [zF,Bool.or_eq_true,Bool.and_eq_true,decide_eq_true_eq,List.all_eq_true]at h
 rcases h with h | ⟨h1,h2⟩
 ·omega
 ·have h3:=ajl s.data.toList []
  have h4:=qL ((xB s.data.toList).map List.length) 16 fun x hx=>by
   obtain⟨p,hp,rfl⟩:=List.mem_map.1 hx
   have:=xe (h2 p hp)
   have h5:(⟨p.toArray⟩:ByteArray).size=p.length:=List.size_toArray
   omega
  rw [List.length_map]at h4
  have h6:s.data.toList.length=s.size:=Array.length_toList
  simp only [List.length_nil]at h3
  have h7:xB s.data.toList=zP [] s.data.toList:=rfl
  rw [h7]at h1 h4
  have h8:(zP [] s.data.toList).length * 16≤64:=by omega
  have h9:(zP [] s.data.toList).length≥1:=by
   rw [aeD];omega
  omega
theorem qt(xs:List Blk)(h:bkE xs=0):xs.length≤1024∧ ∀x∈xs,x.data.size=16:=by
 have hb:qC xs xs.length=false:=by
  rw [bkE]at h
  cases hq:qC xs xs.length with
  | false=>rfl
  | true=>rw [hq]at h;cases h
 have hk: ∀k,k < xs.length→abi xs k=false:=fun k hk=>by
  cases hq:abi xs k with
  | false=>rfl
  | true=>rw [qg xs k _ hk hq]at hb;cases hb
 have hone: ∀k (h:k < xs.length),0≤xs[k].index∧xs[k].index < 1024∧xs[k].data.size=16:=fun k h=>by
  have:=hk k h
  rw [acd xs k h,Bool.or_eq_false_iff]at this
  have:=this.1
  simp only [xZ,Bool.or_eq_false_iff,decide_eq_false_iff_not,Decidable.not_not]at this
  omega
 have hr: ∀k (h:k < xs.length),(k:Int)≤xs[k].index:=by
  intro k
  induction k with
  | zero=>intro h;exact(hone 0 h).1
  | succ k ih=>
    intro h
    have h1:=ih (by omega)
    have h2:=hk (k+1) h
    rw [acd xs (k+1) h,Bool.or_eq_false_iff]at h2
    have h3:=h2.2
    have e:k+1 - 1=k:=by omega
    rw [e,aer xs k (by omega)]at h3
    simp only [Bool.and_eq_false_iff,decide_eq_false_iff_not]at h3
    omega
 constructor
 ·by_cases h0:xs.length=0
  ·omega
  ·have h1:=hr (xs.length - 1) (by omega)
   have h2:=(hone (xs.length - 1) (by omega)).2.1
   omega
 ·intro x hx
  obtain⟨k,hk,rfl⟩:=List.getElem_of_mem hx
  exact(hone k hk).2.2
theorem aaq(xs:List Blk)(h: ∀x∈xs,x.data.size=16):(yH xs).length=xs.length * 18:=by
 induction xs with
 | nil=>rfl
 | cons x xs ih=>
   have h1:=ih fun y hy=>h y (by simp [hy])
   have h2:=h x (by simp)
   have h3:x.data.data.toList.length=x.data.size:=Array.length_toList
   rw [yH]at h1 ⊢
   rw [List.flatMap_cons,List.length_append,h1,List.length_append,zo,List.length_cons]
   omega
theorem abI(l:List Prp)(h:prE l=0):(yU l).length≤17∧tln (yU l)≤443∧ ∀s∈yU l,s.size≤32:=by
 obtain⟨h1,h2⟩:=aaV l h
 refine⟨?_,?_,?_⟩
 ·rw [yU,List.length_cons,xR];omega
 ·rw [yU,ye,zN,zW]
  have:=abn (fun x:Prp=> [x.name,x.value]) l 54 fun x hx=>by
   have:=h2 x hx
   rw [ye,ye,aaE];omega
  omega
 ·intro s hs
  rw [yU,List.mem_cons]at hs
  rcases hs with rfl | hs
  ·rw [zN];omega
  ·obtain⟨x,hx,hs⟩:=List.mem_flatMap.1 hs
   have:=h2 x hx
   simp only [List.mem_cons,List.not_mem_nil,or_false]at hs
   rcases hs with rfl | rfl <;> omega
theorem amk{l:List ByteArray}(h:qo l=true): ∀s∈l,zd s=true:=by
 intro s hs
 obtain⟨k,hk,rfl⟩:=List.getElem_of_mem hs
 rw [qo,List.all_eq_true]at h
 have:=h k (List.mem_range.2 hk)
 simp only [Bool.and_eq_true]at this
 have h1:=this.1
 simpa [List.getD,List.getElem?_eq_getElem hk]using h1
theorem akq(x:Sna)(h:snB x=true)(hn:zd x.name=true):(yM x).length≤25∧tln (yM x)≤563+18 * x.body.xs.length∧ ∀s∈yM x,s.size≤18432:=by
 simp only [snB,aad,Bool.and_eq_true,decide_eq_true_eq,List.all_eq_true]at h
 obtain⟨_,h1,h2,h3,h4,_⟩:=h
 obtain⟨b1,b2⟩:=qt _ h1
 have b3:=aaq _ b2
 obtain⟨o1,o2,o3⟩:=abI _ h2
 have hn:=xe hn
 have ht:tln x.tags.xs≤76:=by
  have:=qL (x.tags.xs.map fun s=>3+s.size) 19 fun y hy=>by
   obtain⟨s,hs,rfl⟩:=List.mem_map.1 hy
   have:=xe (h4 s hs)
   omega
  rw [List.length_map]at this
  rw [tln];omega
 refine⟨?_,?_,?_⟩
 ·simp only [yM,List.length_cons,List.length_append,List.length_nil];omega
 ·simp only [yM,ye,aa6,aaE,zN,aar];omega
 ·intro s hs
  simp only [yM,List.mem_cons,List.mem_append,List.not_mem_nil,or_false]at hs
  rcases hs with rfl | rfl | hs | rfl | hs | rfl
  ·omega
  ·rw [zN];omega
  ·have:=o3 s hs;omega
  ·rw [zN];omega
  ·have:=xe (h4 s hs);omega
  ·rw [aar];omega
theorem ahz(sets:List Dst)(x:Dst)(h:orB sets x=true):x.origin.size≤84:=by
 simp only [orB,abg,Bool.or_eq_true,Bool.and_eq_true,decide_eq_true_eq]at h
 rcases h with h | h
 ·omega
 ·have h1:=aau h.1.2.1
  have h2:=xe h.1.2.2
  rw [zT,ByteArray.size_extract]at h1
  rw [yP,ByteArray.size_extract]at h2
  omega
theorem alw(l:List Sna)(h:xF l=true):l.length≤16∧ ∀x∈l,(yM x).length≤25∧tln (yM x)≤563+18 * x.body.xs.length∧ ∀s∈yM x,s.size≤18432:=by
 simp only [xF,Bool.and_eq_true,decide_eq_true_eq,List.all_eq_true]at h
 refine⟨h.1,fun x hx=>akq x (h.2.1 x hx) (amk h.2.2.2 _ (List.mem_map.2 ⟨x,hx,rfl⟩))⟩
def chS(x:Dst):Nat:=1+x.body.xs.length+(x.snaps.xs.map fun y:Sna=>1+y.body.xs.length).sum
def chG(x:Stg):Nat:=1+x.body.length
def chT(t:Tnt):Nat:=(t.sets.xs.map chS).sum+(t.stages.xs.map chG).sum
theorem aoh(l:List Sna):(l.map fun y:Sna=>563+18 * y.body.xs.length).sum≤563 * (l.map fun y:Sna=>1+y.body.xs.length).sum:=by
 induction l with
 | nil=>simp
 | cons x l ih=>simp only [List.map_cons,List.sum_cons];omega
theorem adQ(sets:List Dst)(x:Dst)(h:seB sets x=true):(yo x).length≤420∧tln (yo x)≤563 * chS x∧(∀s∈yo x,s.size≤18432)∧x.path.size≤67:=by
 simp only [seB,Bool.and_eq_true,decide_eq_true_eq]at h
 obtain⟨hp,_,ho,hb,hs,hr⟩:=h
 obtain⟨b1,b2⟩:=qt _ hb
 have b3:=aaq _ b2
 obtain⟨o1,o2,o3⟩:=abI _ ho
 have hr:=ahz sets x hr
 obtain⟨s1,s2⟩:=alw _ hs
 have s3:=aaY yM x.snaps.xs 25 fun y hy=>(s2 y hy).1
 have s4:=ali yM (fun y=>563+18 * y.body.xs.length) x.snaps.xs fun y hy=>(s2 y hy).2.1
 have s5:=aoh x.snaps.xs
 refine⟨?_,?_,?_,aau hp⟩
 ·simp only [yo,List.length_cons,List.length_append];omega
 ·simp only [yo,ye,aa6,zN,aar,chS];omega
 ·intro s hs
  simp only [yo,List.mem_cons,List.mem_append,List.mem_flatMap]at hs
  rcases hs with rfl | hs | rfl | rfl | ⟨y,hy,hs⟩
  ·omega
  ·have:=o3 s hs;omega
  ·rw [aar];omega
  ·rw [zN];omega
  ·exact(s2 y hy).2.2 s hs
theorem aoX(l:List ByteArray):(wB l).length≤2+tln l:=by
 rw [wB]
 split
 ·rw [ag1];exact Nat.le_refl _
 ·simp
theorem ak2(x:Rec)(hk:x.kind=1)(h:yJ x=0):(yh x).length≤478:=by
 rw [yh,if_pos h]
 have h1:=aoX (zl x)
 have hm:yv x=true:=by
  unfold yJ at h
  rw [if_neg (by omega)]at h
  cases hq:yv x with
  | true=>rfl
  | false=>rw [hq]at h;cases h
 have h2:tln (zl x)≤473:=by
  have h3:zd x.name=true∧prE x.own=0:=by
   rw [yv]at hm
   simp [hk,and_assoc]at hm
   exact⟨hm.1,hm.2.2.2.2.2.1⟩
  have h4:=xe h3.1
  obtain⟨h5,h6⟩:=aaV _ h3.2
  rw [zl,if_pos hk,aa6,ye,ye,ye,aaE,zN,zN,zW]
  have:=abn (fun x:Prp=> [x.name,x.value]) x.own 54 fun y hy=>by
   have:=h6 y hy
   rw [ye,ye,aaE];omega
  omega
 simp only [List.length_append,List.length_cons,List.length_nil,zo]
 omega
theorem ad4(x:Stg)(h:stB x=true):(yl x).length≤6∧tln (yl x)≤563 * chG x∧(∀s∈yl x,s.size≤18432)∧x.into.size≤67:=by
 simp only [stB,Bool.and_eq_true,decide_eq_true_eq,beq_iff_eq]at h
 obtain⟨_,hp,hk,hr,hb,_⟩:=h
 obtain⟨b1,b2⟩:=qt _ hb
 have b3:=aaq _ b2
 have e1:=ak2 _ hk hr
 have s1:=aak x.su
 refine⟨by simp [yl],?_,?_,aau hp⟩
 ·simp only [yl,ye,aaE,zN,aar,chG];omega
 ·intro s hs
  simp only [yl,List.mem_cons,List.not_mem_nil,or_false]at hs
  rcases hs with rfl | rfl | rfl | rfl | rfl | rfl <;> simp only [zN,aar] <;> omega
theorem afu(t:Tnt)(hg:grB t.grants.xs=true)(hl:t.log.xs.length≤16)(hl2:t.log.xs.all liB=true):(xK t).length≤116∧tln (xK t)≤3420∧ ∀s∈xK t,s.size≤18432:=by
 simp only [grB,Bool.and_eq_true,decide_eq_true_eq,List.all_eq_true]at hg
 obtain⟨g1,g2,_⟩:=hg
 have g3: ∀x∈t.grants.xs,x.user.size≤16∧x.path.size≤67:=fun x hx=>by
  have:=g2 x hx
  simp only [qz,Bool.and_eq_true]at this
  exact⟨xe this.1,aau this.2.1⟩
 have l3: ∀x∈t.log.xs,x.user.size≤16∧x.path.size≤67:=fun x hx=>by
  have:=List.all_eq_true.1 hl2 x hx
  simp only [liB,Bool.and_eq_true,Bool.or_eq_true,decide_eq_true_eq]at this
  refine⟨?_,aau this.2.1⟩
  rcases this.1 with h | h
  ·omega
  ·exact xe h
 have g4:=abn xV t.grants.xs 100 fun x hx=>by
  have:=g3 x hx
  simp only [xV,ye,aaE,zN];omega
 have l4:=abn zR t.log.xs 111 fun x hx=>by
  have:=l3 x hx
  simp only [zR,ye,aaE,zN];omega
 have g5:=aaY xV t.grants.xs 3 fun x hx=>by simp [xV]
 have l5:=aaY zR t.log.xs 4 fun x hx=>by simp [zR]
 refine⟨?_,?_,?_⟩
 ·simp only [xK,List.length_cons,List.length_append];omega
 ·simp only [xK,ye,aa6,zN];omega
 ·intro s hs
  simp only [xK,List.mem_cons,List.mem_append,List.mem_flatMap]at hs
  rcases hs with rfl | rfl | rfl | ⟨x,hx,hs⟩ | rfl | ⟨x,hx,hs⟩
  ·rw [zN];omega
  ·rw [zN];omega
  ·rw [zN];omega
  ·have:=g3 x hx
   simp only [xV,List.mem_cons,List.not_mem_nil,or_false]at hs
   rcases hs with rfl | rfl | rfl <;> (try rw [zN]) <;> omega
  ·rw [zN];omega
  ·have:=l3 x hx
   simp only [zR,List.mem_cons,List.not_mem_nil,or_false]at hs
   rcases hs with rfl | rfl | rfl | rfl <;> (try rw [zN]) <;> omega
theorem ade{l:List ByteArray}(h1:l.length≤1024)(h2: ∀s∈l,s.size≤18432):wE l=0:=by
 rw [wE,if_neg (by omega),if_neg]
 intro hq
 obtain⟨s,hs,hl⟩:=List.any_eq_true.1 hq
 have:=h2 s hs
 simp only [xC,decide_eq_true_eq]at hl
 omega
theorem amV(l:List (List UInt8)):(Go.Lib.join l [47]).length≤(l.map fun x=>x.length+1).sum:=by
 induction l with
 | nil=>simp [Go.Lib.join]
 | cons a l ih=>
   cases l with
   | nil=>simp [Go.Lib.join]
   | cons b l=>
     have e:Go.Lib.join (a::b::l) [47]=a++([47]++Go.Lib.join (b::l) [47]):=by
      simp [Go.Lib.join,List.intercalate,List.intersperse]
     rw [e,List.map_cons,List.sum_cons,List.length_append,List.length_append]
     simp only [List.length_cons,List.length_nil]at ih ⊢
     omega
theorem abt(l:List ByteArray):(zJ l).size≤(l.map fun x=>x.size+1).sum:=by
 have h:=amV (l.map (·.data.toList))
 have e:(zJ l).size=(Go.Lib.join (l.map (·.data.toList)) [47]).length:=List.size_toArray
 rw [e]
 rw [List.map_map]at h
 exact h
def dat(x:ByteArray×List ByteArray):ByteArray×Nat:=(x.1,(wB x.2).length)
theorem afC(t:Tnt)(h:zH t=true): ∀x∈qF t,wE x.2=0:=by
 simp only [zH,Bool.and_eq_true,decide_eq_true_eq]at h
 obtain⟨hn,_,_,hs,hg,hst,hl,hl2⟩:=h
 obtain⟨h1,h2,h3⟩:=afu t hg hl hl2
 simp only [yV,Bool.and_eq_true,List.all_eq_true]at hs
 simp only [xM,Bool.and_eq_true,List.all_eq_true]at hst
 intro x hx
 simp only [qF,List.mem_cons,List.mem_append,List.mem_map]at hx
 rcases hx with rfl | ⟨s,hs',rfl⟩ | ⟨s,hs',rfl⟩
 ·exact ade (show(xK t).length≤1024 by omega) h3
 ·obtain⟨d0,_,d1,_⟩:=adQ _ s (hs.2.2.1 s hs')
  exact ade (show(yo s).length≤1024 by omega) d1
 ·obtain⟨d0,_,d1,_⟩:=ad4 s (hst.2.1 s hs')
  exact ade (show(yl s).length≤1024 by omega) d1
theorem Heap.sub'{w0 w:World}{its its':List It}(H:Heap w0 its w)(f:Nat→Nat)(hf: ∀i j,f i=f j→i=j)(h: ∀i x,its'[i]?=some x→its[f i]?=some x):Heap w0 its' w:=
 ⟨H.ext,fun i x hx=>H.all (f i) x (h i x hx),fun i j x y k hij hx hy=>H.apart (f i) (f j) x y k (fun e=>hij (hf i j e)) (h i x hx) (h j y hy)⟩
theorem Heap.pick{w0 w:World}{its its':List It}(H:Heap w0 its w)(p:List Nat)(hp:p.Nodup)(hv:p.all (fun i=>decide (i < its.length))=true)(h:its'=p.filterMap fun i=>its[i]?):Heap w0 its' w:=by
 have hv': ∀i∈p,i < its.length:=fun i hi=>by simpa using List.all_eq_true.1 hv i hi
 have hl: ∀(p:List Nat),(∀i∈p,i < its.length)→ ∀i:Nat,(p.filterMap fun i=>its[i]?)[i]?=p[i]?.bind fun j=>its[j]?:=by
  intro p
  induction p with
  | nil=>intro _ i;simp
  | cons a p ih=>
    intro hq i
    have ha:=hq a (List.mem_cons_self ..)
    rw [List.filterMap_cons,List.getElem?_eq_getElem ha]
    cases i with
    | zero=>simp [List.getElem?_eq_getElem ha]
    | succ i=>simpa using ih (fun j hj=>hq j (List.mem_cons_of_mem _ hj)) i
 subst h
 refine H.sub' (fun i=>match p[i]? with | some j=>j | none=>its.length+i) (fun i j e=>?_) fun i x hx=>?_
 ·(try dsimp only at e)
  cases hi:p[i]? with
  | none=>
    cases hj:p[j]? with
    | none=>rw [hi,hj]at e;dsimp only at e;omega
    | some b=>rw [hi,hj]at e;dsimp only at e;have:=hv' b (List.mem_of_getElem? hj);omega
  | some a=>
    cases hj:p[j]? with
    | none=>rw [hi,hj]at e;dsimp only at e;have:=hv' a (List.mem_of_getElem? hi);omega
    | some b=>
      rw [hi,hj]at e
      dsimp only at e
      subst e
      obtain⟨h1,h2⟩:=List.getElem?_eq_some_iff.1 hi
      obtain⟨h3,h4⟩:=List.getElem?_eq_some_iff.1 hj
      rcases Nat.lt_trichotomy i j with h5 | h5 | h5
      ·exact absurd (h2.trans h4.symm) (List.pairwise_iff_getElem.1 hp i j h1 h3 h5)
      ·exact h5
      ·exact absurd (h4.trans h2.symm) (List.pairwise_iff_getElem.1 hp j i h3 h1 h5)
 ·rw [hl p hv']at hx
  cases hi:p[i]? with
  | none=>rw [hi]at hx;cases hx
  | some a=>rw [hi]at hx;exact hx
theorem Heap.mid{w0 w:World}{x:It}{a b:List It}(H:Heap w0 (x::(a++b)) w):Heap w0 (a++x::b) w:=by
 refine H.sub' (fun i=>if i < a.length then i+1 else if i=a.length then 0 else i) (fun i j e=>?_) fun i y hy=>?_
 ·split at e <;> split at e <;> (try split at e) <;> (try split at e) <;> omega
 ·by_cases h1:i < a.length
  ·rw [if_pos h1,List.getElem?_cons_succ,List.getElem?_append_left h1]
   rwa [List.getElem?_append_left h1]at hy
  ·rw [if_neg h1]
   by_cases h2:i=a.length
   ·subst h2
    rw [if_pos rfl]
    rw [List.getElem?_append_right (Nat.le_refl _),Nat.sub_self]at hy
    simpa using hy
   ·rw [if_neg h2]
    rw [List.getElem?_append_right (by omega)]at hy
    obtain⟨k,hk⟩: ∃k,i=a.length+1+k:=⟨i - a.length - 1,by omega⟩
    subst hk
    rw [show a.length+1+k - a.length=k+1 by omega,List.getElem?_cons_succ]at hy
    rw [show a.length+1+k=(a.length+k)+1 by omega,List.getElem?_cons_succ,List.getElem?_append_right (by omega),show a.length+k - a.length=k by omega]
    exact hy
theorem Heap.back{w0 w:World}{x:It}{a:List It}(H:Heap w0 (x::a) w):Heap w0 (a++ [x]) w:=Heap.mid (b:= []) (by simpa using H)
theorem It.lower{x:It}{base base':Nat}{w:World}(h:x.holds base w)(hb:base'≤base):x.holds base' w:=by
 cases x with
 | box b vs=>exact⟨Nat.le_trans hb h.1,h.2⟩
 | row e size v n xs=>exact xw h hb
 | rd A cs=>
   intro hn
   obtain⟨b,o,he,h1,h2,h3⟩:=h hn
   exact⟨b,o,he,h1,Nat.le_trans hb h2,h3⟩
 | any S p lt keep=>exact⟨fun k hk=>Nat.le_trans hb (h.1 k hk),h.2⟩
theorem It.at_ge{x:It}{base k:Nat}{w:World}(h:x.holds base w)(ha:x.at' k):base≤k:=by
 cases x with
 | box b vs=>cases ha;exact h.1
 | row e size v n xs=>exact(World.ownsRow.lt h k ha).1
 | rd A cs=>
   obtain⟨hn,a,rfl,rfl⟩:=ha
   obtain⟨b,o,he,h1,h2,h3⟩:=h hn
   cases he
   exact h2
 | any S p lt keep=>exact h.1 k ha
theorem Heap.joinR{w0 w w':World}{its its2:List It}(H:Heap w0 its w)(H2:Heap w its2 w'):Heap w0 (its++its2) w':=by
 have hl:=H.later H2.ext
 refine⟨hl.ext,fun i x hx=>?_,fun i j x y k hij hx hy ho ha=>?_⟩
 ·by_cases h1:i < its.length
  ·rw [List.getElem?_append_left h1]at hx
   exact hl.all _ x hx
  ·rw [List.getElem?_append_right (by omega)]at hx
   exact It.lower (H2.all _ x hx) H.ext.size
 ·by_cases h1:i < its.length
  ·rw [List.getElem?_append_left h1]at hx
   by_cases h2:j < its.length
   ·rw [List.getElem?_append_left h2]at hy
    exact H.apart i j x y k hij hx hy ho ha
   ·rw [List.getElem?_append_right (by omega)]at hy
    have a1:=It.at_ge (H2.all _ y hy) ha
    have a2:=It.at_lt (H.all _ x hx) (It.own_at ho)
    omega
  ·rw [List.getElem?_append_right (by omega)]at hx
   by_cases h2:j < its.length
   ·rw [List.getElem?_append_left h2]at hy
    have a1:=It.at_ge (H2.all _ x hx) (It.own_at ho)
    have a2:=It.at_lt (H.all _ y hy) ha
    omega
   ·rw [List.getElem?_append_right (by omega)]at hy
    exact H2.apart _ _ x y k (fun e=>hij (by omega)) hx hy ho ha
abbrev wri(b:Nat)(v:Value)(n:Nat)(xs:List ByteArray)(its:List It):List It:= .box b [v]:: .row 9 1 v n (xs.map Value.string)::its
theorem acF{w0 w:World}{its:List It}(b:Nat)(v:Value)(n:Nat)(xs ys:List ByteArray)(H:Heap w0 (wri b v n xs its) w)(A:Option Addr)(m c:Nat)(hm:m=ys.length)(hr:Rd w 0 w.heap.size A (ys.map Value.string))(hN:n+m≤100000000):
 Calls Tryz.prog 87 #[.pointer (some ⟨b,0,none⟩),.slice A m c] w fun e w'=> ∃v',e= .returned (.tuple #[])∧Heap w0 (wri b v' (n+m) (xs++ys) its) w':=by
 obtain⟨i0,hi0,hz0,hz1,hz2⟩:=info_parts afj
 have HH:=hiD H
 have HR:=hiD hr
 have Hm:=hiD hm
 have HO:=hiD (show∀u∈ys.map Value.string,u.oneCell'=true from fun u hu=>by obtain⟨y,_,rfl⟩:=List.mem_map.1 hu;rfl)
 clear H hr hm
 go_enter Tryz.func87,Tryz.ntmps87
 go_wp2_with (first | (refine l1X HH 0 ?_) | (refine qk (e:=9) (size:=1) (bytes:=16) (news:=ys.map Value.string) (lo:=0) (.tmp 8) (.tmp 9) _ rfl rfl Tryz.underlying109 hi0 hz0 hz1 hz2 rfl (by omega) HH.out 1 rfl rfl (m:=m) rfl (by rw [Nat.mul_one,List.length_map];exact Hm.out.symm) HR.out HO.out (by simp only [maxLen];omega) (by omega) ?_;intro v7 w7 hh7 h7;clear HH;obtain⟨A7,c7,rfl⟩:=h7;have HH:=hiD hh7;clear hh7) | (refine s1X HH 0 ?_;clear HH;intro wS HH))
 go_end0
 refine⟨rfl,.slice A7 (n+m) c7,?_⟩
 have h:=HH.out
 rw [wri,List.map_append]
 exact h
theorem aeE{w0 w:World}{its:List It}(b:Nat)(v:Value)(n:Nat)(xs:List ByteArray)(H:Heap w0 (wri b v n xs its) w)(A:Option Addr)(m c:Nat)(zs:List Int)(hm:m=zs.length)(hr:Rd w 0 w.heap.size A (ints zs))(hN:n+m≤100000000)(hwf: ∀z∈zs,-9223372036854775808≤z∧z≤9223372036854775807):
 Calls Tryz.prog 86 #[.pointer (some ⟨b,0,none⟩),.slice A m c] w fun e w'=> ∃v',e= .returned (.tuple #[])∧Heap w0 (wri b v' (n+m) (xs++zs.map zm) its) w':=by
 have HH:=hiD H
 have HNu:=hiD (zI w A m c zs hm hr (by omega) hwf)
 have Hm:=hiD (show m=(zs.map zm).length by rw [List.length_map];exact hm)
 have HE:=hiD (show qU zs=(zs.map zm).map Value.string by rw [List.map_map];rfl)
 clear H hr hwf hm
 go_enter Tryz.func86,Tryz.ntmps86
 go_wp2_with fail
 refine HNu.out.mono ?_
 rintro e w2 ⟨v2,rfl,hown,e2⟩
 obtain⟨A2,c2,rfl,k1,k2,_⟩:=zr hown
 have HR2:=hiD (show Rd w2 0 w2.heap.size A2 ((zs.map zm).map Value.string)by rw [←HE.out];exact(Rd.of_own hown).m0)
 have HH2:=hiD (HH.out.later e2)
 clear HH hown e2
 go_wp2_with fail
 refine(acF b v n xs (zs.map zm) HH2.out A2 m c2 Hm.out HR2.out hN).mono ?_
 rintro e w3 ⟨v3,rfl,h3⟩
 have HH3:=hiD h3
 clear h3 HH2 HR2
 go_wp2_with fail
 go_end0
 first | exact⟨v3,rfl,HH3.out⟩ | exact⟨rfl,v3,HH3.out⟩
theorem yX(w:World)(q:Int):Calls Tryz.prog 46 #[.bool true,.int .i64 q] w fun e w'=>e= .returned (.tuple #[])∧w'=w:=by
 go_enter Tryz.func46,Tryz.ntmps46
 go_wp2_with fail
 go_end0
 exact⟨rfl,rfl⟩
theorem ahv{w0 w:World}{its:List It}(b:Nat)(v:Value)(n:Nat)(xs:List ByteArray)(H:Heap w0 (wri b v n xs its) w)(A:Option Addr)(m c:Nat)(bs:List UInt8)(hm:m=bs.length)(hM:m≤100000000)(hr:Rd w 0 w.heap.size A (bytes bs))(hN:n+1≤100000000):
 Calls Tryz.prog 90 #[.pointer (some ⟨b,0,none⟩),.slice A m c,.int .i64 0] w fun e w'=> ∃v',e= .returned (.tuple #[])∧Heap w0 (wri b v' (n+1) (xs++ [aaa bs]) its) w':=by
 have HH:=hiD H
 have HC:=hiD (fun W (hW:Ext w W)=>qB (P:=Tryz.prog) W 53 9 5 Tryz.underlying53 Tryz.underlying5 Tryz.underlying9 _ _ A m c bs hm (Rd.at hr hW (Nat.le_refl _)))
 have Hm:=hiD hm
 clear H hr hm
 go_enter Tryz.func90,Tryz.ntmps90
 go_wp2_with fail
 refine(yX w 0).mono ?_
 rintro e w1 ⟨rfl,rfl⟩
 have hcv:=HC.out w1 (Ext.refl _)
 clear HC
 go_wp2_with fail
 generalize hwA:World.alloc w1 _=w2
 have HH2:=hiD (HH.out.allocE hwA)
 clear hwA HH hcv
 have HR2:=hiD (show Rd w2 0 w2.heap.size (some ⟨w1.heap.size,0,none⟩) ([aaa bs].map Value.string)from(HH2.out.boxRd 0 rfl).m0)
 refine(acF b v n xs [aaa bs] HH2.out.tail _ 1 1 rfl HR2.out hN).mono ?_
 rintro e w3 ⟨v3,rfl,h3⟩
 have HH3:=hiD h3
 clear h3 HH2 HR2
 go_wp2_with fail
 go_end0
 first | exact⟨v3,rfl,HH3.out⟩ | exact⟨rfl,v3,HH3.out⟩
theorem amx{w0 w:World}{its:List It}(b:Nat)(v:Value)(n:Nat)(xs:List ByteArray)(H:Heap w0 (wri b v n xs its) w)(A:Option Addr)(m c:Nat)(ps:List Prp)(hm:m=ps.length)(hM:m≤10000000)(hr:Rd w0 0 w0.heap.size A (prps ps))(hN:n≤10000000):
 Calls Tryz.prog 89 #[.pointer (some ⟨b,0,none⟩),.slice A m c] w fun e w'=> ∃v',e= .returned (.tuple #[])∧Heap w0 (wri b v' (n+(1+m * 2)) (xs++yU ps) its) w':=by
 have HH:=hiD H
 have HT:=hiD (fun W (hW:Ext w0 W)=>adB W A m c ps hm (by omega) (Rd.at hr hW (Nat.le_refl _)))
 have Hm:=hiD hm
 clear H hr hm
 go_enter Tryz.func89,Tryz.ntmps89
 go_wp2_with fail
 generalize hwA:World.alloc w _=w2
 have HH2:=hiD (HH.out.allocE hwA)
 clear hwA HH
 refine(aeE b v n xs HH2.out.tail _ 1 1 [(m:Int)] rfl ((HH2.out.boxRd 0 rfl).m0) (by omega) (by intro z hz;simp only [List.mem_singleton]at hz;subst hz;omega)).mono ?_
 rintro e w3 ⟨v3,rfl,h3⟩
 have HH3:=hiD h3
 clear h3 HH2
 go_wp2_with fail
 refine(HT.out w3 HH3.out.ext).mono ?_
 rintro e w4 ⟨v4,rfl,hown,e4⟩
 obtain⟨A4,c4,rfl,k1,k2,_⟩:=zr hown
 have HR4:=hiD (show Rd w4 0 w4.heap.size A4 ((zW ps).map Value.string)from(Rd.of_own hown).m0)
 have HH4:=hiD (HH3.out.later e4)
 have HX:=hiD (show yU ps= [zm (m:Int)]++zW ps by rw [yU,Hm.out];rfl)
 clear HH3 hown e4 HT
 go_wp2_with fail
 refine(acF b v3 (n+1) _ (zW ps) HH4.out A4 (m * 2) c4 (by rw [xR,Hm.out]) HR4.out (by omega)).mono ?_
 rintro e w5 ⟨v5,rfl,h5⟩
 have HH5:=hiD h5
 clear h5 HH4 HR4
 go_wp2_with fail
 go_end0
 have h:Heap w0 (wri b v5 (n+(1+m * 2)) (xs++yU ps) its) w5:=by
  rw [HX.out,←List.append_assoc,←Nat.add_assoc]
  exact HH5.out
 first | exact⟨v5,rfl,h⟩ | exact⟨rfl,v5,h⟩
theorem ak4(w:World)(A:Option Addr)(n c:Nat)(ks:List ByteArray)(hn:n=ks.length)(hc:n≤c)(hN:n≤1000)(hl:(zJ ks).size≤100000000)(hr:Rd w 0 w.heap.size A (ks.map Value.string)):
 Calls Tryz.prog 145 #[.slice A n c,.string ⟨#[47]⟩] w fun e w'=>e= .returned (.string (zJ ks))∧Ext w w':=by
 subst hn
 by_cases h0:ks= []
 ·subst h0
  refine(Tryz.strings_Join_none A c ⟨#[47]⟩ w).mono ?_
  rintro e w' ⟨rfl,rfl⟩
  exact⟨rfl,Ext.refl _⟩
 ·obtain⟨b,o,rfl,_,hb,hcl⟩:=hr (by simpa using h0)
  exact Tryz.strings_Join b o c ks ⟨#[47]⟩ w (fun j x hx=>hcl j _ (by rw [List.getElem?_map,hx];rfl)) hb (by omega) hc (by
   have e:(zJ ks).size=(Go.Lib.join (ks.map (·.data.toList)) [47]).length:=List.size_toArray
   rw [e]at hl
   exact Nat.le_trans hl (by decide))
theorem yr:(Tryz.prog.info? 56).map (·.size)=some 3:=by kernel_rfl
def acE(w w':World)(k:ByteArray)(bs:List UInt8)(e:Ending):Prop:=
 ∃A m c,e= .returned (.agg #[.string k,.slice A m c,.slice none 0 0])∧w'.ownsRow w.heap.size 5 1 (.slice A m c) m (bytes bs)∧m=bs.length∧Ext w w'
theorem ahm{w0 w:World}{its:List It}(b:Nat)(A0:Option Addr)(c0 n:Nat)(xs:List ByteArray)(H:Heap w0 (wri b (.slice A0 n c0) n xs its) w)(A:Option Addr)(m c:Nat)(ks:List ByteArray)(hm:m=ks.length)(hc:m≤c)(hM:m≤1000)(hr:Rd w 0 w.heap.size A (ks.map Value.string))(hx:n=xs.length)(hN:n≤10000000)(hE:wE xs=0)(hl:(zJ ks).size≤100000000):
 Calls Tryz.prog 88 #[.pointer (some ⟨b,0,none⟩),.slice A m c] w fun e w'=>acE w w' (zJ ks) (zu xs) e:=by
 have HH:=hiD H
 have HW:=hiD (fun W (hW:Ext w W)=>show Calls Tryz.prog 97 #[.slice A0 n c0] W fun e w'=> ∃v,e= .returned (.tuple #[v,.int .i64 0])∧w'.ownsRow W.heap.size 5 1 v (zu xs).length (bytes (zu xs))∧Ext W w' from(adC W A0 n c0 xs hx (by omega) (Rd.at ((Rd.of_own (H.rowAt 1 rfl)).m0) hW (Nat.le_refl _))).mono (fun e w' h=>by
  obtain⟨v,h1,h2,h3⟩:=h
  rw [hE]at h1
  rw [show wB xs=zu xs by rw [wB,if_pos hE]]at h2
  exact⟨v,h1,h2,h3⟩))
 have HJ:=hiD (fun W (hW:Ext w W)=>ak4 W A m c ks hm hc hM hl (Rd.at hr hW (Nat.le_refl _)))
 have HG:=hiD (show w.cell? ⟨b,0,none⟩=some (.slice A0 n c0)from(H.boxAt 0 rfl).cell 0 _ rfl)
 clear H hr hm hE hx hl hc hN hM
 go_enter Tryz.func88,Tryz.ntmps88
 go_upto_region 1 with fail
 generalize hwH:World.alloc w _=w1;have HH:=hiD (Heap.one hwH);clear hwH
 have g0:w1.cell? ⟨b,0,none⟩=some (.slice A0 n c0):=(Below.cell HH.out.ext (World.block_lt_of_cell? w _ HG.out)).trans HG.out
 clear HG
 go_wp2_with fail
 clear g0
 refine(HW.out _ HH.out.ext).mono ?_
 rintro e w2 ⟨v2,rfl,hown,e2⟩
 obtain⟨A2,c2,rfl,k1,k2,_⟩:=zr hown
 have HH2:=hiD (HH.out.addRow e2 hown)
 clear HH hown e2
 go_wp2_with fail
 refine(yX w2 0).mono ?_
 rintro e w3 ⟨rfl,rfl⟩
 go_wp2_with fail
 refine cX HH2 (HJ.out w3 HH2.out.ext) ?_
 clear HH2
 intro w4 HH
 go_wp2_with (refine sSX HH yr 1 ?_;clear HH;intro wS HH)
 refine aax yr (by kernel_rfl) HH.out rfl rfl 1 rfl rfl rfl ?_
 exact⟨A2,_,c2,rfl,HH.out.rowAt 0 rfl,rfl,HH.out.ext⟩
theorem zQ(l:List Prp):(yU l).length=1+l.length * 2:=by rw [yU,List.length_cons,xR];omega
theorem anI{α:Type}(f:α→List ByteArray)(l:List α)(k:Nat)(h:k < l.length):((l.take k).flatMap f).length+(f l[k]).length≤(l.flatMap f).length:=by
 have e:l=l.take k++l[k]::l.drop (k+1):=by simp
 have:(l.flatMap f).length=((l.take k++l[k]::l.drop (k+1)).flatMap f).length:=by rw [←e]
 rw [this,List.flatMap_append,List.flatMap_cons,List.length_append,List.length_append];omega
theorem aoy{l:List ByteArray}(h:wE l=0):l.length≤1024:=by
 have: ¬1024 < l.length:=fun h'=>by rw [wE,if_pos h']at h;cases h
 omega
abbrev wtr(b:Nat)(A:Option Addr)(c:Nat)(xs:List ByteArray)(its:List It):List It:=wri b (.slice A xs.length c) xs.length xs its
theorem agv{w0 w:World}{its:List It}{b n:Nat}{v:Value}{xs:List ByteArray}(H:Heap w0 (wri b v n xs its) w): ∃A c,Heap w0 (wtr b A c xs its) w:=by
 have hr:=H.rowAt 1 rfl
 obtain⟨A,c,rfl,_,_,_⟩:=zr hr
 have hn:xs.length=n:=by have:=hr.1;rw [List.length_map,Nat.mul_one]at this;exact this
 subst hn
 exact⟨A,c,H⟩
theorem alW{w0 w:World}{its:List It}{b:Nat}(H:Heap w0 (.box b [.slice none 0 0]::its) w):Heap w0 (wtr b none 0 [] its) w:=by
 have h:=H.row0 (e:=9) (size:=1)
 exact(show Heap w0 (.row 9 1 (.slice none 0 0) 0 []::([.box b [.slice none 0 0]]++its)) w from h).mid
theorem aeV{w0 w:World}{x:It}{its:List It}{b:Nat}{A:Option Addr}{c:Nat}{xs:List ByteArray}(H:Heap w0 (x::wtr b A c xs its) w):Heap w0 (wtr b A c xs (x::its)) w:=
 (show Heap w0 (x::([.box b [.slice A xs.length c],.row 9 1 (.slice A xs.length c) xs.length (xs.map Value.string)]++its)) w from H).mid
theorem aeJ{w0 w:World}{x:It}{its:List It}{b:Nat}{A:Option Addr}{c:Nat}{xs:List ByteArray}(H:Heap w0 (wtr b A c xs (x::its)) w):Heap w0 (wtr b A c xs its) w:=by
 refine H.sub' (fun i=>if i < 2 then i else i+1) (fun i j e=>?_) fun i y hy=>?_
 ·split at e <;> split at e <;> omega
 ·match i with
  | 0=>exact hy
  | 1=>exact hy
  | i+2=>
    rw [if_neg (by omega)]
    exact hy
theorem acE.lower{w0 w w':World}{k:ByteArray}{bs:List UInt8}{e:Ending}(h:acE w w' k bs e)(e0:Ext w0 w):acE w0 w' k bs e:=by
 obtain⟨A,m,c,h1,h2,h3,h4⟩:=h
 exact⟨A,m,c,h1,xw h2 e0.size,h3,e0.trans h4⟩
section
variable {w0 w:World} {its:List It} (b:Nat) (A0:Option Addr) (c0:Nat) (xs:List ByteArray)
theorem ab2(ys:List ByteArray)(H:Heap w0 (wtr b A0 c0 xs its) w)(A:Option Addr)(m c:Nat)(hm:m=ys.length)(hr:Rd w 0 w.heap.size A (ys.map Value.string))(hN:xs.length+m≤100000000):
 Calls Tryz.prog 87 #[.pointer (some ⟨b,0,none⟩),.slice A m c] w fun e w'=>e= .returned (.tuple #[])∧ ∃A' c',Heap w0 (wtr b A' c' (xs++ys) its) w':=
 (acF b _ _ xs ys H A m c hm hr hN).mono fun e w' h=>by
   obtain⟨v,h1,h2⟩:=h
   exact⟨h1,agv h2⟩
theorem qj(zs:List Int)(H:Heap w0 (wtr b A0 c0 xs its) w)(A:Option Addr)(m c:Nat)(hm:m=zs.length)(hr:Rd w 0 w.heap.size A (ints zs))(hN:xs.length+m≤100000000)(hwf: ∀z∈zs,-9223372036854775808≤z∧z≤9223372036854775807):
 Calls Tryz.prog 86 #[.pointer (some ⟨b,0,none⟩),.slice A m c] w fun e w'=>e= .returned (.tuple #[])∧ ∃A' c',Heap w0 (wtr b A' c' (xs++zs.map zm) its) w':=
 (aeE b _ _ xs H A m c zs hm hr hN hwf).mono fun e w' h=>by
   obtain⟨v,h1,h2⟩:=h
   exact⟨h1,agv h2⟩
theorem abO(bs:List UInt8)(H:Heap w0 (wtr b A0 c0 xs its) w)(A:Option Addr)(m c:Nat)(hm:m=bs.length)(hM:m≤100000000)(hr:Rd w 0 w.heap.size A (bytes bs))(hN:xs.length+1≤100000000):
 Calls Tryz.prog 90 #[.pointer (some ⟨b,0,none⟩),.slice A m c,.int .i64 0] w fun e w'=>e= .returned (.tuple #[])∧ ∃A' c',Heap w0 (wtr b A' c' (xs++ [aaa bs]) its) w':=
 (ahv b _ _ xs H A m c bs hm hM hr hN).mono fun e w' h=>by
   obtain⟨v,h1,h2⟩:=h
   exact⟨h1,agv h2⟩
theorem ajC(ps:List Prp)(H:Heap w0 (wtr b A0 c0 xs its) w)(A:Option Addr)(m c:Nat)(hm:m=ps.length)(hM:m≤10000000)(hr:Rd w0 0 w0.heap.size A (prps ps))(hN:xs.length≤10000000):
 Calls Tryz.prog 89 #[.pointer (some ⟨b,0,none⟩),.slice A m c] w fun e w'=>e= .returned (.tuple #[])∧ ∃A' c',Heap w0 (wtr b A' c' (xs++yU ps) its) w':=
 (amx b _ _ xs H A m c ps hm hM hr hN).mono fun e w' h=>by
   obtain⟨v,h1,h2⟩:=h
   exact⟨h1,agv h2⟩
theorem adG(ks:List ByteArray)(H:Heap w0 (wtr b A0 c0 xs its) w)(A:Option Addr)(m c:Nat)(hm:m=ks.length)(hc:m≤c)(hM:m≤1000)(hr:Rd w 0 w.heap.size A (ks.map Value.string))(hE:wE xs=0)(hl:(zJ ks).size≤100000000):
 Calls Tryz.prog 88 #[.pointer (some ⟨b,0,none⟩),.slice A m c] w fun e w'=>acE w w' (zJ ks) (zu xs) e:=
 ahm b A0 c0 _ xs H A m c ks hm hc hM hr rfl (by
  have: ¬1024 < xs.length:=fun h=>by rw [wE,if_pos h]at hE;cases hE
  omega) hE hl
end
section
variable {P:Program} {w:World} {o':Oper} {a:Act}
theorem qm{t:TypeId}{x:Operand}{b o n:Nat}{cs:List Value}(hc: ∀j u,cs[j]?=some u→w.cell? ⟨b,o+j,none⟩=some u)(hn:cs.length=n)(hs:(P.info? t).map (·.size)=some n)(hk:qG P t=some true)(ho:o'.op= .load t x)(hx:a.eval x= .pointer (some ⟨b,o,none⟩)):
 (execOp a.eval o').run P w= .ok (.value (.agg cs.toArray)) w:=by
 subst hn
 have hc:=run_loadCells_list (P:=P) w ⟨b,o,none⟩ cs (fun j u hu=>by rw [xS];exact hc j u hu)
 unfold execOp
 simp [ho,hx,Instr.loadAt,Instr.sureAddr,loadVar,aay hk,abc hs,hc]
variable {ops:Array Oper} {rest:List Oper} {Q:Exit→Act→World→Prop}
theorem yF{t:TypeId}{x:Operand}{b o n:Nat}{cs:List Value}(hc: ∀j u,cs[j]?=some u→w.cell? ⟨b,o+j,none⟩=some u)(hn:cs.length=n)(hs:(P.info? t).map (·.size)=some n)(hk:qG P t=some true)(ho:o'.op= .load t x)(hgd:o'.guard=none)(hx:a.eval x= .pointer (some ⟨b,o,none⟩))
 (k:wpList P ops Q rest (a.put o'.dst (.agg cs.toArray)) w):wpList P ops Q (o'::rest) a w:=
 wpList_plain hgd fun K hK=>by
  unfold Oper.wp
  rw [qm hc hn hs hk ho hx]
  exact hK _ _ k
end
theorem qh(w:World)(a b:Int)(h1: -9223372036854775808≤a)(h2:a≤9223372036854775807):
 Calls Tryz.prog 80 #[.int .i64 a,.int .i64 b] w fun e w'=>e= .returned (.bool (zE a b))∧Ext w w':=by
 unfold zE
 go_enter Tryz.func80,Tryz.ntmps80
 go_wp2_with fail
 all_goals (go_ret;refine⟨aaP ?_,Ext.refl _⟩;(first | (simp [*];done) | (simp [*];omega)))
theorem yW(a b:ByteArray):(a.toList == b.toList)=decide (a=b):=by
 by_cases h:a=b
 ·subst h;simp
 ·rw [decide_eq_false h,beq_eq_false_iff_ne]
  intro e
  apply h
  rw [Lib.toList_data,Lib.toList_data]at e
  cases a;cases b
  congr 1
  exact Array.toList_inj.1 e
theorem amB(w:World)(A:Option Addr)(n c:Nat)(xs:List Dst)(hn:n=xs.length)(hm:n≤9223372036854775807)(hr:Rd w 0 w.heap.size A (xs.flatMap Dst.cells))(p:Dst→Bool)(F:Value)(f:FuncId)(caps:Array Value)(hf:F= .func (.func f) #[] caps)(hcf: ∀args w,(callFunc f args).run Tryz.prog w= .ok (.enter f args) w)
 (hF: ∀x∈xs,∀w1,Ext w w1→Calls Tryz.prog f (#[.agg x.cells.toArray]++caps) w1 fun e w'=>e= .returned (.bool (p x))∧Ext w1 w'):
 Calls Tryz.prog 176 #[.slice A n c,F] w fun e w'=>e= .returned (.int .i64 (zC p xs))∧Ext w w':=by
 subst hf
 have Hn:=hiD hn
 have HF:=hiD hF
 have HAt:=hiD (abp p xs)
 have HNo:=hiD (aaL p xs)
 generalize zC p xs=V at *
 clear hn hF
 go_enter Tryz.func176,Tryz.ntmps176
 go_wp2_with fail
 go_loopw [8] (fun i wr=> ∃k:Nat,k≤n∧i= .int .i64 k∧Hid (∀x∈xs.take k,p x=false)∧Ext w wr) (fun i _=>n - (intOf i).toNat)
 case atStart=>exact⟨0,Nat.zero_le _,rfl,hiD (by simp),Ext.refl _⟩
 case round=>
  obtain⟨k,hk,rfl,HK,e1⟩:=hrel
  by_cases hlt:k < n
  ·have hl:k < xs.length:=by rw [←Hn.out];omega
   obtain⟨b1,o1,rfl,_,hb1,G0⟩:=zh (size:=5) (fun _=>rfl) (by omega) hr hl
   have HC:=hiD (HF.out xs[k] (List.getElem_mem _) wr e1)
   have HY:=hiD (HAt.out k hl HK.out)
   have HT:=hiD (List.take_succ_eq_append_getElem hl)
   have G: ∀j u,(Dst.cells xs[k])[j]?=some u→wr.cell? ⟨b1,o1+k * 5+j,none⟩=some u:=fun j u hu=>by rw [Below.cell e1 hb1];exact G0 j u hu
   generalize xs[k]=x at *
   have g0:=G 0 _ rfl;have g1:=G 1 _ rfl;have g2:=G 2 _ rfl;have g3:=G 3 _ rfl;have g4:=G 4 _ rfl
   simp only [Nat.add_zero,Nat.mul_one]at g0
   clear G G0
   go_wp2_with fail
   refine HC.out.mono ?_
   rintro e w2 ⟨rfl,e2⟩
   cases ho:p x
   ·go_wp2_with fail
    go_roundw
    case rel=>
     refine⟨k+1,by omega,by go_num,hiD (fun z hz=>?_),blo⟩
     rw [HT.out]at hz
     rcases List.mem_append.1 hz with hz | hz
     ·exact HK.out z hz
     ·simp only [List.mem_singleton]at hz;subst hz;exact ho
    case measure=>simp [intOf];omega
   ·go_wp2_with fail
    go_ret
    exact⟨by rw [HY.out ho];rfl,blo⟩
  ·obtain rfl:k=n:=by omega
   have h1:=HK.out
   rw [List.take_of_length_le (by rw [←Hn.out];exact Nat.le_refl _)]at h1
   have HZ:=hiD (HNo.out h1)
   clear h1
   go_wp2_with fail
   go_ret
   exact⟨by rw [HZ.out];rfl,e1⟩
theorem amc(w:World)(A:Option Addr)(n c:Nat)(xs:List Sna)(hn:n=xs.length)(hm:n≤9223372036854775807)(hr:Rd w 0 w.heap.size A (xs.flatMap Sna.cells))(p:Sna→Bool)(F:Value)(f:FuncId)(caps:Array Value)(hf:F= .func (.func f) #[] caps)(hcf: ∀args w,(callFunc f args).run Tryz.prog w= .ok (.enter f args) w)
 (hF: ∀x∈xs,∀w1,Ext w w1→Calls Tryz.prog f (#[.agg x.cells.toArray]++caps) w1 fun e w'=>e= .returned (.bool (p x))∧Ext w1 w'):
 Calls Tryz.prog 214 #[.slice A n c,F] w fun e w'=>e= .returned (.int .i64 (zC p xs))∧Ext w w':=by
 subst hf
 have Hn:=hiD hn
 have HF:=hiD hF
 have HAt:=hiD (abp p xs)
 have HNo:=hiD (aaL p xs)
 generalize zC p xs=V at *
 clear hn hF
 go_enter Tryz.func214,Tryz.ntmps214
 go_wp2_with fail
 go_loopw [8] (fun i wr=> ∃k:Nat,k≤n∧i= .int .i64 k∧Hid (∀x∈xs.take k,p x=false)∧Ext w wr) (fun i _=>n - (intOf i).toNat)
 case atStart=>exact⟨0,Nat.zero_le _,rfl,hiD (by simp),Ext.refl _⟩
 case round=>
  obtain⟨k,hk,rfl,HK,e1⟩:=hrel
  by_cases hlt:k < n
  ·have hl:k < xs.length:=by rw [←Hn.out];omega
   obtain⟨b1,o1,rfl,_,hb1,G0⟩:=zh (size:=5) (fun _=>rfl) (by omega) hr hl
   have HC:=hiD (HF.out xs[k] (List.getElem_mem _) wr e1)
   have HY:=hiD (HAt.out k hl HK.out)
   have HT:=hiD (List.take_succ_eq_append_getElem hl)
   have G: ∀j u,(Sna.cells xs[k])[j]?=some u→wr.cell? ⟨b1,o1+k * 5+j,none⟩=some u:=fun j u hu=>by rw [Below.cell e1 hb1];exact G0 j u hu
   generalize xs[k]=x at *
   have g0:=G 0 _ rfl;have g1:=G 1 _ rfl;have g2:=G 2 _ rfl;have g3:=G 3 _ rfl;have g4:=G 4 _ rfl
   simp only [Nat.add_zero,Nat.mul_one]at g0
   clear G G0
   go_wp2_with fail
   refine HC.out.mono ?_
   rintro e w2 ⟨rfl,e2⟩
   cases ho:p x
   ·go_wp2_with fail
    go_roundw
    case rel=>
     refine⟨k+1,by omega,by go_num,hiD (fun z hz=>?_),blo⟩
     rw [HT.out]at hz
     rcases List.mem_append.1 hz with hz | hz
     ·exact HK.out z hz
     ·simp only [List.mem_singleton]at hz;subst hz;exact ho
    case measure=>simp [intOf];omega
   ·go_wp2_with fail
    go_ret
    exact⟨by rw [HY.out ho];rfl,blo⟩
  ·obtain rfl:k=n:=by omega
   have h1:=HK.out
   rw [List.take_of_length_le (by rw [←Hn.out];exact Nat.le_refl _)]at h1
   have HZ:=hiD (HNo.out h1)
   clear h1
   go_wp2_with fail
   go_ret
   exact⟨by rw [HZ.out];rfl,e1⟩
theorem xq:(Tryz.prog.info? 52).map (·.size)=some 5:=by kernel_rfl
theorem zt:(Tryz.prog.info? 27).map (·.size)=some 7:=by kernel_rfl
theorem aaj:(Tryz.prog.info? 137).map (·.size)=some 5:=by kernel_rfl
theorem akO(w:World)(b:Nat)(s:ByteArray)(x:Dst)(hb:w.cell? ⟨b,0,none⟩=some (.string s)):
 Calls Tryz.prog 177 #[.agg x.cells.toArray,.pointer (some ⟨b,0,none⟩)] w fun e w'=>e= .returned (.bool (decide (x.path=s)))∧Ext w w':=by
 have HE:=hiD (yW x.path s)
 have HB:=hiD (World.block_lt_of_cell? w _ hb)
 obtain⟨x1,x2,x3,x4,x5⟩:=x
 dsimp only at HE ⊢
 generalize decide (_=s)=V at *
 simp only [Dst.cells]
 go_enter Tryz.func177,Tryz.ntmps177
 go_upto_region 1 with fail
 generalize hwH:World.alloc w _=w1;have HH:=hiD (Heap.one hwH);clear hwH
 have g0:=(HH.out.boxAt 0 rfl).cell 0 _ rfl
 have c0:=(Below.cell HH.out.ext HB.out).trans hb
 have HEx:=hiD HH.out.ext
 have he:=HE.out
 cases V with
 | false=>
   go_wp2_with fail
   go_ret
   exact⟨rfl,HEx.out⟩
 | true=>
   go_wp2_with fail
   go_ret
   exact⟨rfl,HEx.out⟩
theorem akc(w:World)(b:Nat)(s:ByteArray)(x:Sna)(hb:w.cell? ⟨b,0,none⟩=some (.string s)):
 Calls Tryz.prog 215 #[.agg x.cells.toArray,.pointer (some ⟨b,0,none⟩)] w fun e w'=>e= .returned (.bool (decide (x.name=s)))∧Ext w w':=by
 have HE:=hiD (yW x.name s)
 have HB:=hiD (World.block_lt_of_cell? w _ hb)
 obtain⟨x1,x2,x3,x4,x5⟩:=x
 dsimp only at HE ⊢
 generalize decide (_=s)=V at *
 simp only [Sna.cells]
 go_enter Tryz.func215,Tryz.ntmps215
 go_upto_region 1 with fail
 generalize hwH:World.alloc w _=w1;have HH:=hiD (Heap.one hwH);clear hwH
 have g0:=(HH.out.boxAt 0 rfl).cell 0 _ rfl
 have c0:=(Below.cell HH.out.ext HB.out).trans hb
 have HEx:=hiD HH.out.ext
 have he:=HE.out
 cases V with
 | false=>
   go_wp2_with fail
   go_ret
   exact⟨rfl,HEx.out⟩
 | true=>
   go_wp2_with fail
   go_ret
   exact⟨rfl,HEx.out⟩
theorem aji: ∀args w,(callFunc 177 args).run Tryz.prog w= .ok (.enter 177 args) w:=afd Tryz.func177 (by kernel_rfl) rfl
theorem ajd: ∀args w,(callFunc 215 args).run Tryz.prog w= .ok (.enter 215 args) w:=afd Tryz.func215 (by kernel_rfl) rfl
theorem aha(w:World)(t:Tnt)(s:ByteArray)(h:Sl.At w 0 w.heap.size Dst.cells (Dst.At w 0 w.heap.size) t.sets):
 Calls Tryz.prog 136 #[.agg t.cells.toArray,.string s] w fun e w'=>e= .returned (.int .i64 (atS t.sets.xs s))∧Ext w w':=by
 have HI:=hiD (fun W (hW:Ext w W) b (hb:W.cell? ⟨b,0,none⟩=some (.string s))=>amB W t.sets.A t.sets.n t.sets.c t.sets.xs h.len (Nat.le_trans (Nat.le_trans h.le h.cap) (by decide)) (Rd.at h.rd hW (Nat.le_refl _)) (fun x=>decide (x.path=s)) _ 177 #[.pointer (some ⟨b,0,none⟩)] rfl aji
  (fun x hx w1 e1=>akO w1 b s x ((Below.cell e1 (World.block_lt_of_cell? W _ hb)).trans hb)))
 clear h
 obtain⟨t1,t2,t3,⟨A,n,c,xs⟩,t5,t6,t7⟩:=t
 unfold atS
 simp only [Tnt.cells,Sl.val]at *
 go_enter Tryz.func136,Tryz.ntmps136
 go_upto_region 1 with fail
 generalize hwH:World.alloc (World.alloc w _) _=w1;have HH:=hiD (Heap.two hwH);clear hwH
 have g3:=(HH.out.boxAt 1 rfl).cell 3 _ rfl
 go_wp2_with fail
 refine(HI.out _ HH.out.ext _ ((HH.out.boxAt 0 rfl).cell 0 _ rfl)).mono ?_
 rintro e w2 ⟨rfl,e2⟩
 have HE:=hiD (HH.out.ext.trans e2)
 go_wp2_with fail
 go_ret
 exact⟨rfl,HE.out⟩
theorem amT(w:World)(t:Dst)(s:ByteArray)(h:Sl.At w 0 w.heap.size Sna.cells (Sna.At w 0 w.heap.size) t.snaps):
 Calls Tryz.prog 184 #[.agg t.cells.toArray,.string s] w fun e w'=>e= .returned (.int .i64 (zC (fun x:Sna=>decide (x.name=s)) t.snaps.xs))∧Ext w w':=by
 have HI:=hiD (fun W (hW:Ext w W) b (hb:W.cell? ⟨b,0,none⟩=some (.string s))=>amc W t.snaps.A t.snaps.n t.snaps.c t.snaps.xs h.len (Nat.le_trans (Nat.le_trans h.le h.cap) (by decide)) (Rd.at h.rd hW (Nat.le_refl _)) (fun x=>decide (x.name=s)) _ 215 #[.pointer (some ⟨b,0,none⟩)] rfl ajd
  (fun x hx w1 e1=>akc w1 b s x ((Below.cell e1 (World.block_lt_of_cell? W _ hb)).trans hb)))
 clear h
 obtain⟨t1,t2,t3,⟨A,n,c,xs⟩,t5⟩:=t
 simp only [Dst.cells,Sl.val]at *
 go_enter Tryz.func184,Tryz.ntmps184
 go_upto_region 1 with fail
 generalize hwH:World.alloc (World.alloc w _) _=w1;have HH:=hiD (Heap.two hwH);clear hwH
 have g3:=(HH.out.boxAt 1 rfl).cell 3 _ rfl
 go_wp2_with fail
 refine(HI.out _ HH.out.ext _ ((HH.out.boxAt 0 rfl).cell 0 _ rfl)).mono ?_
 rintro e w2 ⟨rfl,e2⟩
 have HE:=hiD (HH.out.ext.trans e2)
 go_wp2_with fail
 go_ret
 exact⟨rfl,HE.out⟩
end Go.Proofs.YtckaneapjpiocaaGreatDoor
