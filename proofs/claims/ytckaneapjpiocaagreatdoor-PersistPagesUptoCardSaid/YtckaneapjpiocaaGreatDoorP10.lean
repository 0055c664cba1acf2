/- The texts StgS, Stgd, Tnt, Tck, Ns, Ix, Tpl, Rl, Tr1 in one file. -/
import Derived.Test.YtckaneapjpiocaaGreatDoorP8
import Derived.Test.YtckaneapjpiocaaGreatDoorP9
set_option linter.unusedVariables false
set_option linter.unusedSimpArgs false
set_option maxHeartbeats 8000000
set_option maxRecDepth 100000
namespace Go.Proofs.YtckaneapjpiocaaGreatDoor
open Go.RowKit
structure Stg where
 into:ByteArray
 beg:Rec
 bA:Option Addr
 bn:Nat
 bc:Nat
 body:List Blk
 pos:Int
 next:Int
 su:Su
 done:Bool
def Stg.cells(x:Stg):List Value:= .string x.into::(x.beg.cells++(.slice x.bA x.bn x.bc:: .int .i64 x.pos:: .int .i64 x.next::(x.su.cells++ [.bool x.done])))
structure Stg.ok (w:World) (x:Stg):Prop where
 into:x.into.size≤100000000
 beg:x.beg.wf
 begR:Rd w 0 w.heap.size x.beg.oA (prps x.beg.own)
 begN:x.beg.on≤100000000
 begS:(sumR x.beg).wf
 bodyN:x.bn=x.body.length
 bodyM:x.bn≤100000000
 bodyR:Rd w 0 w.heap.size x.bA (blks x.body)
 bodyW: ∀y∈x.body,y.wf
 pos: -9223372036854775808≤x.pos∧x.pos≤9223372036854775807
 next: -9223372036854775808≤x.next∧x.next≤9223372036854775807
 su:x.su.wf
theorem Stg.ok.ext{w w':World}{x:Stg}(h:x.ok w)(e:Ext w w'):x.ok w':=
 ⟨h.into,h.beg,Rd.at h.begR e (Nat.le_refl _),h.begN,h.begS,h.bodyN,h.bodyM,Rd.at h.bodyR e (Nat.le_refl _),h.bodyW,h.pos,h.next,h.su⟩
def amt(n:Int):Bool:=decide (0≤n) && decide (n≤1099511627776)
def stB(x:Stg):Bool:=!x.into.toList.isEmpty && (zv x.into && (x.beg.kind == 1 && (decide (yT x.beg=0) && (decide (bkE x.body=0) && (amt x.pos && amt x.next)))))
theorem x6:(Tryz.prog.info? 49).map (·.size)=some 21:=by kernel_rfl
structure Stg.rd (w:World) (x:Stg):Prop where
 begR:Rd w 0 w.heap.size x.beg.oA (prps x.beg.own)
 begL:x.beg.on=x.beg.own.length
 begN:x.beg.on≤100000000
 bodyN:x.bn=x.body.length
 bodyM:x.bn≤200000000
 bodyR:Rd w 0 w.heap.size x.bA (blks x.body)
theorem Stg.ok.rd{w:World}{x:Stg}(h:x.ok w):x.rd w:=⟨h.begR,h.beg.own,h.begN,h.bodyN,by have:=h.bodyM;omega,h.bodyR⟩
theorem Stg.rd.ext{w w':World}{x:Stg}(h:x.rd w)(e:Ext w w'):x.rd w':=⟨Rd.at h.begR e (Nat.le_refl _),h.begL,h.begN,h.bodyN,h.bodyM,Rd.at h.bodyR e (Nat.le_refl _)⟩
open Go.Maps Go.Sort Go.Shelf
def agp(s:ByteArray):List Value:= [.string s]
theorem acp(l:List ByteArray):l.flatMap agp=l.map Value.string:=by
 induction l with
 | nil=>rfl
 | cons b l ih=>rw [List.flatMap_cons,ih];rfl
def sml(s:ByteArray):Prop:=s.size≤1048576
abbrev Txs:=Sl ByteArray
abbrev Txs.At(w:World)(lo hi:Nat)(s:Txs):Prop:=Sl.At w lo hi agp sml s
def Blk.sm(x:Blk):Prop:=Blk.wf x
def Prp.sm(x:Prp):Prop:=sml x.name∧sml x.value
abbrev Bks.At(w:World)(lo hi:Nat)(s:Sl Blk):Prop:=Sl.At w lo hi Blk.cells Blk.sm s
abbrev Pps.At(w:World)(lo hi:Nat)(s:Sl Prp):Prop:=Sl.At w lo hi Prp.cells Prp.sm s
structure Sna where
 name:ByteArray
 guid:Int
 body:Sl Blk
 tags:Txs
 own:Sl Prp
def Sna.cells(x:Sna):List Value:= [.string x.name,.int .i64 x.guid,x.body.val,x.tags.val,x.own.val]
structure Sna.At (w:World) (lo hi:Nat) (x:Sna):Prop where
 name:sml x.name
 guid:(Lit.int .i64 x.guid).wf=true
 body:Bks.At w lo hi x.body
 bodyS:x.body.n≤1048576
 tags:Txs.At w lo hi x.tags
 own:Pps.At w lo hi x.own
 ownS:x.own.n≤1048576
structure Dst where
 path:ByteArray
 origin:ByteArray
 body:Sl Blk
 snaps:Sl Sna
 own:Sl Prp
def Dst.cells(x:Dst):List Value:= [.string x.path,.string x.origin,x.body.val,x.snaps.val,x.own.val]
structure Dst.At (w:World) (lo hi:Nat) (x:Dst):Prop where
 path:sml x.path
 origin:sml x.origin
 body:Bks.At w lo hi x.body
 bodyS:x.body.n≤1048576
 snaps:Sl.At w lo hi Sna.cells (Sna.At w lo hi) x.snaps
 snapsS:x.snaps.n≤1048576
 own:Pps.At w lo hi x.own
 ownS:x.own.n≤1048576
structure Gra where
 user:ByteArray
 path:ByteArray
 perms:Int
def Gra.cells(x:Gra):List Value:= [.string x.user,.string x.path,.int .i64 x.perms]
def Gra.sm(x:Gra):Prop:=sml x.user∧sml x.path∧(Lit.int .i64 x.perms).wf=true
structure Lin where
 user:ByteArray
 kind:Int
 path:ByteArray
 err:Int
def Lin.cells(x:Lin):List Value:= [.string x.user,.int .i64 x.kind,.string x.path,.int .i64 x.err]
def Lin.sm(x:Lin):Prop:=sml x.user∧sml x.path∧(Lit.int .i64 x.kind).wf=true∧(Lit.int .i64 x.err).wf=true
structure Stg.At (w:World) (lo hi:Nat) (x:Stg):Prop where
 begR:Rd w lo hi x.beg.oA (prps x.beg.own)
 beg:x.beg.wf
 begN:x.beg.on≤1048576
 begS:(sumR x.beg).wf
 bodyN:x.bn=x.body.length
 bodyM:x.bn≤1048576
 bodyC:x.bn≤x.bc∧x.bc≤maxLen
 bodyR:Rd w lo hi x.bA (blks x.body)
 bodyW: ∀b∈x.body,b.wf
 into:sml x.into
 pos:(Lit.int .i64 x.pos).wf=true
 next:(Lit.int .i64 x.next).wf=true
 su:x.su.wf
structure Tnt where
 name:ByteArray
 quota:Int
 next:Int
 sets:Sl Dst
 grants:Sl Gra
 stages:Sl Stg
 log:Sl Lin
def Tnt.cells(x:Tnt):List Value:= [.string x.name,.int .i64 x.quota,.int .i64 x.next,x.sets.val,x.grants.val,x.stages.val,x.log.val]
structure Tnt.At (w:World) (lo hi:Nat) (x:Tnt):Prop where
 name:sml x.name
 quota:(Lit.int .i64 x.quota).wf=true
 next:(Lit.int .i64 x.next).wf=true
 sets:Sl.At w lo hi Dst.cells (Dst.At w lo hi) x.sets
 grants:Sl.At w lo hi Gra.cells Gra.sm x.grants
 stages:Sl.At w lo hi Stg.cells (Stg.At w lo hi) x.stages
 log:Sl.At w lo hi Lin.cells Lin.sm x.log
section
variable {w w':World} {lo hi lo' hi':Nat}
theorem Sna.At.imp{x:Sna}(h:Sna.At w lo hi x)(hr: ∀A cs,Rd w lo hi A cs→Rd w' lo' hi' A cs):Sna.At w' lo' hi' x:=⟨h.name,h.guid,Sl.At.imp h.body (hr _ _) (fun _ h=>h),h.bodyS,Sl.At.imp h.tags (hr _ _) (fun _ h=>h),Sl.At.imp h.own (hr _ _) (fun _ h=>h),h.ownS⟩
theorem Dst.At.imp{x:Dst}(h:Dst.At w lo hi x)(hr: ∀A cs,Rd w lo hi A cs→Rd w' lo' hi' A cs):Dst.At w' lo' hi' x:=⟨h.path,h.origin,Sl.At.imp h.body (hr _ _) (fun _ h=>h),h.bodyS,Sl.At.imp h.snaps (hr _ _) (fun _ hx=>Sna.At.imp hx hr),h.snapsS,Sl.At.imp h.own (hr _ _) (fun _ h=>h),h.ownS⟩
theorem Stg.At.imp{x:Stg}(h:Stg.At w lo hi x)(hr: ∀A cs,Rd w lo hi A cs→Rd w' lo' hi' A cs):Stg.At w' lo' hi' x:=⟨hr _ _ h.begR,h.beg,h.begN,h.begS,h.bodyN,h.bodyM,h.bodyC,hr _ _ h.bodyR,h.bodyW,h.into,h.pos,h.next,h.su⟩
theorem Tnt.At.imp{x:Tnt}(h:Tnt.At w lo hi x)(hr: ∀A cs,Rd w lo hi A cs→Rd w' lo' hi' A cs):Tnt.At w' lo' hi' x:=⟨h.name,h.quota,h.next,Sl.At.imp h.sets (hr _ _) (fun _ hx=>Dst.At.imp hx hr),Sl.At.imp h.grants (hr _ _) (fun _ h=>h),Sl.At.imp h.stages (hr _ _) (fun _ hx=>Stg.At.imp hx hr),Sl.At.imp h.log (hr _ _) (fun _ h=>h)⟩
theorem Sna.At.on{x:Sna}(h:Sna.At w lo hi x)(e:Ext w w')(hh:hi≤w.heap.size):Sna.At w' lo w'.heap.size x:=h.imp (qv e hh)
theorem Dst.At.on{x:Dst}(h:Dst.At w lo hi x)(e:Ext w w')(hh:hi≤w.heap.size):Dst.At w' lo w'.heap.size x:=h.imp (qv e hh)
theorem Stg.At.on{x:Stg}(h:Stg.At w lo hi x)(e:Ext w w')(hh:hi≤w.heap.size):Stg.At w' lo w'.heap.size x:=h.imp (qv e hh)
theorem Tnt.At.on{x:Tnt}(h:Tnt.At w lo hi x)(e:Ext w w')(hh:hi≤w.heap.size):Tnt.At w' lo w'.heap.size x:=h.imp (qv e hh)
theorem yD{α:Type}{cells:α→List Value}{I I':α→Prop}{s:Sl α}(h:Sl.At w lo hi cells I s)(e:Ext w w')(hh:hi≤w.heap.size)(hi: ∀x,I x→I' x):Sl.At w' lo w'.heap.size cells I' s:=Sl.At.imp h (qv e hh _ _) hi
end
def zw{α:Type}(p:α→Bool):List α→Int
 | []=> -1
 | x::l=>if p x=true then 0 else if zw p l < 0 then -1 else zw p l+1
theorem abt{α:Type}(p:α→Bool): ∀l:List α,-1≤zw p l∧zw p l < (l.length:Int)
 | []=>by simp [zw]
 | x::l=>by
   have:=abt p l
   rw [zw,List.length_cons]
   split
   ·omega
   ·split <;> omega
theorem qi{α:Type}(p:α→Bool): ∀(l:List α) (k:Nat) (h:k < l.length),(∀x∈l.take k,p x=false)→p l[k]=true→zw p l=(k:Int)
 | x::l,0,_,_,hp=>by rw [zw,if_pos (by simpa using hp)];rfl
 | x::l,k+1,h,hk,hp=>by
   have h1:p x=false:=hk x (by simp)
   have ih:=qi p l k (by simpa using h) (fun y hy=>hk y (by simp [hy])) (by simpa using hp)
   rw [zw,if_neg (by rw [h1];decide),if_neg (by omega),ih]
   omega
theorem xM{α:Type}(p:α→Bool): ∀l:List α,(∀x∈l,p x=false)→zw p l= -1
 | [],_=>rfl
 | x::l,h=>by
   have h1:p x=false:=h x (by simp)
   have ih:=xM p l (fun y hy=>h y (by simp [hy]))
   rw [zw,if_neg (by rw [h1];decide),ih];rfl
theorem qR{α:Type}(p:α→Bool): ∀l:List α,0≤zw p l→ ∃h:(zw p l).toNat < l.length,p (l[(zw p l).toNat])=true
 | [],h=>absurd h (by show¬(0:Int)≤ -1;decide)
 | x::l,h=>by
   rw [zw]at h
   by_cases hp:p x=true
   ·have e:zw p (x::l)=0:=by rw [zw,if_pos hp]
    rw [e]
    exact⟨by simp,by simpa using hp⟩
   ·rw [if_neg hp]at h
    by_cases h0:zw p l < 0
    ·rw [if_pos h0]at h;omega
    ·obtain⟨h1,h2⟩:=qR p l (by omega)
     have e:zw p (x::l)=zw p l+1:=by rw [zw,if_neg hp,if_neg h0]
     rw [e]
     have e2:(zw p l+1).toNat=(zw p l).toNat+1:=by omega
     rw [e2]
     exact⟨by simpa using h1,by simpa using h2⟩
def zy(n least:Int):Bool:=decide (least≤n) && decide (n≤1099511627776)
def yB(s:ByteArray):Option ByteArray:=if s.size=0 then none else if zv s=true then some (s.extract 0 (max (Go.Lib.lastIndexByte s 47) 0).toNat)else none
def atI(s:ByteArray):Int:=Go.Lib.index s.data.toList [64]
def zH(s:ByteArray):ByteArray:=s.extract 0 (atI s).toNat
def z8(s:ByteArray):ByteArray:=s.extract ((atI s).toNat+1) s.size
def qg(s:ByteArray):Bool:=decide (0≤atI s) && (zv (zH s) && zi (z8 s))
def xp(l:List ByteArray):Bool:=(List.range (l.length - 1)).all fun k=>zd (l.getD k .empty) (l.getD (k+1) .empty)
def abo(l:List Int):Bool:=(List.range (l.length - 1)).all fun k=>decide (l.getD k 0 < l.getD (k+1) 0)
def xg(l:List ByteArray)(x:ByteArray):Bool:=l.any fun y=>decide (y=x)
theorem qj(l:List ByteArray)(x:ByteArray):xg l x=true↔x∈l:=by
 rw [xg,List.any_eq_true]
 constructor
 ·rintro⟨y,hy,e⟩
  rw [decide_eq_true_eq]at e
  exact e▸hy
 ·intro h
  exact⟨x,h,decide_eq_true rfl⟩
def yM(l:List ByteArray):Bool:=(List.range l.length).all fun k=>zi (l.getD k .empty) && !xg (l.take k) (l.getD k .empty)
def xy(l:List ByteArray):Bool:=decide (l.length≤4) && (l.all zi && xp l)
def snB(x:Sna):Bool:=zy x.guid 1 && (decide (bkE x.body.xs=0) && (decide (prE x.own.xs=0) && xy x.tags.xs))
def yO(l:List Sna):Bool:=decide (l.length≤16) && (l.all snB && (abo (l.map Sna.guid) && yM (l.map Sna.name)))
def atS(sets:List Dst)(p:ByteArray):Int:=zw (fun x:Dst=>decide (x.path=p)) sets
def snO(sets:List Dst)(p n:ByteArray):Int:=zw (fun x:Sna=>decide (x.name=n)) ((sets.map fun x=>x.snaps.xs).getD (atS sets p).toNat [])
def orB(sets:List Dst)(x:Dst):Bool:=decide (x.origin.size=0) || (qg x.origin && (decide (zH x.origin≠x.path) && (decide (0≤atS sets (zH x.origin)) && decide (0≤snO sets (zH x.origin) (z8 x.origin)))))
def upB(sets:List Dst)(x:Dst):Bool:=match yB x.path with
 | none=>true
 | some up=>decide (0≤atS sets up)
def seB(sets:List Dst)(x:Dst):Bool:=zv x.path && (upB sets x && (decide (prE x.own.xs=0) && (decide (bkE x.body.xs=0) && (yO x.snaps.xs && orB sets x))))
def yv(sets:List Dst):Bool:=decide (sets.length≤32) && (decide (0≤atS sets .empty) && (sets.all (seB sets) && xp (sets.map Dst.path)))
def ltG(x y:Gra):Bool:=zd x.user y.user || (decide (x.user=y.user) && zd x.path y.path)
def xh(x:Gra):Bool:=zi x.user && (zv x.path && (decide (1≤x.perms) && decide (x.perms≤255)))
def zG:Gra:=⟨.empty,.empty,0⟩
def grB(l:List Gra):Bool:=decide (l.length≤16) && (l.all xh && (List.range (l.length - 1)).all fun k=>ltG (l.getD k zG) (l.getD (k+1) zG))
def xo(l:List Stg):Bool:=decide (l.length≤4) && (l.all stB && xp (l.map Stg.into))
def liB(x:Lin):Bool:=(decide (x.user.size=0) || zi x.user) && (zv x.path && (zy x.kind 0 && zy x.err 0))
def yi(t:Tnt):Bool:=zi t.name && (zy t.quota 0 && (zy t.next 1 && (yv t.sets.xs && (grB t.grants.xs && (xo t.stages.xs && (decide (t.log.xs.length≤16) && t.log.xs.all liB))))))
def zZ(t:Tnt):Int:=if yi t=true then 0 else 9
theorem abj{α:Type}(p:α→Bool)(l:List α)(k:Nat)(h:k < l.length):(l.take (k+1)).all p=((l.take k).all p && p l[k]):=by
 rw [List.take_succ_eq_append_getElem h,List.all_append];simp
theorem xt{α:Type}(p:α→Bool)(l:List α)(k:Nat)(h:k < l.length)(hp:p l[k]=false):l.all p=false:=by
 rw [List.all_eq_false]
 exact⟨l[k],List.getElem_mem h,by rw [hp];decide⟩
theorem aaw(l:List ByteArray)(k:Nat)(h:k+1 < l.length)(hp:zd l[k] l[k+1]=false):xp l=false:=by
 rw [xp,List.all_eq_false]
 refine⟨k,List.mem_range.2 (by omega),?_⟩
 simp [List.getD,List.getElem?_eq_getElem h,List.getElem?_eq_getElem (show k < l.length by omega),hp]
theorem qX(l:List ByteArray)(hp: ∀k (h:k+1 < l.length),zd l[k] l[k+1]=true):xp l=true:=by
 rw [xp,List.all_eq_true]
 intro k hk
 have hk:=List.mem_range.1 hk
 simp [List.getD,List.getElem?_eq_getElem (show k+1 < l.length by omega),List.getElem?_eq_getElem (show k < l.length by omega),hp k (by omega)]
theorem ag1(l:List Int)(k:Nat)(h:k+1 < l.length)(hp: ¬l[k] < l[k+1]):abo l=false:=by
 rw [abo,List.all_eq_false]
 refine⟨k,List.mem_range.2 (by omega),?_⟩
 simp [List.getD,List.getElem?_eq_getElem h,List.getElem?_eq_getElem (show k < l.length by omega)]
 omega
theorem afM(l:List Int)(hp: ∀k (h:k+1 < l.length),l[k] < l[k+1]):abo l=true:=by
 rw [abo,List.all_eq_true]
 intro k hk
 have hk:=List.mem_range.1 hk
 simp [List.getD,List.getElem?_eq_getElem (show k+1 < l.length by omega),List.getElem?_eq_getElem (show k < l.length by omega),hp k (by omega)]
def xq(l:List Int):List UInt8:=l.flatMap fun y=>zB y 8
theorem adC(l:List Int)(k:Nat)(h:k < l.length):xq (l.take (k+1))=xq (l.take k)++zB l[k] 8:=by
 rw [List.take_succ_eq_append_getElem h,xq,List.flatMap_append];simp [xq]
theorem aca(l:List Int):(xq l).length=8 * l.length:=by
 induction l with
 | nil=>rfl
 | cons x l ih=>rw [xq,List.flatMap_cons,List.length_append,zm,show(l.flatMap fun y=>zB y 8).length=_ from ih,List.length_cons];omega
theorem aht{y:Int}(h:(Lit.int .i64 y).wf=true): -9223372036854775808≤y∧y≤9223372036854775807:=by
 simp only [Lit.wf,Bool.and_eq_true,decide_eq_true_eq]at h
 exact⟨h.1,h.2⟩
theorem ae5(w:World)(s:Loc)(h:Loc.At w 0 w.heap.size s)(hT:s.n≤10000000):Calls Tryz.prog 96 #[s.val] w fun e w'=>e= .returned (.string ⟨(xq s.xs).toArray⟩)∧Ext w w':=by
 obtain⟨i0,hi0,hz0,hz1,hz2⟩:=info_parts aa6
 have HI:=Lib.hid h
 have HW:=Lib.hid h.all
 clear h
 obtain⟨A,n,c,xs⟩:=s
 have Hn:=Lib.hid (show n=xs.length from HI.out.len)
 simp only [Sl.val]at *
 go_enter Tryz.func96,Tryz.ntmps96
 go_upto_region 3 with fail
 have HH:=Lib.hid (show Heap w [.row 5 1 (.slice none 0 0) 0 []] w from(Heap.start w).row0)
 go_loopw [3,8] (fun v i wr=> ∃k:Nat,k≤n∧i= .int .i64 k∧(∃vA vc,v= .slice vA (8 * k) vc∧Hid (Heap w [.row 5 1 (.slice vA (8 * k) vc) (8 * k) (bytes (xq (xs.take k)))] wr))) (fun _ i _=>n - (intOf i).toNat)
 case atStart=>exact⟨0,Nat.zero_le _,rfl,_,_,rfl,HH⟩
 case round=>
  clear HH
  obtain⟨k,hk,rfl,vA,vc,rfl,HH⟩:=hrel
  by_cases hlt:k < n
  ·have l1:k < xs.length:=by rw [←Hn.out];exact hlt
   obtain⟨b1,o1,rfl,_,f0⟩:=abZ (Rd.at HI.out.rdi HH.out.ext (Nat.le_refl _)) l1
   have HS:=Lib.hid (adC xs k l1)
   have hy:=aht (HW.out _ (List.getElem_mem l1))
   generalize xq (xs.take k)=Y at *
   generalize xs[k]=y at *
   go_wp2_with fail
   refine(yX y _ 8 (Nat.le_refl _) rfl _ hy.1 hy.2).mono ?_
   rintro e w2 ⟨v2,rfl,hown2,e2⟩
   obtain⟨A2,c2,rfl,_,_,_⟩:=zo hown2
   have HH2:=Lib.hid (HH.out.addRow e2 hown2)
   clear HH hown2 e2 f0
   have HH:=HH2
   clear HH2
   go_wp2_with (at_builtin;refine xI (e:=5) (size:=1) (bytes:=1) (news:=bytes (zB y 8)) (lo:=w.heap.size) (.tmp 12) (.tmp 14) _ rfl rfl Tryz.underlying53 hi0 hz0 hz1 hz2 rfl (by omega) HH.out 1 rfl rfl (m:=8) rfl (by rw [xB,zm]) (HH.out.rowRd 0 rfl) (aa2 _) (by simp only [maxLen];omega) (by omega) ?_;intro v7 w7 hh7 h7;obtain⟨A7,c7,rfl⟩:=h7;have HH7:=Lib.hid hh7.tail;clear HH hh7)
   go_roundw
   case rel=>
    refine⟨k+1,by omega,by go_num,A7,c7,rfl,?_⟩
    have h:=HH7.out
    rw [←x8,←HS.out]at h
    exact Lib.hid h
   case measure=>simp [intOf];omega
  ·obtain rfl:k=n:=by omega
   have ht:xs.take k=xs:=List.take_of_length_le (by rw [←Hn.out];exact Nat.le_refl _)
   rw [ht]at HH
   have hcv:(convert 53 9 (.slice vA (8 * k) vc)).run Tryz.prog wr= .ok (.string ⟨(xq xs).toArray⟩) wr:=qh wr _ _ 5 Tryz.underlying53 Tryz.underlying5 Tryz.underlying9 _ _ vA (8 * k) vc (xq xs) (by rw [aca,←Hn.out]) (HH.out.rowRd 0 rfl)
   clear ht
   go_wp2_with fail
   go_ret
   exact⟨rfl,HH.out.ext⟩
def qq(l:List Ob):List ByteArray:=l.flatMap fun x=> [x.key,zl (x.data.n:Int),⟨(xq x.locs.xs).toArray⟩]
theorem afp(l:List Ob)(k:Nat)(h:k < l.length):qq (l.take (k+1))=qq (l.take k)++ [l[k].key,zl (l[k].data.n:Int),⟨(xq l[k].locs.xs).toArray⟩]:=by
 rw [List.take_succ_eq_append_getElem h,qq,List.flatMap_append];simp [qq]
theorem afK(l:List Ob):(qq l).length=3 * l.length:=by
 induction l with
 | nil=>rfl
 | cons x l ih=>rw [qq,List.flatMap_cons,List.length_append,show(l.flatMap _).length=_ from ih,List.length_cons];simp;omega
theorem aeB(w:World)(s:Sl Ob)(h:Sl.At w 0 w.heap.size Ob.cells (Ob.At w 0 w.heap.size) s)(hN:s.n≤10000000)(hL: ∀x∈s.xs,x.locs.n≤10000000):Calls Tryz.prog 42 #[s.val] w (abT (qq s.xs) w):=by
 obtain⟨i0,hi0,hz0,hz1,hz2⟩:=info_parts acx
 have HR:=Lib.hid h.rd
 have HA:=Lib.hid h.all
 have Hn:=Lib.hid h.len
 have HLm:=Lib.hid hL
 clear h hL
 obtain⟨A,n,c,xs⟩:=s
 simp only [Sl.val]at *
 go_enter Tryz.func42,Tryz.ntmps42
 go_upto_region 3 with fail
 have HH:=Lib.hid (show Heap w [.row 9 1 (.slice none 0 0) 0 []] w from(Heap.start w).row0)
 go_loopw [4,9] (fun v i wr=> ∃k:Nat,k≤n∧i= .int .i64 k∧(∃vA vc,v= .slice vA (3 * k) vc∧Hid (Heap w [.row 9 1 (.slice vA (3 * k) vc) (3 * k) ((qq (xs.take k)).map Value.string)] wr))) (fun _ i _=>n - (intOf i).toNat)
 case atStart=>exact⟨0,Nat.zero_le _,rfl,_,_,rfl,HH⟩
 case round=>
  clear HH
  obtain⟨k,hk,rfl,vA,vc,rfl,HH⟩:=hrel
  by_cases hlt:k < n
  ·have l1:k < xs.length:=by rw [←Hn.out];exact hlt
   obtain⟨b1,o1,rfl,hb1,f0,f1,f2⟩:=agw (HR.out.ext HH.out.ext (Nat.le_refl _)) l1
   have HL:=Lib.hid (HA.out _ (List.getElem_mem l1))
   have hlm:=HLm.out _ (List.getElem_mem l1)
   have HS:=Lib.hid (afp xs k l1)
   generalize qq (xs.take k)=Y at *
   generalize xs[k]=x at *
   obtain⟨key,⟨dA,dn,dc,dx⟩,lo⟩:=x
   have hdn:dn≤9223372036854775807:=Nat.le_trans HL.out.data.le HL.out.data.cap
   simp only [Sl.val]at f1
   dsimp only at f0 f2 hlm
   have HNs:=Lib.hid (fun W (hW:Ext w W)=>ae5 W lo (Loc.At.on HL.out.locs hW (Nat.le_refl _)) hlm)
   obtain⟨lA,ln,lc,lx⟩:=lo
   simp only [Sl.val]at f2 HNs
   clear HL
   go_upto_region 5 with fail
   generalize hwH:World.alloc wr _=w5
   have HH2:=Lib.hid (HH.out.allocE hwH)
   clear HH hwH f0 f1 f2
   have HHd:=Lib.hid HH2.out.drew
   clear HH2
   refine wp_region_held_drew (S:=Heap w [_]) (by kernel_rfl) (HHd.out.only 0 rfl) (fun hHeld=>?_)
   generalize World.drew w5=wd at *
   refine tW 0 2 ?_
   refine tG 2 rfl (fun wT hST=>za hST rfl rfl 0 rfl rfl (by kernel_rfl)) hHeld ?_;(try simp only [Act.put,lyA,lyB,lyC])
   refine tW 3 1 ?_
   refine tG 4 rfl (fun wT hST=>za hST rfl rfl 0 rfl rfl (by kernel_rfl)) hHeld ?_;(try simp only [Act.put,lyA,lyB,lyC])
   refine tW 5 1 ?_
   refine tW 10 1 ?_
   refine tG 11 rfl (fun wT hST=>za hST rfl rfl 0 rfl rfl (by kernel_rfl)) hHeld ?_;(try simp only [Act.put,lyA,lyB,lyC])
   refine oS 6 (fun K hK=>?_)
   go_simp;generalize hwA:World.alloc _ _=w6;have HH6:=Lib.hid ((HHd).out.allocE hwA);clear hwA HHd
   refine hK.out _ _ ((HH6).out.only 1 rfl) (fun hHeld=>?_);clear hK K;(try simp only [Act.put,lyA,lyB,lyC])
   refine oS 7 (fun K hK=>?_)
   go_simp;refine(zu w6 _ 1 1 [(dn:Int)] rfl ((HH6.out.boxRd 0 rfl).m0) (by omega) (by simp;omega)).mono ?_;rintro e w7 ⟨vw7,rfl,hownw7,ew7⟩;obtain⟨Aw7,cw7,rfl,_,_,_⟩:=zo hownw7;have HH7:=Lib.hid ((HH6).out.addRow ew7 hownw7);clear HH6 hownw7 ew7;go_wp2_with fail
   obtain⟨g7,q7,hf⟩:=HH7.out.rowForm 0 rfl (by decide)
   cases hf
   refine hK.out _ _ ((HH7).out.only 2 rfl) (fun hHeld=>?_);clear hK K;(try simp only [Act.put,lyA,lyB,lyC])
   refine tW 8 1 ?_
   refine xO 9 12 rfl rfl (by kernel_rfl) (by kernel_rfl) (by kernel_rfl) (fun K hK=>?_) (fun K hK=>?_)
   ·have c7:w7.cell? ⟨g7,0,none⟩=some (.string (zl dn)):=(HH7.out.rowAt 0 rfl).cellAt 0 (by decide)
    go_simp
    refine hK.out _ _ ((HH7).out.only 2 rfl) (fun hHeld=>?_);clear hK K;(try simp only [Act.put,lyA,lyB,lyC])
    clear c7
    refine oS 12 (fun K hK=>?_)
    go_simp;refine(HNs.out w7 HH7.out.ext).mono ?_;rintro e w8 ⟨rfl,ew8⟩;have HH8:=Lib.hid ((HH7).out.later ew8);clear HH7 ew8;go_wp2_with fail
    refine hK.out _ _ ((HH8).out.only 2 rfl) (fun hHeld=>?_);clear hK K;(try simp only [Act.put,lyA,lyB,lyC])
    refine oS 13 (fun K hK=>?_)
    go_simp;generalize hwA:World.alloc _ _=w9;have HH9:=Lib.hid ((HH8).out.allocE hwA);clear hwA HH8;refine hK.out _ _ ((HH9).out.only 3 rfl) (fun hHeld=>?_);clear hK K;(try simp only [Act.put,lyA,lyB,lyC]);refine oS 14 (fun K hK=>?_);refine zP (.tmp 13) (.tmp 26) _ rfl Tryz.underlying109 hi0 hz0 hz1 hz2 rfl (by omega) HH9.out 4 rfl rfl (m:=3) rfl rfl ((HH9.out.boxRd 0 rfl).m0) (by simp [Value.oneCell']) (by simp only [maxLen];omega) (by omega) ?_;rintro v10 w10 hh10 ⟨A10,c10,rfl⟩;have HH10:=Lib.hid hh10;clear hh10 HH9;refine hK.out _ _ ((HH10).out.only 3 rfl) (fun hHeld=>?_);clear hK K;(try simp only [Act.put,lyA,lyB,lyC])
    refine tW 15 1 ?_
    refine wpAnyH_done (by kernel_rfl) ?_ _;go_wp2_with fail;go_roundw;(case rel=>refine⟨k+1,by omega,by go_num,A10,c10,rfl,?_⟩;have h:=HH10.out.only 4 rfl;rw [HS.out,List.map_append];exact Lib.hid h);(case measure=>simp [intOf];omega)
   ·go_simp
    refine(HNs.out w7 HH7.out.ext).mono ?_
    rintro e w8 ⟨rfl,e8⟩
    have HH8:=Lib.hid (HH7.out.later e8)
    clear HH7 e8
    go_wp2_with fail
    refine hK.out _ _ ((HH8).out.only 2 rfl) (fun hHeld=>?_);clear hK K;(try simp only [Act.put,lyA,lyB,lyC])
    have c7:w8.cell? ⟨g7,0,none⟩=some (.string (zl dn)):=(HH8.out.rowAt 0 rfl).cellAt 0 (by decide)
    refine oS 9 (fun K hK=>?_)
    go_simp
    refine hK.out _ _ ((HH8).out.only 2 rfl) (fun hHeld=>?_);clear hK K;(try simp only [Act.put,lyA,lyB,lyC])
    clear c7
    refine oS 13 (fun K hK=>?_)
    go_simp;generalize hwA:World.alloc _ _=w9;have HH9:=Lib.hid ((HH8).out.allocE hwA);clear hwA HH8;refine hK.out _ _ ((HH9).out.only 3 rfl) (fun hHeld=>?_);clear hK K;(try simp only [Act.put,lyA,lyB,lyC]);refine oS 14 (fun K hK=>?_);refine zP (.tmp 13) (.tmp 26) _ rfl Tryz.underlying109 hi0 hz0 hz1 hz2 rfl (by omega) HH9.out 4 rfl rfl (m:=3) rfl rfl ((HH9.out.boxRd 0 rfl).m0) (by simp [Value.oneCell']) (by simp only [maxLen];omega) (by omega) ?_;rintro v10 w10 hh10 ⟨A10,c10,rfl⟩;have HH10:=Lib.hid hh10;clear hh10 HH9;refine hK.out _ _ ((HH10).out.only 3 rfl) (fun hHeld=>?_);clear hK K;(try simp only [Act.put,lyA,lyB,lyC])
    refine tW 15 1 ?_
    refine wpAnyH_done (by kernel_rfl) ?_ _;go_wp2_with fail;go_roundw;(case rel=>refine⟨k+1,by omega,by go_num,A10,c10,rfl,?_⟩;have h:=HH10.out.only 4 rfl;rw [HS.out,List.map_append];exact Lib.hid h);(case measure=>simp [intOf];omega)
  ·obtain rfl:k=n:=by omega
   have ht:xs.take k=xs:=List.take_of_length_le (by rw [←Hn.out];exact Nat.le_refl _)
   rw [ht]at HH
   have HWr:=Lib.hid (aal wr vA (3 * k) vc (qq xs) (by rw [afK,←Hn.out]) (by omega) ((HH.out.rowRd 0 rfl).m0))
   clear ht
   go_wp2_with fail
   refine HWr.out.mono ?_
   rintro e w8 ⟨v,rfl,hr8,e8⟩
   have HO:=Lib.hid (yo hr8 HH.out.ext.size)
   clear hr8
   go_wp2_with fail
   go_ret2
   exact⟨v,rfl,HO.out,HH.out.ext.trans e8⟩
def yt(xs:List Blk):List UInt8:=xs.flatMap fun x=>zB x.index 2++x.data.data.toList
def qr(l:List UInt8):ByteArray:=⟨l.toArray⟩
theorem xF(l:List UInt8):(qr l).size=l.length:=List.size_toArray
def yC(l:List Prp):List ByteArray:=zl (l.length:Int)::yf l
def xe(x:Gra):List ByteArray:= [x.user,x.path,zl x.perms]
def zO(x:Lin):List ByteArray:= [x.user,zl x.kind,x.path,zl x.err]
def yZ(t:Tnt):List ByteArray:=zl t.quota::zl t.next::zl (t.grants.xs.length:Int)::(t.grants.xs.flatMap xe++(zl (t.log.xs.length:Int)::t.log.xs.flatMap zO))
def yz(x:Sna):List ByteArray:=x.name::zl x.guid::(yC x.own.xs++(zl (x.tags.xs.length:Int)::(x.tags.xs++ [qr (yt x.body.xs)])))
def yI(x:Dst):List ByteArray:=x.origin::(yC x.own.xs++(qr (yt x.body.xs)::zl (x.snaps.xs.length:Int)::x.snaps.xs.flatMap yz))
def yV(x:Stg):List ByteArray:= [qr (xQ x.beg),qr (yt x.body),zl x.pos,zl x.next,qr (qM x.su),zl (if x.done=true then 1 else 0)]
def zF(l:List ByteArray):ByteArray:=⟨(Go.Lib.join (l.map (·.data.toList)) [47]).toArray⟩
def kT:ByteArray:=⟨#[116]⟩
def kS:ByteArray:=⟨#[115]⟩
def kG:ByteArray:=⟨#[103]⟩
def xE(t:Tnt):List (ByteArray×List ByteArray):=
 (zF [kT,t.name],yZ t)::(t.sets.xs.map (fun s=>(zF [kS,t.name,s.path],yI s))++t.stages.xs.map (fun s=>(zF [kG,t.name,s.into],yV s)))
def tln(l:List ByteArray):Nat:=(l.map fun s=>3+s.size).sum
theorem xu:tln []=0:=rfl
theorem zK(s:ByteArray)(l:List ByteArray):tln (s::l)=3+s.size+tln l:=by simp [tln]
theorem xJ(l m:List ByteArray):tln (l++m)=tln l+tln m:=by simp [tln]
theorem qm{α:Type}(f:α→List ByteArray)(l:List α)(m:Nat)(h: ∀x∈l,tln (f x)≤m):tln (l.flatMap f)≤l.length * m:=by
 induction l with
 | nil=>simp [tln]
 | cons x l ih=>
   rw [List.flatMap_cons,xJ,List.length_cons,Nat.add_mul]
   have h1:=h x (by simp)
   have h2:=ih fun y hy=>h y (by simp [hy])
   omega
theorem aes{α:Type}(f:α→List ByteArray)(g:α→Nat)(l:List α)(h: ∀x∈l,tln (f x)≤g x):tln (l.flatMap f)≤(l.map g).sum:=by
 induction l with
 | nil=>simp [tln]
 | cons x l ih=>
   rw [List.flatMap_cons,xJ,List.map_cons,List.sum_cons]
   have h1:=h x (by simp)
   have h2:=ih fun y hy=>h y (by simp [hy])
   omega
theorem qY(l:List ByteArray):(zM l).length=2+tln l:=by
 unfold zM
 rw [List.length_append,zm]
 congr 1
 induction l with
 | nil=>rfl
 | cons s l ih=>
   rw [List.flatMap_cons,List.length_append,ih,zK]
   congr 1
   show(zB s.size 3++s.data.toList).length=_
   rw [List.length_append,zm]
   congr 1
theorem xV{α:Type}(f:α→List ByteArray)(l:List α)(m:Nat)(h: ∀x∈l,(f x).length≤m):(l.flatMap f).length≤l.length * m:=by
 induction l with
 | nil=>simp
 | cons x l ih=>
   rw [List.flatMap_cons,List.length_append,List.length_cons,Nat.add_mul]
   have h1:=h x (by simp)
   have h2:=ih fun y hy=>h y (by simp [hy])
   omega
theorem zA(z:Int):(zl z).size=8:=qC z
theorem z7{s:ByteArray}(h:zi s=true):s.size≤16:=by
 simp only [zi,Bool.and_eq_true,decide_eq_true_eq]at h
 exact h.1.2
theorem adB(s:List UInt8): ∀cur,((zC cur s).map List.length).sum+(zC cur s).length=cur.length+s.length+1:=by
 induction s with
 | nil=>intro cur;simp [zC]
 | cons b s ih=>
   intro cur
   rw [zC]
   by_cases h:b=47
   ·rw [if_pos h,List.map_cons,List.sum_cons,List.length_cons]
    have:=ih []
    simp only [List.length_nil,List.length_cons]at *
    omega
   ·rw [if_neg h]
    have:=ih (cur++ [b])
    simp only [List.length_append,List.length_cons,List.length_nil]at *
    omega
theorem yy(l:List Nat)(m:Nat)(h: ∀x∈l,x≤m):l.sum≤l.length * m:=by
 induction l with
 | nil=>simp
 | cons x l ih=>
   rw [List.sum_cons,List.length_cons,Nat.add_mul]
   have h1:=h x (by simp)
   have h2:=ih fun y hy=>h y (by simp [hy])
   omega
theorem xC{s:ByteArray}(h:zv s=true):s.size≤67:=by
 simp only [zv,Bool.or_eq_true,Bool.and_eq_true,decide_eq_true_eq,List.all_eq_true]at h
 rcases h with h | ⟨h1,h2⟩
 ·omega
 ·have h3:=adB s.data.toList []
  have h4:=yy ((yk s.data.toList).map List.length) 16 fun x hx=>by
   obtain⟨p,hp,rfl⟩:=List.mem_map.1 hx
   have:=z7 (h2 p hp)
   have h5:(⟨p.toArray⟩:ByteArray).size=p.length:=List.size_toArray
   omega
  rw [List.length_map]at h4
  have h6:s.data.toList.length=s.size:=Array.length_toList
  simp only [List.length_nil]at h3
  have h7:yk s.data.toList=zC [] s.data.toList:=rfl
  rw [h7]at h1 h4
  have h8:(zC [] s.data.toList).length * 16≤64:=by omega
  have h9:(zC [] s.data.toList).length≥1:=by
   rw [aa9];omega
  omega
theorem xX(xs:List Blk)(h:bkE xs=0):xs.length≤1024∧ ∀x∈xs,x.data.size=16:=by
 have hb:xk xs xs.length=false:=by
  rw [bkE]at h
  cases hq:xk xs xs.length with
  | false=>rfl
  | true=>rw [hq]at h;cases h
 have hk: ∀k,k < xs.length→qQ xs k=false:=fun k hk=>by
  cases hq:qQ xs k with
  | false=>rfl
  | true=>rw [yY xs k _ hk hq]at hb;cases hb
 have hone: ∀k (h:k < xs.length),0≤xs[k].index∧xs[k].index < 1024∧xs[k].data.size=16:=fun k h=>by
  have:=hk k h
  rw [aaA xs k h,Bool.or_eq_false_iff]at this
  have:=this.1
  simp only [yN,Bool.or_eq_false_iff,decide_eq_false_iff_not,Decidable.not_not]at this
  omega
 have hr: ∀k (h:k < xs.length),(k:Int)≤xs[k].index:=by
  intro k
  induction k with
  | zero=>intro h;exact(hone 0 h).1
  | succ k ih=>
    intro h
    have h1:=ih (by omega)
    have h2:=hk (k+1) h
    rw [aaA xs (k+1) h,Bool.or_eq_false_iff]at h2
    have h3:=h2.2
    have e:k+1 - 1=k:=by omega
    rw [e,aa7 xs k (by omega)]at h3
    simp only [Bool.and_eq_false_iff,decide_eq_false_iff_not]at h3
    omega
 constructor
 ·by_cases h0:xs.length=0
  ·omega
  ·have h1:=hr (xs.length - 1) (by omega)
   have h2:=(hone (xs.length - 1) (by omega)).2.1
   omega
 ·intro x hx
  obtain⟨k,hk,rfl⟩:=List.getElem_of_mem hx
  exact(hone k hk).2.2
theorem xT(xs:List Blk)(h: ∀x∈xs,x.data.size=16):(yt xs).length=xs.length * 18:=by
 induction xs with
 | nil=>rfl
 | cons x xs ih=>
   have h1:=ih fun y hy=>h y (by simp [hy])
   have h2:=h x (by simp)
   have h3:x.data.data.toList.length=x.data.size:=Array.length_toList
   rw [yt]at h1 ⊢
   rw [List.flatMap_cons,List.length_append,h1,List.length_append,zm,List.length_cons]
   omega
theorem qE(l:List Prp)(h:prE l=0):(yC l).length≤17∧tln (yC l)≤443∧ ∀s∈yC l,s.size≤32:=by
 obtain⟨h1,h2⟩:=abq l h
 refine⟨?_,?_,?_⟩
 ·rw [yC,List.length_cons,yK];omega
 ·rw [yC,zK,zA,yf]
  have:=qm (fun x:Prp=> [x.name,x.value]) l 54 fun x hx=>by
   have:=h2 x hx
   rw [zK,zK,xu];omega
  omega
 ·intro s hs
  rw [yC,List.mem_cons]at hs
  rcases hs with rfl | hs
  ·rw [zA];omega
  ·obtain⟨x,hx,hs⟩:=List.mem_flatMap.1 hs
   have:=h2 x hx
   simp only [List.mem_cons,List.not_mem_nil,or_false]at hs
   rcases hs with rfl | rfl <;> omega
theorem agh{l:List ByteArray}(h:yM l=true): ∀s∈l,zi s=true:=by
 intro s hs
 obtain⟨k,hk,rfl⟩:=List.getElem_of_mem hs
 rw [yM,List.all_eq_true]at h
 have:=h k (List.mem_range.2 hk)
 simp only [Bool.and_eq_true]at this
 have h1:=this.1
 simpa [List.getD,List.getElem?_eq_getElem hk]using h1
theorem ae8(x:Sna)(h:snB x=true)(hn:zi x.name=true):(yz x).length≤25∧tln (yz x)≤563+18 * x.body.xs.length∧ ∀s∈yz x,s.size≤18432:=by
 simp only [snB,xy,Bool.and_eq_true,decide_eq_true_eq,List.all_eq_true]at h
 obtain⟨_,h1,h2,h3,h4,_⟩:=h
 obtain⟨b1,b2⟩:=xX _ h1
 have b3:=xT _ b2
 obtain⟨o1,o2,o3⟩:=qE _ h2
 have hn:=z7 hn
 have ht:tln x.tags.xs≤76:=by
  have:=yy (x.tags.xs.map fun s=>3+s.size) 19 fun y hy=>by
   obtain⟨s,hs,rfl⟩:=List.mem_map.1 hy
   have:=z7 (h4 s hs)
   omega
  rw [List.length_map]at this
  rw [tln];omega
 refine⟨?_,?_,?_⟩
 ·simp only [yz,List.length_cons,List.length_append,List.length_nil];omega
 ·simp only [yz,zK,xJ,xu,zA,xF];omega
 ·intro s hs
  simp only [yz,List.mem_cons,List.mem_append,List.not_mem_nil,or_false]at hs
  rcases hs with rfl | rfl | hs | rfl | hs | rfl
  ·omega
  ·rw [zA];omega
  ·have:=o3 s hs;omega
  ·rw [zA];omega
  ·have:=z7 (h4 s hs);omega
  ·rw [xF];omega
theorem adb(sets:List Dst)(x:Dst)(h:orB sets x=true):x.origin.size≤84:=by
 simp only [orB,qg,Bool.or_eq_true,Bool.and_eq_true,decide_eq_true_eq]at h
 rcases h with h | h
 ·omega
 ·have h1:=xC h.1.2.1
  have h2:=z7 h.1.2.2
  rw [zH,ByteArray.size_extract]at h1
  rw [z8,ByteArray.size_extract]at h2
  omega
theorem afg(l:List Sna)(h:yO l=true):l.length≤16∧ ∀x∈l,(yz x).length≤25∧tln (yz x)≤563+18 * x.body.xs.length∧ ∀s∈yz x,s.size≤18432:=by
 simp only [yO,Bool.and_eq_true,decide_eq_true_eq,List.all_eq_true]at h
 refine⟨h.1,fun x hx=>ae8 x (h.2.1 x hx) (agh h.2.2.2 _ (List.mem_map.2 ⟨x,hx,rfl⟩))⟩
def chS(x:Dst):Nat:=1+x.body.xs.length+(x.snaps.xs.map fun y:Sna=>1+y.body.xs.length).sum
def chG(x:Stg):Nat:=1+x.body.length
def chT(t:Tnt):Nat:=(t.sets.xs.map chS).sum+(t.stages.xs.map chG).sum
theorem agJ(l:List Sna):(l.map fun y:Sna=>563+18 * y.body.xs.length).sum≤563 * (l.map fun y:Sna=>1+y.body.xs.length).sum:=by
 induction l with
 | nil=>simp
 | cons x l ih=>simp only [List.map_cons,List.sum_cons];omega
theorem aaX(sets:List Dst)(x:Dst)(h:seB sets x=true):(yI x).length≤420∧tln (yI x)≤563 * chS x∧(∀s∈yI x,s.size≤18432)∧x.path.size≤67:=by
 simp only [seB,Bool.and_eq_true,decide_eq_true_eq]at h
 obtain⟨hp,_,ho,hb,hs,hr⟩:=h
 obtain⟨b1,b2⟩:=xX _ hb
 have b3:=xT _ b2
 obtain⟨o1,o2,o3⟩:=qE _ ho
 have hr:=adb sets x hr
 obtain⟨s1,s2⟩:=afg _ hs
 have s3:=xV yz x.snaps.xs 25 fun y hy=>(s2 y hy).1
 have s4:=aes yz (fun y=>563+18 * y.body.xs.length) x.snaps.xs fun y hy=>(s2 y hy).2.1
 have s5:=agJ x.snaps.xs
 refine⟨?_,?_,?_,xC hp⟩
 ·simp only [yI,List.length_cons,List.length_append];omega
 ·simp only [yI,zK,xJ,zA,xF,chS];omega
 ·intro s hs
  simp only [yI,List.mem_cons,List.mem_append,List.mem_flatMap]at hs
  rcases hs with rfl | hs | rfl | rfl | ⟨y,hy,hs⟩
  ·omega
  ·have:=o3 s hs;omega
  ·rw [xF];omega
  ·rw [zA];omega
  ·exact(s2 y hy).2.2 s hs
theorem aaR(l:List ByteArray):(wB l).length≤2+tln l:=by
 rw [wB]
 split
 ·rw [qY];exact Nat.le_refl _
 ·simp
theorem afu(x:Rec)(hk:x.kind=1)(h:yT x=0):(xQ x).length≤478:=by
 rw [xQ,if_pos h]
 have h1:=aaR (zq x)
 have hm:zX x=true:=by
  unfold yT at h
  rw [if_neg (by omega)]at h
  cases hq:zX x with
  | true=>rfl
  | false=>rw [hq]at h;cases h
 have h2:tln (zq x)≤473:=by
  have h3:zi x.name=true∧prE x.own=0:=by
   rw [zX]at hm
   simp [hk,and_assoc]at hm
   exact⟨hm.1,hm.2.2.2.2.2.1⟩
  have h4:=z7 h3.1
  obtain⟨h5,h6⟩:=abq _ h3.2
  rw [zq,if_pos hk,xJ,zK,zK,zK,xu,zA,zA,yf]
  have:=qm (fun x:Prp=> [x.name,x.value]) x.own 54 fun y hy=>by
   have:=h6 y hy
   rw [zK,zK,xu];omega
  omega
 simp only [List.length_append,List.length_cons,List.length_nil,zm]
 omega
theorem aaV(x:Stg)(h:stB x=true):(yV x).length≤6∧tln (yV x)≤563 * chG x∧(∀s∈yV x,s.size≤18432)∧x.into.size≤67:=by
 simp only [stB,Bool.and_eq_true,decide_eq_true_eq,beq_iff_eq]at h
 obtain⟨_,hp,hk,hr,hb,_⟩:=h
 obtain⟨b1,b2⟩:=xX _ hb
 have b3:=xT _ b2
 have e1:=afu _ hk hr
 have s1:=xS x.su
 refine⟨by simp [yV],?_,?_,xC hp⟩
 ·simp only [yV,zK,xu,zA,xF,chG];omega
 ·intro s hs
  simp only [yV,List.mem_cons,List.not_mem_nil,or_false]at hs
  rcases hs with rfl | rfl | rfl | rfl | rfl | rfl <;> simp only [zA,xF] <;> omega
theorem abG(t:Tnt)(hg:grB t.grants.xs=true)(hl:t.log.xs.length≤16)(hl2:t.log.xs.all liB=true):(yZ t).length≤116∧tln (yZ t)≤3420∧ ∀s∈yZ t,s.size≤18432:=by
 simp only [grB,Bool.and_eq_true,decide_eq_true_eq,List.all_eq_true]at hg
 obtain⟨g1,g2,_⟩:=hg
 have g3: ∀x∈t.grants.xs,x.user.size≤16∧x.path.size≤67:=fun x hx=>by
  have:=g2 x hx
  simp only [xh,Bool.and_eq_true]at this
  exact⟨z7 this.1,xC this.2.1⟩
 have l3: ∀x∈t.log.xs,x.user.size≤16∧x.path.size≤67:=fun x hx=>by
  have:=List.all_eq_true.1 hl2 x hx
  simp only [liB,Bool.and_eq_true,Bool.or_eq_true,decide_eq_true_eq]at this
  refine⟨?_,xC this.2.1⟩
  rcases this.1 with h | h
  ·omega
  ·exact z7 h
 have g4:=qm xe t.grants.xs 100 fun x hx=>by
  have:=g3 x hx
  simp only [xe,zK,xu,zA];omega
 have l4:=qm zO t.log.xs 111 fun x hx=>by
  have:=l3 x hx
  simp only [zO,zK,xu,zA];omega
 have g5:=xV xe t.grants.xs 3 fun x hx=>by simp [xe]
 have l5:=xV zO t.log.xs 4 fun x hx=>by simp [zO]
 refine⟨?_,?_,?_⟩
 ·simp only [yZ,List.length_cons,List.length_append];omega
 ·simp only [yZ,zK,xJ,zA];omega
 ·intro s hs
  simp only [yZ,List.mem_cons,List.mem_append,List.mem_flatMap]at hs
  rcases hs with rfl | rfl | rfl | ⟨x,hx,hs⟩ | rfl | ⟨x,hx,hs⟩
  ·rw [zA];omega
  ·rw [zA];omega
  ·rw [zA];omega
  ·have:=g3 x hx
   simp only [xe,List.mem_cons,List.not_mem_nil,or_false]at hs
   rcases hs with rfl | rfl | rfl <;> (try rw [zA]) <;> omega
  ·rw [zA];omega
  ·have:=l3 x hx
   simp only [zO,List.mem_cons,List.not_mem_nil,or_false]at hs
   rcases hs with rfl | rfl | rfl | rfl <;> (try rw [zA]) <;> omega
theorem aaH{l:List ByteArray}(h1:l.length≤1024)(h2: ∀s∈l,s.size≤18432):wE l=0:=by
 rw [wE,if_neg (by omega),if_neg]
 intro hq
 obtain⟨s,hs,hl⟩:=List.any_eq_true.1 hq
 have:=h2 s hs
 simp only [yR,decide_eq_true_eq]at hl
 omega
theorem afG(l:List (List UInt8)):(Go.Lib.join l [47]).length≤(l.map fun x=>x.length+1).sum:=by
 induction l with
 | nil=>simp [Go.Lib.join]
 | cons a l ih=>
   cases l with
   | nil=>simp [Go.Lib.join]
   | cons b l=>
     have e:Go.Lib.join (a::b::l) [47]=a++([47]++Go.Lib.join (b::l) [47]):=by
      simp [Go.Lib.join,List.intercalate,List.intersperse]
     rw [e,List.map_cons,List.sum_cons,List.length_append,List.length_append]
     simp only [List.length_cons,List.length_nil]at ih ⊢
     omega
theorem xr(l:List ByteArray):(zF l).size≤(l.map fun x=>x.size+1).sum:=by
 have h:=afG (l.map (·.data.toList))
 have e:(zF l).size=(Go.Lib.join (l.map (·.data.toList)) [47]).length:=List.size_toArray
 rw [e]
 rw [List.map_map]at h
 exact h
def ixT(l:List (ByteArray×Nat)):List ByteArray:=l.flatMap fun x=> [x.1,zl (x.2:Int),qr (xq (List.replicate (zN x.2) 0))]
def yS(l:List (ByteArray×Nat)):Nat:=if l.isEmpty=true then 0 else(l.map fun x=>zN x.2).sum+zN (wB (ixT l)).length
theorem ag6(l:List (ByteArray×Nat)):tln (ixT l)=(l.map fun x=>17+x.1.size+8 * zN x.2).sum:=by
 induction l with
 | nil=>rfl
 | cons x l ih=>
   rw [ixT,List.flatMap_cons,xJ,←ixT,ih,List.map_cons,List.sum_cons]
   simp only [zK,xu,zA,xF,aca,List.length_replicate]
   omega
def dat(x:ByteArray×List ByteArray):ByteArray×Nat:=(x.1,(wB x.2).length)
theorem ab5(t:Tnt)(h:yi t=true): ∀x∈xE t,wE x.2=0:=by
 simp only [yi,Bool.and_eq_true,decide_eq_true_eq]at h
 obtain⟨hn,_,_,hs,hg,hst,hl,hl2⟩:=h
 obtain⟨h1,h2,h3⟩:=abG t hg hl hl2
 simp only [yv,Bool.and_eq_true,List.all_eq_true]at hs
 simp only [xo,Bool.and_eq_true,List.all_eq_true]at hst
 intro x hx
 simp only [xE,List.mem_cons,List.mem_append,List.mem_map]at hx
 rcases hx with rfl | ⟨s,hs',rfl⟩ | ⟨s,hs',rfl⟩
 ·exact aaH (show(yZ t).length≤1024 by omega) h3
 ·obtain⟨d0,_,d1,_⟩:=aaX _ s (hs.2.2.1 s hs')
  exact aaH (show(yI s).length≤1024 by omega) d1
 ·obtain⟨d0,_,d1,_⟩:=aaV s (hst.2.1 s hs')
  exact aaH (show(yV s).length≤1024 by omega) d1
section
variable {P:Program} {w:World} {o':Oper} {a:Act}
theorem aaM{t:TypeId}{x:Operand}{b o n:Nat}{cs:List Value}(hc: ∀j u,cs[j]?=some u→w.cell? ⟨b,o+j,none⟩=some u)(hn:cs.length=n)(hs:(P.info? t).map (·.size)=some n)(hk:xU P t=some true)(ho:o'.op= .load t x)(hx:a.eval x= .pointer (some ⟨b,o,none⟩)):
 (execOp a.eval o').run P w= .ok (.value (.agg cs.toArray)) w:=by
 subst hn
 have hc:=run_loadCells_list (P:=P) w ⟨b,o,none⟩ cs (fun j u hu=>by rw [xx];exact hc j u hu)
 unfold execOp
 simp [ho,hx,Instr.loadAt,Instr.sureAddr,loadVar,xG hk,qT hs,hc]
variable {ops:Array Oper} {rest:List Oper} {Q:Exit→Act→World→Prop}
theorem zV{t:TypeId}{x:Operand}{b o n:Nat}{cs:List Value}(hc: ∀j u,cs[j]?=some u→w.cell? ⟨b,o+j,none⟩=some u)(hn:cs.length=n)(hs:(P.info? t).map (·.size)=some n)(hk:xU P t=some true)(ho:o'.op= .load t x)(hgd:o'.guard=none)(hx:a.eval x= .pointer (some ⟨b,o,none⟩))
 (k:wpList P ops Q rest (a.put o'.dst (.agg cs.toArray)) w):wpList P ops Q (o'::rest) a w:=
 wpList_plain hgd fun K hK=>by
  unfold Oper.wp
  rw [aaM hc hn hs hk ho hx]
  exact hK _ _ k
end
theorem yE(w:World)(a b:Int)(h1: -9223372036854775808≤a)(h2:a≤9223372036854775807):
 Calls Tryz.prog 80 #[.int .i64 a,.int .i64 b] w fun e w'=>e= .returned (.bool (zy a b))∧Ext w w':=by
 unfold zy
 go_enter Tryz.func80,Tryz.ntmps80
 go_wp2_with fail
 all_goals (go_ret;refine⟨x9 ?_,Ext.refl _⟩;(first | (simp [*];done) | (simp [*];omega)))
theorem yh(a b:ByteArray):(a.toList == b.toList)=decide (a=b):=by
 by_cases h:a=b
 ·subst h;simp
 ·rw [decide_eq_false h,beq_eq_false_iff_ne]
  intro e
  apply h
  rw [Lib.toList_data,Lib.toList_data]at e
  cases a;cases b
  congr 1
  exact Array.toList_inj.1 e
theorem afD(w:World)(A:Option Addr)(n c:Nat)(xs:List Dst)(hn:n=xs.length)(hm:n≤9223372036854775807)(hr:Rd w 0 w.heap.size A (xs.flatMap Dst.cells))(p:Dst→Bool)(F:Value)(f:FuncId)(caps:Array Value)(hf:F= .func (.func f) #[] caps)(hcf: ∀args w,(callFunc f args).run Tryz.prog w= .ok (.enter f args) w)
 (hF: ∀x∈xs,∀w1,Ext w w1→Calls Tryz.prog f (#[.agg x.cells.toArray]++caps) w1 fun e w'=>e= .returned (.bool (p x))∧Ext w1 w'):
 Calls Tryz.prog 176 #[.slice A n c,F] w fun e w'=>e= .returned (.int .i64 (zw p xs))∧Ext w w':=by
 subst hf
 have Hn:=Lib.hid hn
 have HF:=Lib.hid hF
 have HAt:=Lib.hid (qi p xs)
 have HNo:=Lib.hid (xM p xs)
 generalize zw p xs=V at *
 clear hn hF
 go_enter Tryz.func176,Tryz.ntmps176
 go_wp2_with fail
 go_loopw [8] (fun i wr=> ∃k:Nat,k≤n∧i= .int .i64 k∧Hid (∀x∈xs.take k,p x=false)∧Ext w wr) (fun i _=>n - (intOf i).toNat)
 case atStart=>exact⟨0,Nat.zero_le _,rfl,Lib.hid (by simp),Ext.refl _⟩
 case round=>
  obtain⟨k,hk,rfl,HK,e1⟩:=hrel
  by_cases hlt:k < n
  ·have hl:k < xs.length:=by rw [←Hn.out];omega
   obtain⟨b1,o1,rfl,_,hb1,G0⟩:=zk (size:=5) (fun _=>rfl) (by omega) hr hl
   have HC:=Lib.hid (HF.out xs[k] (List.getElem_mem _) wr e1)
   have HY:=Lib.hid (HAt.out k hl HK.out)
   have HT:=Lib.hid (List.take_succ_eq_append_getElem hl)
   have G: ∀j u,(Dst.cells xs[k])[j]?=some u→wr.cell? ⟨b1,o1+k * 5+j,none⟩=some u:=fun j u hu=>by rw [Below.cell e1 hb1];exact G0 j u hu
   generalize xs[k]=x at *
   have g0:=G 0 _ rfl;have g1:=G 1 _ rfl;have g2:=G 2 _ rfl;have g3:=G 3 _ rfl;have g4:=G 4 _ rfl
   simp only [Nat.add_zero,Nat.mul_one]at g0
   clear G G0
   go_wp2_with fail
   refine HC.out.mono ?_
   rintro e w2 ⟨rfl,e2⟩
   cases ho:p x
   ·go_wp2_with fail
    go_roundw
    case rel=>
     refine⟨k+1,by omega,by go_num,Lib.hid (fun z hz=>?_),blo⟩
     rw [HT.out]at hz
     rcases List.mem_append.1 hz with hz | hz
     ·exact HK.out z hz
     ·simp only [List.mem_singleton]at hz;subst hz;exact ho
    case measure=>simp [intOf];omega
   ·go_wp2_with fail
    go_ret
    exact⟨by rw [HY.out ho];rfl,blo⟩
  ·obtain rfl:k=n:=by omega
   have h1:=HK.out
   rw [List.take_of_length_le (by rw [←Hn.out];exact Nat.le_refl _)]at h1
   have HZ:=Lib.hid (HNo.out h1)
   clear h1
   go_wp2_with fail
   go_ret
   exact⟨by rw [HZ.out];rfl,e1⟩
theorem aga(w:World)(A:Option Addr)(n c:Nat)(xs:List Sna)(hn:n=xs.length)(hm:n≤9223372036854775807)(hr:Rd w 0 w.heap.size A (xs.flatMap Sna.cells))(p:Sna→Bool)(F:Value)(f:FuncId)(caps:Array Value)(hf:F= .func (.func f) #[] caps)(hcf: ∀args w,(callFunc f args).run Tryz.prog w= .ok (.enter f args) w)
 (hF: ∀x∈xs,∀w1,Ext w w1→Calls Tryz.prog f (#[.agg x.cells.toArray]++caps) w1 fun e w'=>e= .returned (.bool (p x))∧Ext w1 w'):
 Calls Tryz.prog 214 #[.slice A n c,F] w fun e w'=>e= .returned (.int .i64 (zw p xs))∧Ext w w':=by
 subst hf
 have Hn:=Lib.hid hn
 have HF:=Lib.hid hF
 have HAt:=Lib.hid (qi p xs)
 have HNo:=Lib.hid (xM p xs)
 generalize zw p xs=V at *
 clear hn hF
 go_enter Tryz.func214,Tryz.ntmps214
 go_wp2_with fail
 go_loopw [8] (fun i wr=> ∃k:Nat,k≤n∧i= .int .i64 k∧Hid (∀x∈xs.take k,p x=false)∧Ext w wr) (fun i _=>n - (intOf i).toNat)
 case atStart=>exact⟨0,Nat.zero_le _,rfl,Lib.hid (by simp),Ext.refl _⟩
 case round=>
  obtain⟨k,hk,rfl,HK,e1⟩:=hrel
  by_cases hlt:k < n
  ·have hl:k < xs.length:=by rw [←Hn.out];omega
   obtain⟨b1,o1,rfl,_,hb1,G0⟩:=zk (size:=5) (fun _=>rfl) (by omega) hr hl
   have HC:=Lib.hid (HF.out xs[k] (List.getElem_mem _) wr e1)
   have HY:=Lib.hid (HAt.out k hl HK.out)
   have HT:=Lib.hid (List.take_succ_eq_append_getElem hl)
   have G: ∀j u,(Sna.cells xs[k])[j]?=some u→wr.cell? ⟨b1,o1+k * 5+j,none⟩=some u:=fun j u hu=>by rw [Below.cell e1 hb1];exact G0 j u hu
   generalize xs[k]=x at *
   have g0:=G 0 _ rfl;have g1:=G 1 _ rfl;have g2:=G 2 _ rfl;have g3:=G 3 _ rfl;have g4:=G 4 _ rfl
   simp only [Nat.add_zero,Nat.mul_one]at g0
   clear G G0
   go_wp2_with fail
   refine HC.out.mono ?_
   rintro e w2 ⟨rfl,e2⟩
   cases ho:p x
   ·go_wp2_with fail
    go_roundw
    case rel=>
     refine⟨k+1,by omega,by go_num,Lib.hid (fun z hz=>?_),blo⟩
     rw [HT.out]at hz
     rcases List.mem_append.1 hz with hz | hz
     ·exact HK.out z hz
     ·simp only [List.mem_singleton]at hz;subst hz;exact ho
    case measure=>simp [intOf];omega
   ·go_wp2_with fail
    go_ret
    exact⟨by rw [HY.out ho];rfl,blo⟩
  ·obtain rfl:k=n:=by omega
   have h1:=HK.out
   rw [List.take_of_length_le (by rw [←Hn.out];exact Nat.le_refl _)]at h1
   have HZ:=Lib.hid (HNo.out h1)
   clear h1
   go_wp2_with fail
   go_ret
   exact⟨by rw [HZ.out];rfl,e1⟩
theorem xw:(Tryz.prog.info? 52).map (·.size)=some 5:=by kernel_rfl
theorem zE:(Tryz.prog.info? 27).map (·.size)=some 7:=by kernel_rfl
theorem x0:(Tryz.prog.info? 137).map (·.size)=some 5:=by kernel_rfl
theorem ae9(w:World)(b:Nat)(s:ByteArray)(x:Dst)(hb:w.cell? ⟨b,0,none⟩=some (.string s)):
 Calls Tryz.prog 177 #[.agg x.cells.toArray,.pointer (some ⟨b,0,none⟩)] w fun e w'=>e= .returned (.bool (decide (x.path=s)))∧Ext w w':=by
 have HE:=Lib.hid (yh x.path s)
 have HB:=Lib.hid (World.block_lt_of_cell? w _ hb)
 obtain⟨x1,x2,x3,x4,x5⟩:=x
 dsimp only at HE ⊢
 generalize decide (_=s)=V at *
 simp only [Dst.cells]
 go_enter Tryz.func177,Tryz.ntmps177
 go_upto_region 1 with fail
 generalize hwH:World.alloc w _=w1;have HH:=Lib.hid (Heap.one hwH);clear hwH
 have g0:=(HH.out.boxAt 0 rfl).cell 0 _ rfl
 have c0:=(Below.cell HH.out.ext HB.out).trans hb
 have HEx:=Lib.hid HH.out.ext
 have he:=HE.out
 cases V with
 | false=>
   go_wp2_with fail
   go_ret
   exact⟨rfl,HEx.out⟩
 | true=>
   go_wp2_with fail
   go_ret
   exact⟨rfl,HEx.out⟩
theorem ae6(w:World)(b:Nat)(s:ByteArray)(x:Sna)(hb:w.cell? ⟨b,0,none⟩=some (.string s)):
 Calls Tryz.prog 215 #[.agg x.cells.toArray,.pointer (some ⟨b,0,none⟩)] w fun e w'=>e= .returned (.bool (decide (x.name=s)))∧Ext w w':=by
 have HE:=Lib.hid (yh x.name s)
 have HB:=Lib.hid (World.block_lt_of_cell? w _ hb)
 obtain⟨x1,x2,x3,x4,x5⟩:=x
 dsimp only at HE ⊢
 generalize decide (_=s)=V at *
 simp only [Sna.cells]
 go_enter Tryz.func215,Tryz.ntmps215
 go_upto_region 1 with fail
 generalize hwH:World.alloc w _=w1;have HH:=Lib.hid (Heap.one hwH);clear hwH
 have g0:=(HH.out.boxAt 0 rfl).cell 0 _ rfl
 have c0:=(Below.cell HH.out.ext HB.out).trans hb
 have HEx:=Lib.hid HH.out.ext
 have he:=HE.out
 cases V with
 | false=>
   go_wp2_with fail
   go_ret
   exact⟨rfl,HEx.out⟩
 | true=>
   go_wp2_with fail
   go_ret
   exact⟨rfl,HEx.out⟩
theorem ad1: ∀args w,(callFunc 177 args).run Tryz.prog w= .ok (.enter 177 args) w:=abN Tryz.func177 (by kernel_rfl) rfl
theorem ad7: ∀args w,(callFunc 215 args).run Tryz.prog w= .ok (.enter 215 args) w:=abN Tryz.func215 (by kernel_rfl) rfl
theorem acL(w:World)(t:Tnt)(s:ByteArray)(h:Sl.At w 0 w.heap.size Dst.cells (Dst.At w 0 w.heap.size) t.sets):
 Calls Tryz.prog 136 #[.agg t.cells.toArray,.string s] w fun e w'=>e= .returned (.int .i64 (atS t.sets.xs s))∧Ext w w':=by
 have HI:=Lib.hid (fun W (hW:Ext w W) b (hb:W.cell? ⟨b,0,none⟩=some (.string s))=>afD W t.sets.A t.sets.n t.sets.c t.sets.xs h.len (Nat.le_trans (Nat.le_trans h.le h.cap) (by decide)) (Rd.at h.rd hW (Nat.le_refl _)) (fun x=>decide (x.path=s)) _ 177 #[.pointer (some ⟨b,0,none⟩)] rfl ad1
  (fun x hx w1 e1=>ae9 w1 b s x ((Below.cell e1 (World.block_lt_of_cell? W _ hb)).trans hb)))
 clear h
 obtain⟨t1,t2,t3,⟨A,n,c,xs⟩,t5,t6,t7⟩:=t
 unfold atS
 simp only [Tnt.cells,Sl.val]at *
 go_enter Tryz.func136,Tryz.ntmps136
 go_upto_region 1 with fail
 generalize hwH:World.alloc (World.alloc w _) _=w1;have HH:=Lib.hid (Heap.two hwH);clear hwH
 have g3:=(HH.out.boxAt 1 rfl).cell 3 _ rfl
 go_wp2_with fail
 refine(HI.out _ HH.out.ext _ ((HH.out.boxAt 0 rfl).cell 0 _ rfl)).mono ?_
 rintro e w2 ⟨rfl,e2⟩
 have HE:=Lib.hid (HH.out.ext.trans e2)
 go_wp2_with fail
 go_ret
 exact⟨rfl,HE.out⟩
theorem agm(w:World)(t:Dst)(s:ByteArray)(h:Sl.At w 0 w.heap.size Sna.cells (Sna.At w 0 w.heap.size) t.snaps):
 Calls Tryz.prog 184 #[.agg t.cells.toArray,.string s] w fun e w'=>e= .returned (.int .i64 (zw (fun x:Sna=>decide (x.name=s)) t.snaps.xs))∧Ext w w':=by
 have HI:=Lib.hid (fun W (hW:Ext w W) b (hb:W.cell? ⟨b,0,none⟩=some (.string s))=>aga W t.snaps.A t.snaps.n t.snaps.c t.snaps.xs h.len (Nat.le_trans (Nat.le_trans h.le h.cap) (by decide)) (Rd.at h.rd hW (Nat.le_refl _)) (fun x=>decide (x.name=s)) _ 215 #[.pointer (some ⟨b,0,none⟩)] rfl ad7
  (fun x hx w1 e1=>ae6 w1 b s x ((Below.cell e1 (World.block_lt_of_cell? W _ hb)).trans hb)))
 clear h
 obtain⟨t1,t2,t3,⟨A,n,c,xs⟩,t5⟩:=t
 simp only [Dst.cells,Sl.val]at *
 go_enter Tryz.func184,Tryz.ntmps184
 go_upto_region 1 with fail
 generalize hwH:World.alloc (World.alloc w _) _=w1;have HH:=Lib.hid (Heap.two hwH);clear hwH
 have g3:=(HH.out.boxAt 1 rfl).cell 3 _ rfl
 go_wp2_with fail
 refine(HI.out _ HH.out.ext _ ((HH.out.boxAt 0 rfl).cell 0 _ rfl)).mono ?_
 rintro e w2 ⟨rfl,e2⟩
 have HE:=Lib.hid (HH.out.ext.trans e2)
 go_wp2_with fail
 go_ret
 exact⟨rfl,HE.out⟩
end Go.Proofs.YtckaneapjpiocaaGreatDoor
