/- The texts Lib, Mem, Reg, Regm, Sho in one file. -/
import Derived.Test.YtckaneapjpiocaaGreatDoorRows
import Derived.WalkSpells
import Derived.WalkLawsBesides
import Derived.BigQuiet
import Derived.Deep.AppendLies
import Derived.Deep.RegionHeld3
import Derived.Lib.Hide
set_option linter.unusedVariables false
set_option linter.unusedSimpArgs false
namespace Go.Proofs.YtckaneapjpiocaaGreatDoor
open Go.RowKit
theorem lyA{α:Type}(l:List α)(i:Nat)(a:α):l.toArray.setIfInBounds i a=(l.set i a).toArray:=List.setIfInBounds_toArray ..
theorem lyB{α:Type}{x a:α}{xs:List α}:(x::xs).set 0 a=a::xs:=List.set_cons_zero
theorem lyC{α:Type}{x a:α}{xs:List α}{i:Nat}:(x::xs).set (i+1) a=x::xs.set i a:=List.set_cons_succ
theorem xS(b o n:Nat):(⟨b,o,none⟩:Addr).add n=⟨b,o+n,none⟩:=by
 unfold Addr.add
 by_cases h:n=0 <;> simp [h]
def Rd(w:World)(lo hi:Nat)(A:Option Addr)(cs:List Value):Prop:=
 cs≠ []→ ∃b o,A=some ⟨b,o,none⟩∧lo≤b∧b < hi∧ ∀j u,cs[j]?=some u→w.cell? ⟨b,o+j,none⟩=some u
section
variable {w w':World} {lo hi lo' hi':Nat} {A:Option Addr} {cs:List Value}
theorem Rd.nil:Rd w lo hi A []:=fun h=>absurd rfl h
theorem Rd.keep(h:Rd w lo hi A cs)(hk: ∀p:Addr,p.block < hi→w'.cell? p=w.cell? p):Rd w' lo hi A cs:=fun hn=>by
 obtain⟨b,o,e,h1,h2,h3⟩:=h hn
 exact⟨b,o,e,h1,h2,fun j u hu=>(hk _ h2).trans (h3 j u hu)⟩
theorem Rd.more(h:Rd w lo hi A cs)(hl:lo'≤lo)(hh:hi≤hi'):Rd w lo' hi' A cs:=fun hn=>by
 obtain⟨b,o,e,h1,h2,h3⟩:=h hn
 exact⟨b,o,e,by omega,by omega,h3⟩
theorem Rd.below{B:Nat}(h:Rd w lo hi A cs)(hb:Below B w w')(hB:hi≤B):Rd w' lo hi A cs:=h.keep fun _ hp=>hb.cell (Nat.lt_of_lt_of_le hp hB)
theorem Rd.drew(h:Rd w lo hi A cs):Rd w.drew lo hi A cs:=h
theorem Rd.drewN(h:Rd w lo hi A cs)(k:Nat):Rd (w.drewN k) lo hi A cs:=h
theorem Rd.alloc(h:Rd w lo hi A cs)(hB:hi≤w.heap.size)(o:Obj):Rd (w.alloc o) lo hi A cs:=h.keep fun p hp=>World.cell?_alloc_lt w o p (by omega)
theorem Rd.setCell(h:Rd w lo hi A cs){p:Addr}(hB:hi≤p.block)(u:Value):Rd (w.setCell p u) lo hi A cs:=
 h.keep fun q hq=>World.cell?_setCell_other w p q u (fun e=>by subst e;omega)
theorem Rd.grown(h:Rd w lo hi A cs){row:Option Nat}(hg:w.grownBy w' row)(hB:hi≤w.heap.size)(hr: ∀g,row=some g→hi≤g):Rd w' lo hi A cs:=
 h.keep fun p hp=>World.cell?_of_block (hg.block p.block (by omega) (fun e=>by have:=hr _ e.symm;omega))
theorem Rd.drop(h:Rd w lo hi A cs)(k:Nat):Rd w lo hi (A.map (·.add k)) (cs.drop k):=fun hn=>by
 have hk:k < cs.length:=by
  rcases Nat.lt_or_ge k cs.length with h' | h'
  ·exact h'
  ·exact absurd (List.drop_eq_nil_of_le h') hn
 obtain⟨b,o,rfl,h1,h2,h3⟩:=h (fun e=>by simp [e]at hk)
 refine⟨b,o+k,by simp [xS],h1,h2,fun j u hu=>?_⟩
 rw [Nat.add_assoc]
 exact h3 _ u (by rw [←hu,List.getElem?_drop])
theorem Rd.take(h:Rd w lo hi A cs)(k:Nat):Rd w lo hi A (cs.take k):=fun hn=>by
 obtain⟨b,o,rfl,h1,h2,h3⟩:=h (fun e=>by simp [e]at hn)
 refine⟨b,o,rfl,h1,h2,fun j u hu=>h3 j u ?_⟩
 rw [List.getElem?_take]at hu
 split at hu
 ·exact hu
 ·cases hu
theorem Rd.of_own{base:Nat}{e:TypeId}{size n c:Nat}(h:w.ownsRow base e size (.slice A n c) n cs):Rd w base w.heap.size A cs:=fun hn=>by
 rcases h.2 with⟨hv,h0⟩ | ⟨g,cap,cur,hv,hb,hh,_⟩
 ·subst h0
  exact absurd (List.eq_nil_of_length_eq_zero (by simpa using h.1)) hn
 ·have hA:A=some ⟨g,0,none⟩:=by injection hv
  subst hA
  have hlt:=h.lt g rfl
  refine⟨g,0,rfl,hb,hlt.2,fun j u hu=>?_⟩
  have:=h.cells (g:=g) rfl j u hu
  rwa [xS]at this
end
section
variable {P:Program} (w:World)
theorem afV(base:Nat)(t ty e:TypeId)(i:TypeInfo)(z:Value)(size bytes:Nat)(ht:P.underlying t=some (.slice e))(hi:P.info? e=some i)(hz:i.zero=some z)
 (hsize:i.size=size) (hby:i.bytes=bytes) (hzs:z.cells.size=size) (hsz:0 < size)
 (v:Value) (n:Nat) (xs:List Value) (hown:w.ownsRow base e size v n xs)
 (lo h':Nat) (A:Option Addr) (m c:Nat) (news:List Value) (hl:news.length=m * size) (hr:Rd w lo h' A news) (h1: ∀u∈news,u.oneCell'=true)
 (h63:n+m≤maxLen) (hbytes:(n+m) * bytes≤140737488355328) (hbase:base≤w.heap.size):
 ∃v' w',(Builtin.append_ #[t,t] ty #[v,.slice A m c]).run P w= .ok v' w'∧w'.ownsRow base e size v' (n+m) (xs++news)∧w.grownBy w' v.ownBlock∧
  (v'.ownBlock=v.ownBlock∨v'.ownBlock=some w.heap.size):=by
 have hnil:m=0→news= []:=fun h=>by subst h;exact List.eq_nil_of_length_eq_zero (by simpa using hl)
 rcases A with _ | ad
 ·have hm:m=0:=by
   rcases Nat.eq_zero_or_pos m with h0 | h0
   ·exact h0
   ·obtain⟨b,o,h,_⟩:=hr (fun e=>by have:=Nat.mul_pos h0 hsz;simp [e]at hl;omega)
    cases h
  have hn:=hnil hm
  subst hm
  subst hn
  have:(Builtin.append_ #[t,t] ty #[v,.slice none 0 c]).run P w= .ok v w:=by
   rcases hown.2 with⟨rfl,rfl⟩ | ⟨g,cap,cur,rfl,_,_,hnc,_⟩
   ·simp [Builtin.append_,run_underlying ht,sizeOf,typeInfo,hi,Builtin.lenOf,Builtin.firstCells]
   ·simp [Builtin.append_,run_underlying ht,sizeOf,typeInfo,hi,Builtin.lenOf,Builtin.firstCells,hnc,storeCells]
  exact⟨v,w,this,by simpa using hown,World.grownBy.refl w _,.inl rfl⟩
 ·have hcells: ∀j u,news[j]?=some u→w.cell? (ad.add j)=some u:=by
   intro j u hu
   obtain⟨b,o,h,_,_,hc⟩:=hr (fun e=>by simp [e]at hu)
   injection h with h
   subst h
   rw [xS]
   exact hc j u hu
  obtain⟨v',w',hrun,h2,h3,_,h5⟩:=run_append_own_at (P:=P) w base t ty e i z size bytes ht hi hz hsize hby hzs hsz v n xs hown ad m c news hl hcells h1 h63 hbytes hbase
  exact⟨v',w',hrun,h2,h3,h5⟩
theorem adz{o:Oper}{a:Act}{K:Act→World→Prop}{Q:Exit→Act→World→Prop}(s x:Operand)(t:TypeId)
 (ho:o.op= .call { callee:= .builtin .append,args:= #[s,x],argTypes:= #[t,t] })
 (base:Nat) (e:TypeId) (i:TypeInfo) (z:Value) (size bytes:Nat) (ht:P.underlying t=some (.slice e)) (hi:P.info? e=some i) (hz:i.zero=some z)
 (hsize:i.size=size) (hby:i.bytes=bytes) (hzs:z.cells.size=size) (hsz:0 < size)
 (v:Value) (n:Nat) (xs:List Value) (hs:a.eval s=v) (hown:w.ownsRow base e size v n xs)
 (lo h':Nat) (A:Option Addr) (m c:Nat) (news:List Value) (hx:a.eval x= .slice A m c) (hl:news.length=m * size) (hr:Rd w lo h' A news) (h1: ∀u∈news,u.oneCell'=true)
 (h63:n+m≤maxLen) (hbytes:(n+m) * bytes≤140737488355328) (hbase:base≤w.heap.size)
 (h: ∀v' w',w'.ownsRow base e size v' (n+m) (xs++news)→w.grownBy w' v.ownBlock→(v'.ownBlock=v.ownBlock∨v'.ownBlock=some w.heap.size)→K (a.put o.dst v') w'):o.wp P a w K Q:=by
 obtain⟨v',w',hrun,h2,h3,h4⟩:=afV (P:=P) w base t o.type e i z size bytes ht hi hz hsize hby hzs hsz v n xs hown lo h' A m c news hl hr h1 h63 hbytes hbase
 unfold Oper.wp execOp
 simp only [ho,resolve,invoke,builtin,Sem.run_bind,Sem.run_pure,Result.andThen_ok,List.map_toArray,List.map_cons,List.map_nil,hs,hx,hrun]
 exact h v' w' h2 h3 h4
theorem aet{ops:Array Oper}{rest:List Oper}{o:Oper}{a:Act}{Q:Exit→Act→World→Prop}(hgd:o.guard=none)(s x:Operand)(t:TypeId)
 (ho:o.op= .call { callee:= .builtin .append,args:= #[s,x],argTypes:= #[t,t] })
 (base:Nat) (e:TypeId) (i:TypeInfo) (z:Value) (size bytes:Nat) (ht:P.underlying t=some (.slice e)) (hi:P.info? e=some i) (hz:i.zero=some z)
 (hsize:i.size=size) (hby:i.bytes=bytes) (hzs:z.cells.size=size) (hsz:0 < size)
 (v:Value) (n:Nat) (xs:List Value) (hs:a.eval s=v) (hown:w.ownsRow base e size v n xs)
 (lo h':Nat) (A:Option Addr) (m c:Nat) (news:List Value) (hx:a.eval x= .slice A m c) (hl:news.length=m * size) (hr:Rd w lo h' A news) (h1: ∀u∈news,u.oneCell'=true)
 (h63:n+m≤maxLen) (hbytes:(n+m) * bytes≤140737488355328) (hbase:base≤w.heap.size)
 (h: ∀v' w',w'.ownsRow base e size v' (n+m) (xs++news)→w.grownBy w' v.ownBlock→(v'.ownBlock=v.ownBlock∨v'.ownBlock=some w.heap.size)→wpList P ops Q rest (a.put o.dst v') w'):wpList P ops Q (o::rest) a w:=
 wpList_plain hgd fun _ hK=>adz w s x t ho base e i z size bytes ht hi hz hsize hby hzs hsz v n xs hs hown lo h' A m c news hx hl hr h1 h63 hbytes hbase fun v' w' h2 h3 h4=>hK _ _ (h v' w' h2 h3 h4)
end
theorem aci(w:World)(cs:Array Value)(t:TypeId)(j:Nat){u:Value}(h:cs[j]?=some u):(w.alloc (.cells cs t)).cell? ⟨w.heap.size,j,none⟩=some u:=by
 have:=heap_alloc_new w (.cells cs t)
 unfold World.cell?
 rw [this]
 simpa using h
theorem acX(w:World)(cs:Array Value)(t:TypeId):Rd (w.alloc (.cells cs t)) w.heap.size (w.heap.size+1) (some ⟨w.heap.size,0,none⟩) cs.toList:=
 fun _=>⟨_,_,rfl,Nat.le_refl _,Nat.lt_succ_self _,fun j u h=>by rw [Nat.zero_add];exact aci w cs t j (by simpa using h)⟩
theorem aeF{B:Nat}{a w:World}(h:Below B a w)(n:Nat):Below B a (w.drewN n):=⟨h.os,h.tape,h.output,h.size,h.block⟩
theorem aex{B:Nat}{a w:World}(h:Below B a w)(hB:B≤a.heap.size)(o:Obj):Below B a (w.alloc o):=h.alloc (Nat.le_trans hB h.size) o
theorem xw{w:World}{base base':Nat}{e:TypeId}{size n:Nat}{v:Value}{xs:List Value}(h:w.ownsRow base e size v n xs)(hb:base'≤base):w.ownsRow base' e size v n xs:=by
 refine⟨h.1,?_⟩
 rcases h.2 with h' | ⟨g,cap,cur,h1,h2,h3⟩
 ·exact .inl h'
 ·exact .inr ⟨g,cap,cur,h1,Nat.le_trans hb h2,h3⟩
def Ext(w w':World):Prop:=Below w.heap.size w w'
theorem Ext.refl(w:World):Ext w w:=Below.refl _ _
theorem Ext.size{w w':World}(h:Ext w w'):w.heap.size≤w'.heap.size:=Below.size h
theorem Ext.trans{a b c:World}(h:Ext a b)(k:Ext b c):Ext a c:=Below.trans h (Below.mono k (Below.size h))
theorem Ext.drew{a b:World}(h:Ext a b):Ext a b.drew:=Below.drew h
theorem Ext.drewN{a b:World}(h:Ext a b)(n:Nat):Ext a (b.drewN n):=aeF h n
theorem Ext.alloc{a b:World}(h:Ext a b)(o:Obj):Ext a (b.alloc o):=aex h (Nat.le_refl _) o
theorem Ext.setCell{a b:World}(h:Ext a b){p:Addr}(hp:a.heap.size≤p.block)(u:Value):Ext a (b.setCell p u):=Below.setCell h hp u
theorem aeb{B:Nat}{a w w':World}(h:Below B a w)(e:Ext w w')(hB:B≤a.heap.size):Below B a w':=Below.trans h (Below.mono e (Nat.le_trans hB h.size))
theorem Rd.ext{w w':World}{lo h:Nat}{A:Option Addr}{cs:List Value}(hr:Rd w lo h A cs)(e:Ext w w')(hh:h≤w.heap.size):Rd w' lo h A cs:=hr.below e hh
theorem Rd.at{w w':World}{lo h:Nat}{A:Option Addr}{cs:List Value}(hr:Rd w lo h A cs)(hb:Below h w w')(hh:h≤w.heap.size):Rd w' lo w'.heap.size A cs:=
 (hr.below hb (Nat.le_refl _)).more (Nat.le_refl _) (Nat.le_trans hh hb.size)
theorem ab7{w w':World}{base:Nat}{e:TypeId}{size n:Nat}{v:Value}{xs:List Value}(h:w.ownsRow base e size v n xs)(k:Ext w w'):w'.ownsRow base e size v n xs:=by
 refine⟨h.1,?_⟩
 rcases h.2 with h' | ⟨g,cap,cur,h1,h2,h3,h4⟩
 ·exact .inl h'
 ·have hlt:=h.lt g (by rw [h1];rfl)
  exact .inr ⟨g,cap,cur,h1,h2,(k.block g hlt.2).trans h3,h4⟩
theorem adO{a w w':World}{base:Nat}{e:TypeId}{size n:Nat}{v:Value}{xs:List Value}(h:Ext a w)(hown:w.ownsRow base e size v n xs)(hg:w.grownBy w' v.ownBlock)(hb:a.heap.size≤base):Ext a w':=
 Below.grown h hg h.size fun k hk=>Nat.le_trans hb (hown.lt k hk).1
def Wr(w:World)(lo hi:Nat)(A:Option Addr)(cs:List Value):Prop:=
 cs≠ []→ ∃b o,A=some ⟨b,o,none⟩∧lo≤b∧b < hi∧ ∀j u,cs[j]?=some u→w.cell? ⟨b,o+j,none⟩=some u∧w.frozen? ⟨b,o+j,none⟩=false
theorem Wr.rd{w:World}{lo hi:Nat}{A:Option Addr}{cs:List Value}(h:Wr w lo hi A cs):Rd w lo hi A cs:=fun hn=>by
 obtain⟨b,o,h1,h2,h3,h4⟩:=h hn
 exact⟨b,o,h1,h2,h3,fun j u hu=>(h4 j u hu).1⟩
theorem Wr.drop{w:World}{lo hi:Nat}{A:Option Addr}{cs:List Value}(h:Wr w lo hi A cs)(k:Nat):Wr w lo hi (A.map (·.add k)) (cs.drop k):=fun hn=>by
 have hk:k < cs.length:=by
  rcases Nat.lt_or_ge k cs.length with h' | h'
  ·exact h'
  ·exact absurd (List.drop_eq_nil_of_le h') hn
 obtain⟨b,o,rfl,h1,h2,h3⟩:=h (fun e=>by simp [e]at hk)
 refine⟨b,o+k,by simp [xS],h1,h2,fun j u hu=>?_⟩
 rw [Nat.add_assoc]
 exact h3 _ u (by rw [←hu,List.getElem?_drop])
theorem Wr.of_own{w:World}{cs:List Value}{A:Option Addr}{base:Nat}{e:TypeId}{size n c:Nat}(h:w.ownsRow base e size (.slice A n c) n cs):Wr w base w.heap.size A cs:=fun hn=>by
 rcases h.2 with⟨hv,h0⟩ | ⟨g,cap,cur,hv,hb,hh,_⟩
 ·subst h0
  exact absurd (List.eq_nil_of_length_eq_zero (by simpa using h.1)) hn
 ·have hA:A=some ⟨g,0,none⟩:=by injection hv
  subst hA
  have hlt:=h.lt g rfl
  refine⟨g,0,rfl,hb,hlt.2,fun j u hu=>⟨?_,?_⟩⟩
  ·have:=h.cells (g:=g) rfl j u hu
   rwa [xS]at this
  ·simp [World.frozen?,hh]
theorem zr{w:World}{base:Nat}{e:TypeId}{size n:Nat}{v:Value}{xs:List Value}(h:w.ownsRow base e size v n xs): ∃A c,v= .slice A n c∧n≤c∧c≤maxLen∧(A=none→n=0):=by
 rcases h.2 with⟨rfl,rfl⟩ | ⟨g,cap,cur,rfl,_,_,h1,h2,_⟩
 ·exact⟨none,0,rfl,Nat.le_refl _,Nat.zero_le _,fun _=>rfl⟩
 ·exact⟨_,cap,rfl,h1,h2,fun h=>by cases h⟩
theorem aat{w w1:World}{cs:Array Value}{t:TypeId}(h:w.alloc (.cells cs t)=w1):Ext w w1∧w1.heap.size=w.heap.size+1∧ ∀j u,cs[j]?=some u→ ∀w',Ext w1 w'→w'.cell? ⟨w.heap.size,j,none⟩=some u:=by
 subst h
 refine⟨(Ext.refl _).alloc _,by simp,fun j u hu w' he=>?_⟩
 rw [Below.cell he (by simp)]
 exact aci w cs t j hu
def Can(w:World)(b o n:Nat):Prop:= ∀j,j < n→(∃u,w.cell? ⟨b,o+j,none⟩=some u)∧w.frozen? ⟨b,o+j,none⟩=false
theorem Can.setCell{w:World}{b o n:Nat}(h:Can w b o n)(p:Addr)(v:Value):Can (w.setCell p v) b o n:=fun j hj=>by
 obtain⟨⟨u,hu⟩,hf⟩:=h j hj
 refine⟨cell?_setCell_some hu,?_⟩
 rw [World.frozen?_setCell]
 exact hf
theorem Can.ext{w w':World}{b o n:Nat}(h:Can w b o n)(e:Ext w w'):Can w' b o n:=fun j hj=>by
 obtain⟨⟨u,hu⟩,hf⟩:=h j hj
 have hb:(⟨b,o+j,none⟩:Addr).block < w.heap.size:=World.block_lt_of_cell? w _ hu
 exact⟨⟨u,(Below.cell e hb).trans hu⟩,(Below.frozen e hb).trans hf⟩
theorem Wr.can{w:World}{lo hi:Nat}{b o:Nat}{cs:List Value}(h:Wr w lo hi (some ⟨b,o,none⟩) cs):Can w b o cs.length:=fun j hj=>by
 obtain⟨b',o',he,_,_,hc⟩:=h (fun e=>by simp [e]at hj)
 simp only [Option.some.injEq,Addr.mk.injEq,and_true]at he
 obtain⟨rfl,rfl⟩:=he
 exact⟨⟨_,(hc j _ (List.getElem?_eq_getElem hj)).1⟩,(hc j _ (List.getElem?_eq_getElem hj)).2⟩
def bytes(l:List UInt8):List Value:=l.map fun b=> .int .u8 (b.toNat:Int)
theorem yS(l:List UInt8):(bytes l).length=l.length:=by simp [bytes]
theorem adI(l:List UInt8): ∀u∈bytes l,u.oneCell'=true:=by
 intro u hu
 simp only [bytes,List.mem_map]at hu
 obtain⟨x,_,rfl⟩:=hu
 rfl
theorem acj(a b:List UInt8):bytes (a++b)=bytes a++bytes b:=by simp [bytes]
theorem abj(l:List UInt8)(k:Nat):(bytes l).drop k=bytes (l.drop k):=by simp [bytes]
theorem aaC(l:List UInt8)(k:Nat):(bytes l).take k=bytes (l.take k):=by simp [bytes]
theorem qB{P:Program}(w:World)(src dst e:TypeId)(hs:P.underlying src=some (.slice e))(he:P.underlying e=some (.int .u8))(hd:P.underlying dst=some .string)
 (lo hi:Nat) (A:Option Addr) (n c:Nat) (l:List UInt8) (hn:n=l.length) (h:Rd w lo hi A (bytes l)):(convert src dst (.slice A n c)).run P w= .ok (.string ⟨l.toArray⟩) w:=by
 subst hn
 cases l with
 | nil=>
   cases A with
   | none=>exact run_convert_bytes_nil w src e hs he 0 c dst hd
   | some a=>exact run_convert_bytes_back w src dst e a c [] hs he hd (fun j hj=>by simp at hj)
 | cons x l=>
   obtain⟨b,o,rfl,_,_,hc⟩:=h (by simp [bytes])
   refine run_convert_bytes_back w src dst e ⟨b,o,none⟩ c (x::l) hs he hd (fun j hj=>?_)
   rw [xS]
   exact hc j _ (by rw [bytes,List.getElem?_map,List.getElem?_eq_getElem hj];rfl)
theorem ab4{w:World}{lo hi:Nat}{A:Option Addr}{l:List UInt8}(h:Rd w lo hi A (bytes l)){k:Nat}(hk:k < l.length):
 ∃b o,A=some ⟨b,o,none⟩∧lo≤b∧b < hi∧w.cell? ⟨b,o+k,none⟩=some (.int .u8 (l[k].toNat:Int)):=by
 obtain⟨b,o,h1,h2,h3,h4⟩:=h (fun e=>by have:=yS l;rw [e]at this;simp at this;omega)
 exact⟨b,o,h1,h2,h3,h4 k _ (by simp [bytes,List.getElem?_eq_getElem hk])⟩
theorem aev{B:Nat}{a w w':World}{row:Option Nat}(h:Below B a w)(hg:w.grownBy w' row)(hB:B≤w.heap.size)(hr:row=none∨ ∃k,row=some k∧B≤k):Below B a w':=
 h.grown hg hB fun k hk=>by
  rcases hr with hr | ⟨k',hr,hb⟩
  ·rw [hr]at hk;cases hk
  ·rw [hr]at hk;cases hk;exact hb
section
variable {P:Program} (w:World)
theorem qR{ops:Array Oper}{rest:List Oper}{o:Oper}{a:Act}{Q:Exit→Act→World→Prop}(hgd:o.guard=none)(s x:Operand)(t:TypeId)
 (ho:o.op= .call { callee:= .builtin .append,args:= #[s,x],argTypes:= #[t,t] })
 (e:TypeId) (i:TypeInfo) (z:Value) (size bytes:Nat) (ht:P.underlying t=some (.slice e)) (hi:P.info? e=some i) (hz:i.zero=some z)
 (hsize:i.size=size) (hby:i.bytes=bytes) (hzs:z.cells.size=size) (hsz:0 < size)
 (base:Nat) (v:Value) (n:Nat) (xs:List Value) (hs:a.eval s=v) (hown:w.ownsRow base e size v n xs) (lo h':Nat) (A:Option Addr) (m c:Nat) (news:List Value) (hx:a.eval x= .slice A m c) (hl:news.length=m * size) (hr:Rd w lo h' A news) (h1: ∀u∈news,u.oneCell'=true)
 (h63:n+m≤maxLen) (hbytes:(n+m) * bytes≤140737488355328) (hbase:base≤w.heap.size)
 (h: ∀v' w',w'.ownsRow base e size v' (n+m) (xs++news)→(∀b,Ext b w→b.heap.size≤base→Ext b w')→(v'.ownBlock=v.ownBlock∨v'.ownBlock=some w.heap.size)→w.grownBy w' v.ownBlock→wpList P ops Q rest (a.put o.dst v') w'):wpList P ops Q (o::rest) a w:=
 aet w hgd s x t ho base e i z size bytes ht hi hz hsize hby hzs hsz v n xs hs hown lo h' A m c news hx hl hr h1 h63 hbytes hbase
  fun v' w' h2 h3 h4=>h v' w' h2 (fun _ hb hle=>adO hb hown h3 hle) h4 h3
end
theorem acV{B:Nat}{a:World}(b:Nat): ∀(vs:List Value) (o:Nat) (w:World),Below B a w→B≤b→Below B a (w.setCells b o vs)
 | [],_,_,h,_=>h
 | v::r,o,_,h,hb=>acV b r (o+1) _ (h.setCell (p:=⟨b,o,none⟩) hb v) hb
section
variable {P:Program} (w:World)
end
theorem Rd.setCell_before{w:World}{lo hi g p q:Nat}{cs:List Value}(h:Rd w lo hi (some ⟨g,p,none⟩) cs)(hq:q < p)(u:Value):Rd (w.setCell ⟨g,q,none⟩ u) lo hi (some ⟨g,p,none⟩) cs:=fun hn=>by
 obtain⟨b,o,e,h1,h2,h3⟩:=h hn
 obtain⟨rfl,rfl⟩:g=b∧p=o:=by simpa using e
 exact⟨g,p,rfl,h1,h2,fun j v hv=>(World.cell?_setCell_other w _ _ _ (fun e=>by injection e with _ e2;omega)).trans (h3 j v hv)⟩
theorem Rd.step{w:World}{lo hi g p:Nat}{cs:List Value}(h:Rd w lo hi (some ⟨g,p,none⟩) cs)(k:Nat):Rd w lo hi (some ⟨g,p+k,none⟩) (cs.drop k):=by
 have:=h.drop k
 simpa [xS]using this
def zy(A:Option Addr)(c k size:Nat):Option Addr:=if c=k then A else A.map (·.add (k * size))
theorem Rd.from_{w:World}{lo hi n c k size:Nat}{A:Option Addr}{cs:List Value}(h:Rd w lo hi A cs)(hl:cs.length=n * size)(hk:k≤n)(hc:n≤c):Rd w lo hi (zy A c k size) (cs.drop (k * size)):=by
 unfold zy
 by_cases e:c=k
 ·have:cs.drop (k * size)= []:=List.drop_eq_nil_of_le (by rw [hl,show n=k from by omega];exact Nat.le_refl _)
  rw [this]
  exact Rd.nil
 ·rw [if_neg e]
  exact h.drop _
theorem yC{P:Program}(w:World)(t e:TypeId)(i:TypeInfo)(size:Nat)(ht:P.underlying t=some (.slice e))(hi:P.info? e=some i)(hs:i.size=size)(A:Option Addr)(n c k:Nat)(K:Int)(hK:K=(k:Int))(hk:k≤n):
 (Instr.slice t (.slice A n c) (some (.int .i64 K)) none none).run P w= .ok (.slice (zy A c k size) (n - k) (c - k)) w:=by
 subst hK
 subst hs
 have h0: ¬((k:Int) < 0):=by omega
 have h1: ¬((n:Int) < (k:Int)):=by omega
 have hb:(Instr.sliceBounds true n c (some (.int .i64 (k:Int))) none none).run P w= .ok (k,n,c) w:=by
  simp [Instr.sliceBounds,run_sliceBound (P:=P) w .i64 (k:Int) n .sliceB (by omega) (by omega)]
 simp [Instr.slice,run_underlying ht,hb,sizeOf,typeInfo,hi,zy]
theorem aiW{w w1:World}{cs:Array Value}{t:TypeId}(h:w.alloc (.cells cs t)=w1)(j:Nat): ∀w',Ext w1 w'→w'.frozen? ⟨w.heap.size,j,none⟩=false:=fun w' e=>by
 subst h
 rw [Below.frozen e (by simp)]
 have:=heap_alloc_new w (.cells cs t)
 unfold World.frozen?
 rw [this]
 simp
structure Bx (w:World) (b:Nat) (vs:List Value):Prop where
 lt:b < w.heap.size
 cells: ∀j u,vs[j]?=some u→w.cell? ⟨b,j,none⟩=some u∧w.frozen? ⟨b,j,none⟩=false
section
variable {w w':World} {b:Nat} {vs:List Value}
theorem Bx.cell(h:Bx w b vs)(j:Nat)(u:Value)(hu:vs[j]?=some u):w.cell? ⟨b,j,none⟩=some u:=(h.cells j u hu).1
theorem Bx.frozen(h:Bx w b vs)(j:Nat)(u:Value)(hu:vs[j]?=some u):w.frozen? ⟨b,j,none⟩=false:=(h.cells j u hu).2
theorem Bx.ext(h:Bx w b vs)(e:Ext w w'):Bx w' b vs:=
 ⟨Nat.lt_of_lt_of_le h.lt e.size,fun j u hu=>⟨(Below.cell (p:=⟨b,j,none⟩) e h.lt).trans (h.cell j u hu),(Below.frozen (p:=⟨b,j,none⟩) e h.lt).trans (h.frozen j u hu)⟩⟩
theorem Bx.below{B:Nat}(h:Bx w b vs)(e:Below B w w')(hb:b < B):Bx w' b vs:=
 ⟨Nat.lt_of_lt_of_le h.lt e.size,fun j u hu=>⟨(Below.cell (p:=⟨b,j,none⟩) e hb).trans (h.cell j u hu),(Below.frozen (p:=⟨b,j,none⟩) e hb).trans (h.frozen j u hu)⟩⟩
theorem Bx.grown{v:Value}(h:Bx w b vs)(hg:w.grownBy w' v.ownBlock)(hb:v.ownBlock≠some b):Bx w' b vs:=by
 have hk:=hg.block b h.lt (fun e=>hb e.symm)
 exact⟨Nat.lt_of_lt_of_le h.lt hg.size,fun j u hu=>⟨(World.cell?_of_block hk).trans (h.cell j u hu),(World.frozen?_of_block hk).trans (h.frozen j u hu)⟩⟩
theorem Bx.new{cs:Array Value}{t:TypeId}(h:w.alloc (.cells cs t)=w'):Bx w' w.heap.size cs.toList:=by
 subst h
 exact⟨by simp,fun j u hu=>⟨aci w cs t j (by simpa using hu),aiW rfl j _ (Ext.refl _)⟩⟩
theorem Bx.set(h:Bx w b vs)(j:Nat)(v:Value):Bx (w.setCell ⟨b,j,none⟩ v) b (vs.set j v):=by
 refine⟨by simpa using h.lt,fun k u hu=>⟨?_,(World.frozen?_setCell _ _ _ _).trans ?_⟩⟩
 ·rw [List.getElem?_set]at hu
  by_cases e:j=k
  ·subst e
   simp only [if_true]at hu
   split at hu
   ·rename_i hl
    cases hu
    exact World.cell?_setCell_same _ _ _ (h.cell j _ (List.getElem?_eq_getElem hl))
   ·cases hu
  ·rw [if_neg e]at hu
   exact(World.cell?_setCell_other _ _ _ _ (fun h'=>e (by simp at h'))).trans (h.cell k u hu)
 ·by_cases hl:k < vs.length
  ·exact h.frozen k _ (List.getElem?_eq_getElem hl)
  ·rw [List.getElem?_eq_none (by rw [List.length_set];omega)]at hu;cases hu
end
structure Keep (ok:Nat→Prop) (w w':World):Prop where
 os:w'.os=w.os
 tape:w'.tape=w.tape
 output:w'.output=w.output
 size:w.heap.size≤w'.heap.size
 block: ∀k,k < w.heap.size→ok k→w'.heap[k]?=w.heap[k]?
section
variable {ok ok':Nat→Prop} {a b w w':World}
theorem Keep.refl(ok:Nat→Prop)(w:World):Keep ok w w:=⟨rfl,rfl,rfl,Nat.le_refl _,fun _ _ _=>rfl⟩
theorem Keep.trans{c:World}(h:Keep ok a b)(k:Keep ok b c):Keep ok a c:=
 ⟨k.os.trans h.os,k.tape.trans h.tape,k.output.trans h.output,Nat.le_trans h.size k.size,fun i hi ho=>(k.block i (Nat.lt_of_lt_of_le hi h.size) ho).trans (h.block i hi ho)⟩
theorem Keep.mono(h:Keep ok w w')(hk: ∀b,ok' b→ok b):Keep ok' w w':=⟨h.os,h.tape,h.output,h.size,fun k hk' ho=>h.block k hk' (hk k ho)⟩
theorem Keep.of_ext(e:Ext w w'):Keep ok w w':=⟨e.os,e.tape,e.output,e.size,fun k hk _=>e.block k hk⟩
theorem Keep.ext(h:Keep ok a w)(e:Ext w w'):Keep ok a w':=h.trans (Keep.of_ext e)
theorem Keep.setCell(h:Keep ok a w){p:Addr}(hp: ¬ok p.block)(u:Value):Keep ok a (w.setCell p u):=
 h.trans ⟨rfl,rfl,rfl,by simp,fun k _ ho=>Below.heap_setCell _ _ _ _ (fun e=>hp (e▸ho))⟩
theorem Keep.grown{row:Option Nat}(h:Keep ok a w)(hg:w.grownBy w' row)(hr: ∀k,row=some k→ ¬ok k):Keep ok a w':=
 h.trans ⟨hg.os,hg.tape,hg.output,hg.size,fun k hk ho=>hg.block k hk (fun e=>hr k e.symm ho)⟩
theorem Keep.cell(h:Keep ok w w'){p:Addr}(hp:p.block < w.heap.size)(ho:ok p.block):w'.cell? p=w.cell? p:=World.cell?_of_block (w:=w) (h.block p.block hp ho)
theorem Keep.frozen(h:Keep ok w w'){p:Addr}(hp:p.block < w.heap.size)(ho:ok p.block):w'.frozen? p=w.frozen? p:=World.frozen?_of_block (w:=w) (h.block p.block hp ho)
theorem Keep.to_ext(h:Keep ok a w)(e:Ext b a)(hk: ∀k,k < b.heap.size→ok k):Ext b w:=
 ⟨h.os.trans e.os,h.tape.trans e.tape,h.output.trans e.output,Nat.le_trans e.size h.size,fun k hk'=>(h.block k (Nat.lt_of_lt_of_le hk' e.size) (hk k hk')).trans (e.block k hk')⟩
theorem Bx.keep{g:Nat}{vs:List Value}(h:Bx w g vs)(k:Keep ok w w')(ho:ok g):Bx w' g vs:=
 ⟨Nat.lt_of_lt_of_le h.lt k.size,fun j u hu=>⟨(k.cell (p:=⟨g,j,none⟩) h.lt ho).trans (h.cell j u hu),(k.frozen (p:=⟨g,j,none⟩) h.lt ho).trans (h.frozen j u hu)⟩⟩
end
def RdK(w:World)(ok:Nat→Prop)(A:Option Addr)(cs:List Value):Prop:=
 cs≠ []→ ∃b o,A=some ⟨b,o,none⟩∧b < w.heap.size∧ok b∧ ∀j u,cs[j]?=some u→w.cell? ⟨b,o+j,none⟩=some u
section
variable {ok ok':Nat→Prop} {w w':World} {A:Option Addr} {cs:List Value}
theorem RdK.nil:RdK w ok A []:=fun h=>absurd rfl h
theorem RdK.mono(h:RdK w ok A cs)(hk: ∀b,b < w.heap.size→ok b→ok' b):RdK w ok' A cs:=fun hn=>by
 obtain⟨b,o,e,h1,h2,h3⟩:=h hn
 exact⟨b,o,e,h1,hk b h1 h2,h3⟩
theorem RdK.keep(h:RdK w ok A cs)(k:Keep ok' w w')(hk: ∀b,ok b→ok' b):RdK w' ok A cs:=fun hn=>by
 obtain⟨b,o,e,h1,h2,h3⟩:=h hn
 exact⟨b,o,e,Nat.lt_of_lt_of_le h1 k.size,h2,fun j u hu=>(k.cell (p:=⟨b,o+j,none⟩) h1 (hk b h2)).trans (h3 j u hu)⟩
theorem RdK.ext(h:RdK w ok A cs)(e:Ext w w'):RdK w' ok A cs:=h.keep (Keep.of_ext (ok:=fun _=>True) e) fun _ _=>trivial
theorem RdK.rd{lo:Nat}(h:RdK w ok A cs)(hl: ∀b,ok b→lo≤b):Rd w lo w.heap.size A cs:=fun hn=>by
 obtain⟨b,o,e,h1,h2,h3⟩:=h hn
 exact⟨b,o,e,hl b h2,h1,h3⟩
end
section
variable {P:Program} {l rest:List Oper} {Q:Exit→Act→World→Prop} {md:Region.Mode} {S:World→Prop} {oi:Oper} {fuel:Nat} {listed:Array Bool} {a:Act} {w:World}
theorem xH{i:Nat}(hn:l.drop i=oi::rest):l.toArray[i]?=some oi:=by
 have:(l.drop i)[0]?=some oi:=by rw [hn];rfl
 simpa using this
theorem anl(i:Nat){v:Value}(hn:l.drop i=oi::rest)(hs:Region.noSelect l.toArray=true)(hf:Region.free md l.toArray listed i=true)(hr:(Region.ready md l.toArray listed).contains i=true)
 (hQ: ∀c a w,Q (.panic c) (a.put oi.dst v) w→Q (.panic c) a w) (hw:Region.wanted oi (yielded l.toArray a.tmps)=true) (hrun: ∀w,S w→(execOp a.eval oi).run P w= .ok (.value v) w) (hS:S w)
 (h:wpAnyH P md l.toArray Q S fuel (listed.setIfInBounds i true) (a.put oi.dst v) w):wpAnyH P md l.toArray Q S (fuel+1) listed a w:=
 wpAnyH_take (xH hn) hs hf hr hQ (Or.inl ⟨hw,hrun⟩) hS h
theorem ao9(i:Nat)(hn:l.drop i=oi::rest)(hs:Region.noSelect l.toArray=true)(hf:Region.free md l.toArray listed i=true)(hr:(Region.ready md l.toArray listed).contains i=true)
 (hQ: ∀c a w,Q (.panic c) (a.put oi.dst undef) w→Q (.panic c) a w) (hw:Region.wanted oi (yielded l.toArray a.tmps)=false) (hS:S w)
 (h:wpAnyH P md l.toArray Q S fuel (listed.setIfInBounds i true) (a.put oi.dst undef) w):wpAnyH P md l.toArray Q S (fuel+1) listed a w:=
 wpAnyH_take (xH hn) hs hf hr hQ (Or.inr ⟨hw,rfl⟩) hS h
theorem ape(i:Nat)(hn:l.drop i=oi::rest)(hr:Region.ready md l.toArray listed= [i])(hw:Region.wanted oi (yielded l.toArray a.tmps)=true)
 (h: ∀K':Act→World→Prop,Shut (∀a w,S w→(S w→wpAnyH P md l.toArray Q S fuel (listed.setIfInBounds i true) a w)→K' a w)→Oper.wp P oi a w K' Q):wpAnyH P md l.toArray Q S (fuel+1) listed a w:=
 wpAnyH_ready hr (by simp) (AllReadyH.cons (xH hn) (fun K' hK=>by rw [if_pos hw];exact h K' hK) AllReadyH.nil)
end
section
variable {P:Program} {ops:Array Oper} {Q:Exit→Act→World→Prop} {md:Region.Mode} {S:World→Prop}
theorem ada{listed:Array Bool}{i j p:Nat}{op:Oper}(hp:ops[p]?=some op)(he: ∃e∈op.after,Region.binds md e=true∧e.on=i)(hun:listed.getD i true=false)(hj:j∈Region.ready md ops listed):j≠p:=by
 rintro rfl
 obtain⟨_,oj,hoj,hall⟩:=mem_ready.1 hj
 rw [hp]at hoj
 cases hoj
 obtain⟨e,he,hb,rfl⟩:=he
 have h1:=hall e he hb
 rcases Nat.lt_or_ge e.on listed.size with h' | h'
 ·simp [h']at hun h1
  rw [hun]at h1
  cases h1
 ·simp [Array.getElem?_eq_none h']at h1
end
section
variable {P:Program} {l rest:List Oper} {Q:Exit→Act→World→Prop} {md:Region.Mode} {S:World→Prop} {oi:Oper} {fuel:Nat} {listed:Array Bool} {a:Act} {w:World}
end
section
variable {P:Program} {ops:Array Oper} {Q:Exit→Act→World→Prop} {md:Region.Mode} {S:World→Prop} {m:Nat→Bool}
def acv(m:Nat→Bool)(listed:Array Bool):Prop:= ∃k,m k=true∧listed.getD k true=false
def zU(P:Program)(md:Region.Mode)(ops:Array Oper)(Q:Exit→Act→World→Prop)(S:World→Prop)(m:Nat→Bool):Nat→Array Bool→Act→World→Prop
 | 0,listed,a,w=>Region.ready md ops listed= []∧Q .normal a w
 | fuel+1,listed,a,w=>
   (Region.ready md ops listed= []→Q .normal a w)∧
   ∀i∈Region.ready md ops listed,wpOp P ops Q i (fun a' w'=>(acv m (listed.setIfInBounds i true)→S w')∧zU P md ops Q S m fuel (listed.setIfInBounds i true) a' w') a w
theorem ac8: ∀(fuel:Nat) (listed:Array Bool) (a:Act) (w:World),zU P md ops Q S m fuel listed a w→wpAny P md ops Q fuel listed a w
 | 0,_,_,_,h=>h
 | fuel+1,_,_,_,h=>⟨h.1,fun i hi=>wpOp_mono (fun a' w' h'=>ac8 fuel _ a' w' h'.2) (h.2 i hi)⟩
def akU(md:Region.Mode)(ops:Array Oper)(m:Nat→Bool)(listed:Array Bool)(i:Nat):Prop:=
 ∃p op,m p=true∧ops[p]?=some op∧listed.getD p true=false∧ ∃e∈op.after,Region.binds md e=true∧e.on=i
theorem agQ{i:Nat}{oi:Oper}{v:Value}(hi:ops[i]?=some oi)(hsel: ∀(j:Nat) (o:Oper) cs b,ops[j]?=some o→o.op≠ .select cs b)
 (hQ: ∀c a w,Q (.panic c) (a.put oi.dst v) w→Q (.panic c) a w):
 ∀(fuel:Nat) (listed:Array Bool) (a:Act) (w:World),
  (∀j oj,ops[j]?=some oj→j≠i→listed.getD j true=false→(∀e∈oj.after,Region.binds md e=true→e.on≠i)→oi.apart ops oj=true)→
  akU md ops m listed i→i∈Region.ready md ops listed→YieldsIf P ops S oi v a→S w→
  zU P md ops Q S m fuel (listed.setIfInBounds i true) (a.put oi.dst v) w→zU P md ops Q S m (fuel+1) listed a w:=by
 intro fuel
 induction fuel with
 | zero=>
   intro listed a w _ _ hr hy hS H
   refine⟨fun h=>(by rw [h]at hr;cases hr),fun j hj=>?_⟩
   by_cases hji:j=i
   ·subst hji
    exact hy.wpOp hi hS ⟨fun _=>hS,H⟩
   ·have:=ready_mono hj hji
    rw [H.1]at this
    cases this
 | succ fuel ih=>
   intro listed a w hfree hp hr hy hS H
   refine⟨fun h=>(by rw [h]at hr;cases hr),fun j hj=>?_⟩
   by_cases hji:j=i
   ·subst hji
    exact hy.wpOp hi hS ⟨fun _=>hS,H⟩
   ·have h1:=H.2 j (ready_mono hj hji)
    obtain⟨hjun,oj,hoj,hall⟩:=mem_ready.1 hj
    have hiun:=(mem_ready.1 hr).1
    obtain⟨p,op,hpm,hop,hpun,hpe⟩:=hp
    have hjp:j≠p:=ada hop hpe hiun hj
    have hip:i≠p:=ada hop hpe hiun hr
    have hnot: ∀e∈oj.after,Region.binds md e=true→e.on≠i:=fun e he hb heq=>ada hoj ⟨e,he,hb,heq⟩ hiun hj rfl
    have hpun':(listed.setIfInBounds j true).getD p true=false:=by rw [getD_set_ne true hjp];exact hpun
    have hpun2:((listed.setIfInBounds i true).setIfInBounds j true).getD p true=false:=by rw [getD_set_ne true hjp,getD_set_ne true hip];exact hpun
    have h2:=wpOp_putIf hoj (hfree j oj hoj hji hjun hnot) (fun cs b=>hsel i oi cs b hi) (fun cs b=>hsel j oj cs b hoj) hQ hy h1
    have hfree': ∀k ok,ops[k]?=some ok→k≠i→(listed.setIfInBounds j true).getD k true=false→
     (∀e∈ok.after,Region.binds md e=true→e.on≠i)→oi.apart ops ok=true:=fun k ok hk hki hun hno=>by
     refine hfree k ok hk hki ?_ hno
     by_cases hjk:j=k
     ·subst hjk;exact hjun
     ·rw [getD_set_ne true hjk]at hun;exact hun
    refine wpOp_mono (fun a' w' h3=>?_) h2
    have hS':S w':=h3.2.1 ⟨p,hpm,hpun2⟩
    refine⟨fun _=>hS',ih (listed.setIfInBounds j true) a' w' hfree' ⟨p,op,hpm,hop,hpun',hpe⟩ (ready_mono hr (Ne.symm hji)) h3.1 hS' ?_⟩
    rw [Array.setIfInBounds_comm _ _ hji]
    exact h3.2.2
theorem aew{listed:Array Bool}{i:Nat}(h:acv m (listed.setIfInBounds i true)):acv m listed:=by
 obtain⟨k,hk,hu⟩:=h
 refine⟨k,hk,?_⟩
 by_cases e:i=k
 ·subst e
  rcases Nat.lt_or_ge i listed.size with h' | h'
  ·simp [h']at hu
  ·simp [h']at hu
 ·rwa [getD_set_ne true e]at hu
theorem aeA{i:Nat}{oi:Oper}{v:Value}(hi:ops[i]?=some oi)(hsel: ∀(j:Nat) (o:Oper) cs b,ops[j]?=some o→o.op≠ .select cs b)
 (hQ: ∀c a w,Q (.panic c) (a.put oi.dst v) w→Q (.panic c) a w):
 ∀(fuel:Nat) (listed:Array Bool) (a:Act) (w:World),
  (∀j oj,ops[j]?=some oj→j≠i→listed.getD j true=false→(∀e∈oj.after,Region.binds md e=true→e.on≠i)→oi.apart ops oj=true)→
  m i=false→i∈Region.ready md ops listed→YieldsIf P ops (fun _=>True) oi v a→(acv m listed→S w)→
  zU P md ops Q S m fuel (listed.setIfInBounds i true) (a.put oi.dst v) w→zU P md ops Q S m (fuel+1) listed a w:=by
 intro fuel
 induction fuel with
 | zero=>
   intro listed a w _ _ hr hy hS H
   refine⟨fun h=>(by rw [h]at hr;cases hr),fun j hj=>?_⟩
   by_cases hji:j=i
   ·subst hji
    exact hy.wpOp hi trivial ⟨fun hM=>hS (aew hM),H⟩
   ·have:=ready_mono hj hji
    rw [H.1]at this
    cases this
 | succ fuel ih=>
   intro listed a w hfree hp hr hy hS H
   refine⟨fun h=>(by rw [h]at hr;cases hr),fun j hj=>?_⟩
   by_cases hji:j=i
   ·subst hji
    exact hy.wpOp hi trivial ⟨fun hM=>hS (aew hM),H⟩
   ·have h1:=H.2 j (ready_mono hj hji)
    obtain⟨hjun,oj,hoj,hall⟩:=mem_ready.1 hj
    have hiun:=(mem_ready.1 hr).1
    have hnot: ∀e∈oj.after,Region.binds md e=true→e.on≠i:=fun e he hb heq=>ada hoj ⟨e,he,hb,heq⟩ hiun hj rfl
    have h2:=wpOp_putIf hoj (hfree j oj hoj hji hjun hnot) (fun cs b=>hsel i oi cs b hi) (fun cs b=>hsel j oj cs b hoj) hQ hy h1
    have hfree': ∀k ok,ops[k]?=some ok→k≠i→(listed.setIfInBounds j true).getD k true=false→
     (∀e∈ok.after,Region.binds md e=true→e.on≠i)→oi.apart ops ok=true:=fun k ok hk hki hun hno=>by
     refine hfree k ok hk hki ?_ hno
     by_cases hjk:j=k
     ·subst hjk;exact hjun
     ·rw [getD_set_ne true hjk]at hun;exact hun
    refine wpOp_mono (fun a' w' h3=>?_) h2
    have hS':acv m (listed.setIfInBounds j true)→S w':=fun⟨k,hk,hu⟩=>h3.2.1 ⟨k,hk,by
     rw [Array.setIfInBounds_comm _ _ (Ne.symm hji),getD_set_ne true (fun e=>by subst e;rw [hp]at hk;cases hk)]
     exact hu⟩
    refine⟨hS',ih (listed.setIfInBounds j true) a' w' hfree' hp (ready_mono hr (Ne.symm hji)) h3.1 hS' ?_⟩
    rw [Array.setIfInBounds_comm _ _ hji]
    exact h3.2.2
def ab9(md:Region.Mode)(ops:Array Oper)(m:Nat→Bool)(listed:Array Bool)(i:Nat):Bool:=(List.range ops.size).any fun p=>m p && !listed.getD p true && match ops[p]? with
 | some op=>op.after.any fun e=>Region.binds md e && e.on == i
 | none=>false
theorem ag0{listed:Array Bool}{i:Nat}(h:ab9 md ops m listed i=true):akU md ops m listed i:=by
 simp only [ab9,List.any_eq_true,List.mem_range,Bool.and_eq_true]at h
 obtain⟨p,_,⟨hp,h1⟩,h2⟩:=h
 cases ho:ops[p]? with
 | none=>simp [ho]at h2
 | some op=>
   rw [ho]at h2
   obtain⟨k,hk,hb⟩:=Array.any_eq_true.1 h2
   simp only [Bool.and_eq_true,beq_iff_eq]at hb
   exact⟨p,op,hp,ho,by simpa using h1,op.after[k],Array.getElem_mem _,hb.1,hb.2⟩
end
section
variable {P:Program} {l rest:List Oper} {Q:Exit→Act→World→Prop} {md:Region.Mode} {S:World→Prop} {oi:Oper} {fuel:Nat} {m:Nat→Bool} {listed:Array Bool} {a:Act} {w:World}
theorem qe(m:Nat→Bool){id:Nat}(hm:P.follows .mixedOrders=true)(hS:S w.drew)(h:S w.drew→zU P .any l.toArray Q S m l.toArray.size (Array.replicate l.toArray.size false) a w.drew):(Code.region id l.toArray true).wp P Q a w:=
 wp_region_any hm (ac8 _ _ _ _ (h hS))
theorem aaA(i:Nat){v:Value}(hn:l.drop i=oi::rest)(hs:Region.noSelect l.toArray=true)(hf:Region.free md l.toArray listed i=true)(hr:(Region.ready md l.toArray listed).contains i=true)(hp:ab9 md l.toArray m listed i=true)
 (hQ: ∀c a w,Q (.panic c) (a.put oi.dst v) w→Q (.panic c) a w) (hw:Region.wanted oi (yielded l.toArray a.tmps)=true) (hrun: ∀w,S w→(execOp a.eval oi).run P w= .ok (.value v) w) (hS:S w)
 (h:zU P md l.toArray Q S m fuel (listed.setIfInBounds i true) (a.put oi.dst v) w):zU P md l.toArray Q S m (fuel+1) listed a w:=
 agQ (xH hn) (Region.noSelect_spec hs) hQ fuel listed a w (Region.free_spec (xH hn) hf) (ag0 hp) (by simpa using hr) (Or.inl ⟨hw,hrun⟩) hS h
theorem yL(i:Nat){v:Value}(hn:l.drop i=oi::rest)(hs:Region.noSelect l.toArray=true)(hf:Region.free md l.toArray listed i=true)(hr:(Region.ready md l.toArray listed).contains i=true)(hp:m i=false)
 (hQ: ∀c a w,Q (.panic c) (a.put oi.dst v) w→Q (.panic c) a w) (hw:Region.wanted oi (yielded l.toArray a.tmps)=true) (hrun: ∀w,(execOp a.eval oi).run P w= .ok (.value v) w) (hS:acv m listed→S w)
 (h:zU P md l.toArray Q S m fuel (listed.setIfInBounds i true) (a.put oi.dst v) w):zU P md l.toArray Q S m (fuel+1) listed a w:=
 aeA (xH hn) (Region.noSelect_spec hs) hQ fuel listed a w (Region.free_spec (xH hn) hf) hp (by simpa using hr) (Or.inl ⟨hw,fun w _=>hrun w⟩) hS h
theorem adJ(i:Nat)(hn:l.drop i=oi::rest)(hr:Region.ready md l.toArray listed= [i])(hw:Region.wanted oi (yielded l.toArray a.tmps)=true)
 (h: ∀K':Act→World→Prop,Shut (∀a w,S w→(S w→zU P md l.toArray Q S m fuel (listed.setIfInBounds i true) a w)→K' a w)→Oper.wp P oi a w K' Q):zU P md l.toArray Q S m (fuel+1) listed a w:=by
 refine⟨fun h0=>absurd (hr▸h0) (by simp),fun j hj=>?_⟩
 rw [hr]at hj
 obtain rfl:j=i:=by simpa using hj
 exact wpOp_step (xH hn) fun K' hK=>by rw [if_pos hw];exact h K' (fun a w hS hW=>hK a w ⟨fun _=>hS,hW hS⟩)
theorem afr(i:Nat)(hn:l.drop i=oi::rest)(hr:Region.ready md l.toArray listed= [i])(hl:((List.range listed.size).all fun k=>!m k || (listed.setIfInBounds i true).getD k true)=true)(hw:Region.wanted oi (yielded l.toArray a.tmps)=true)
 (h: ∀K':Act→World→Prop,Shut (∀a w,zU P md l.toArray Q S m fuel (listed.setIfInBounds i true) a w→K' a w)→Oper.wp P oi a w K' Q):zU P md l.toArray Q S m (fuel+1) listed a w:=by
 refine⟨fun h0=>absurd (hr▸h0) (by simp),fun j hj=>?_⟩
 rw [hr]at hj
 obtain rfl:j=i:=by simpa using hj
 refine wpOp_step (xH hn) fun K' hK=>by
  rw [if_pos hw]
  refine h K' fun a w hq=>hK a w ⟨fun⟨k,hk,hm⟩=>?_,hq⟩
  have hlt:k < listed.size:=by
   rcases Nat.lt_or_ge k listed.size with h' | h'
   ·exact h'
   ·simp [h']at hm
  have:=List.all_eq_true.1 hl k (List.mem_range.2 hlt)
  rw [hm,hk]at this
  cases this
theorem xD(hd:Region.ready md l.toArray listed= [])(hq:Q .normal a w):zU P md l.toArray Q S m fuel listed a w:=by
 cases fuel with
 | zero=>exact⟨hd,hq⟩
 | succ n=>exact⟨fun _=>hq,by rw [hd];simp⟩
end
theorem Rd.m0{w:World}{lo hi:Nat}{A:Option Addr}{cs:List Value}(h:Rd w lo hi A cs):Rd w 0 hi A cs:=h.more (Nat.zero_le _) (Nat.le_refl _)
theorem blo{p:Prop}(h:p:=by(repeat (first | exact Below.refl _ _ | exact Ext.refl _ | assumption | refine Below.drew ?_ | refine aeF ?_ _ | refine aex ?_ (by first | exact Nat.le_refl _ | assumption | (simp;done) | omega | (simp;omega)) _ | refine aeb ?_ (by assumption) (by first | exact Nat.le_refl _ | assumption | (simp;done) | omega | (simp;omega)) | refine Ext.drew ?_ | refine Ext.drewN ?_ _ | refine Ext.alloc ?_ _ | refine Ext.setCell ?_ (by first | assumption | (simp;done) | (simp;omega)) _ | refine Below.setCell ?_ (by first | assumption | (simp;done) | (simp;omega)) _ | refine Ext.trans ?_ (by assumption)))):p:=h
section
variable {P:Program} {l rest:List Oper} {Q:Exit→Act→World→Prop} {md:Region.Mode} {S:World→Prop} {oi:Oper} {fuel:Nat} {m:Nat→Bool} {listed:Array Bool} {a:Act} {w:World}
theorem tG(i:Nat){v:Value}(hn:l.drop i=oi::rest)(hrun: ∀w,S w→(execOp a.eval oi).run P w= .ok (.value v) w)(hS:S w)(h:wpAnyH P md l.toArray Q S fuel (listed.setIfInBounds i true) (a.put oi.dst v) w)
 (hc:(Region.noSelect l.toArray && Region.free md l.toArray listed i && (Region.ready md l.toArray listed).contains i && Region.wanted oi (yielded l.toArray a.tmps))=true:=by kernel_rfl)
 (hQ: ∀c a w,Q (.panic c) (a.put oi.dst v) w→Q (.panic c) a w:=by exact fun _ _ _ h=>h):wpAnyH P md l.toArray Q S (fuel+1) listed a w:=by
 simp only [Bool.and_eq_true]at hc
 exact anl i hn hc.1.1.1 hc.1.1.2 hc.1.2 hQ hc.2 hrun hS h
theorem tS(i:Nat){v:Value}(h:wpAnyH P md l.toArray Q S fuel (listed.setIfInBounds i true) (a.put oi.dst v) w)
 (hn:l.drop i=oi::rest:=by exact rfl) (hc:(Region.noSelect l.toArray && Region.free md l.toArray listed i && (Region.ready md l.toArray listed).contains i && Region.wanted oi (yielded l.toArray a.tmps))=true:=by kernel_rfl)
 (hQ: ∀c a w,Q (.panic c) (a.put oi.dst v) w→Q (.panic c) a w:=by exact fun _ _ _ h=>h)
 (hrun: ∀w,S w→(execOp a.eval oi).run P w= .ok (.value v) w:=by intro w hSw;(try dsimp only at hSw);go_simp <;> with_reducible rfl) (hS:S w:=by assumption):wpAnyH P md l.toArray Q S (fuel+1) listed a w:=tG i hn hrun hS h hc hQ
theorem sS(i:Nat)(h:wpAnyH P md l.toArray Q S fuel (listed.setIfInBounds i true) (a.put oi.dst undef) w)
 (hn:l.drop i=oi::rest:=by exact rfl) (hc:(Region.noSelect l.toArray && Region.free md l.toArray listed i && (Region.ready md l.toArray listed).contains i && !Region.wanted oi (yielded l.toArray a.tmps))=true:=by kernel_rfl)
 (hQ: ∀c a w,Q (.panic c) (a.put oi.dst undef) w→Q (.panic c) a w:=by exact fun _ _ _ h=>h) (hS:S w:=by assumption):wpAnyH P md l.toArray Q S (fuel+1) listed a w:=by
 simp only [Bool.and_eq_true,Bool.not_eq_true']at hc
 exact ao9 i hn hc.1.1.1 hc.1.1.2 hc.1.2 hQ hc.2 hS h
theorem oS(i:Nat)(h: ∀K':Act→World→Prop,Shut (∀a w,S w→(S w→wpAnyH P md l.toArray Q S fuel (listed.setIfInBounds i true) a w)→K' a w)→Oper.wp P oi a w K' Q)
 (hn:l.drop i=oi::rest:=by exact rfl) (hr:Region.ready md l.toArray listed= [i]:=by kernel_rfl) (hw:Region.wanted oi (yielded l.toArray a.tmps)=true:=by kernel_rfl):wpAnyH P md l.toArray Q S (fuel+1) listed a w:=ape i hn hr hw h
theorem mG(i:Nat){v:Value}(hn:l.drop i=oi::rest)(hrun: ∀w,S w→(execOp a.eval oi).run P w= .ok (.value v) w)(hS:S w)(h:zU P md l.toArray Q S m fuel (listed.setIfInBounds i true) (a.put oi.dst v) w)
 (hc:(Region.noSelect l.toArray && Region.free md l.toArray listed i && (Region.ready md l.toArray listed).contains i && ab9 md l.toArray m listed i && Region.wanted oi (yielded l.toArray a.tmps))=true:=by kernel_rfl)
 (hQ: ∀c a w,Q (.panic c) (a.put oi.dst v) w→Q (.panic c) a w:=by exact fun _ _ _ h=>h):zU P md l.toArray Q S m (fuel+1) listed a w:=by
 simp only [Bool.and_eq_true]at hc
 exact aaA i hn hc.1.1.1.1 hc.1.1.1.2 hc.1.1.2 hc.1.2 hQ hc.2 hrun hS h
theorem mS(i:Nat){v:Value}(h:zU P md l.toArray Q S m fuel (listed.setIfInBounds i true) (a.put oi.dst v) w)
 (hn:l.drop i=oi::rest:=by exact rfl) (hc:(Region.noSelect l.toArray && Region.free md l.toArray listed i && (Region.ready md l.toArray listed).contains i && ab9 md l.toArray m listed i && Region.wanted oi (yielded l.toArray a.tmps))=true:=by kernel_rfl)
 (hQ: ∀c a w,Q (.panic c) (a.put oi.dst v) w→Q (.panic c) a w:=by exact fun _ _ _ h=>h)
 (hrun: ∀w,S w→(execOp a.eval oi).run P w= .ok (.value v) w:=by intro w hSw;(try dsimp only at hSw);(try go_split_ands);go_simp <;> with_reducible rfl) (hS:S w:=by assumption):zU P md l.toArray Q S m (fuel+1) listed a w:=mG i hn hrun hS h hc hQ
end
end Go.Proofs.YtckaneapjpiocaaGreatDoor
