/- The texts Row, RowArg, Opens, Dat, Put, Oct, Str, Fld in one file. -/
import Derived.Lib.SmallJoins
import Derived.Deep.CondSized
import Derived.Deep.DeepCutAuto
import Derived.RangeFuncNested
import Derived.RangeFuncBound
import Derived.Shelf.RegionOpen
import Derived.OwnWalkIn
import Derived.LoopNIn
import Derived.LoopIn
import Derived.Test.YtckaneapjpiocaaGreatDoorQ2
set_option linter.unusedVariables false
set_option linter.unusedSimpArgs false
set_option maxHeartbeats 2000000
set_option maxRecDepth 100000
namespace Go.Proofs.YtckaneapjpiocaaGreatDoor
open Go.RowKit Go.ChangeShapes Go.WideShapes Go.Deep Go.Joins
section
variable {H:Type} {enc:TypeId×Value→H} {P:Program}
theorem ady(hl:laidOutB P=true){W W':World}(hb:Ext W W'){sp:Nat→Bool}: ∀(ts:List TypeId) (vs:List Value) (ds:List (DataW H)) (ps:List MemPlace),
 (∀t∈ts,P.readableRec t=true∧t < P.types.size)→DataW.TrodAll enc P W 0 (fun _=>true) true ts vs ds ps→(∀x∈ps,x.block < W.heap.size)→(∀x∈ps,sp x.block=true)→
 DataW.TrodAll enc P W' 0 sp true ts vs ds ps
 | [], [], [],_,_,h,_,_=>h
 | t::ts,v::vs,d::ds,_,hts,h,hlt,hsp=>by
   obtain⟨p,q,h1,h2,rfl⟩:=h
   have ht:=hts t (by simp)
   refine⟨p,q,WideElems.Trod_stays hl ht.1 ht.2 h1 (fun x hx=>Below.same hb (hlt x (by simp [hx]))) (fun x hx=>hsp x (by simp [hx])),
    ady hl hb ts vs ds q (fun t' h'=>hts t' (by simp [h'])) h2 (fun x hx=>hlt x (by simp [hx])) (fun x hx=>hsp x (by simp [hx])),rfl⟩
 | [], [],_::_,_,_,h,_,_=>h.elim
 | [],_::_,_,_,_,h,_,_=>h.elim
 | _::_, [],_,_,_,h,_,_=>h.elim
 | _::_,_::_, [],_,_,h,_,_=>h.elim
theorem ae6{f:Func}{s:ChangeSpec}{W W':World}{args:Array Value}{ds gs:List (DataW H)}{before:List MemPlace}{tb:TypeId}(hv:s.vars= [])
 (hW:DataW.Whole enc P f.params.toList s.vars false W args.toList ds gs before) (hl:laidOutB P=true) (hts:f.params.toList.all (fun t=>P.readableRec t && decide (t < P.types.size))=true)
 (hr:(s.fn H (ds++gs)).results= [.lit (.bool true)]) (ha:(s.fn H (ds++gs)).args=ds) (hvs:(s.fn H (ds++gs)).vars= []) (ht:f.resultTypes= #[tb]) (hu:P.underlying tb=some .bool) (hb:Ext W W'):
 s.post enc P f false true false false W args (.bool true) W':=by
 have hlt: ∀p∈before,p.block < W.heap.size:=fun p hp=>hW.lt p hp
 obtain⟨p,q,hA,hV,rfl,hz,hn⟩:=id hW
 rw [hv]at hV
 obtain⟨_,rfl⟩:=trodVars_none hV
 simp only [List.append_nil]at hlt
 have hts': ∀t∈f.params.toList,P.readableRec t=true∧t < P.types.size:=fun t h=>by
  have:=List.all_eq_true.1 hts t h
  simpa using this
 refine⟨ds,gs,p++ [], [],p, [],hW,?_,?_,?_,?_,fun h=>by cases h⟩
 ·rw [hr,ht]
  exact trodAll_mk1 (shut_bool hu true)
 ·rw [ha]
  exact ady hl hb _ _ _ _ hts' hA hlt (fun x hx=>by simpa using hlt x hx)
 ·rw [hvs,hv]
  rfl
 ·exact World.keptBut_mono (fun x hx=>⟨by simpa using hx,Or.inr (Or.inl hx)⟩) (Below.frame hb (· ∈p))
end
section
variable {H:Type} {enc:TypeId×Value→H} {P:Program} {w:World} {base:Nat} {spare:Nat→Bool} {held:Bool}
theorem aiZ{w:World}{a:Addr}{n:Nat}{v:Value}(h:w.cell? (a.add n)=some v)(h0: ∃u,w.cell? a=some u):a=⟨a.block,a.off,none⟩:=by
 obtain⟨u,hu⟩:=h0
 obtain⟨b,o,s⟩:=a
 unfold World.cell? at hu
 cases s with
 | none=>rfl
 | some s=>
   simp at hu
   split at hu <;> simp at hu
theorem aeQ{w:World}{a:Addr}{v:Value}(h:w.cell? a=some v):a.block < w.heap.size:=World.block_lt_of_cell? w a h
end
section
variable {H:Type} {enc:TypeId×Value→H} {P:Program} {w:World} {spare:Nat→Bool} {held:Bool}
theorem acY{w:World}{a:Addr}{cs:List Value}(h: ∀i u,cs[i]?=some u→w.cell? (a.add i)=some u):Rd w 0 w.heap.size (some a) cs:=fun hn=>by
 have hl:0 < cs.length:=by
  rcases Nat.eq_zero_or_pos cs.length with h0 | h0
  ·exact absurd (List.eq_nil_of_length_eq_zero h0) hn
  ·exact h0
 have h0:=h 0 _ (List.getElem?_eq_getElem hl)
 have h0':w.cell? a=some (cs[0]'hl):=by simpa [Addr.add]using h0
 have ha:=aiZ h0 ⟨_,h0'⟩
 refine⟨a.block,a.off,by rw [←ha],Nat.zero_le _,aeQ h0',fun j u hj=>?_⟩
 have:=h j u hj
 rw [ha,xS]at this
 exact this
end
structure Sl (α:Type) where
 A:Option Addr
 n:Nat
 c:Nat
 xs:List α
def Sl.val{α:Type}(s:Sl α):Value:= .slice s.A s.n s.c
structure Sl.In {α:Type} (P:Program) (w:World) (e:TypeId) (cells:α→List Value) (I:α→Prop) (s:Sl α):Prop where
 len:s.n=s.xs.length
 le:s.n≤s.c
 cap:s.c≤maxLen
 bytes:s.n * P.bytesOf e≤reachBytes
 rd:Rd w 0 w.heap.size s.A (s.xs.flatMap cells)
 all: ∀x∈s.xs,I x
section
variable {H:Type} {enc:TypeId×Value→H} {P:Program} {w:World} {t e:TypeId} {α β:Type}
def zz(enc:TypeId×Value→H)(P:Program)(w:World)(t:TypeId)(cells:α→List Value)(I:α→Prop):Prop:=
 ∀(spare:Nat→Bool) (held:Bool) (fuel:Nat) (cs:List Value) (x:DataW H×List MemPlace),DataW.trod enc P w 0 spare held fuel t cs=some x→(∀n∈x.1.weights P t,n≤reachBytes)→ ∃a,cs=cells a∧I a
theorem zS{k:IntKind}(ht:P.underlying t=some (.int k)):zz enc P w t (fun z:Int=> [.int k z]) (fun z=>k.min≤z∧z≤k.max):=fun _ _ _ _ _ h _=>by
 obtain⟨n,rfl,_,hw⟩:=DataW.trod_int ht h
 simp only [Lit.wf,Bool.and_eq_true,decide_eq_true_eq]at hw
 exact⟨n,rfl,hw⟩
theorem ae9(ht:P.underlying t=some .bool):zz enc P w t (fun z:Bool=> [.bool z]) (fun _=>True):=fun _ _ _ _ _ h _=>by
 obtain⟨n,rfl,_⟩:=DataW.trod_bool ht h
 exact⟨n,rfl,trivial⟩
theorem yq(ht:P.underlying t=some .string):zz enc P w t (fun s:ByteArray=> [.string s]) (fun s=>s.size≤reachBytes):=fun _ _ _ _ _ h hw=>by
 obtain⟨s,rfl,rfl,_⟩:=DataW.trod_string ht h
 refine⟨s,rfl,?_⟩
 have:=hw s.data.toList.length (by simp [DataW.weights])
 rw [Array.length_toList]at this
 exact this
theorem zz.map{cells:α→List Value}{I:α→Prop}{cells':β→List Value}{I':β→Prop}(h:zz enc P w t cells I)(f:α→β)(hc: ∀a,I a→cells a=cells' (f a))(hi: ∀a,I a→I' (f a)):zz enc P w t cells' I':=fun _ _ _ _ _ h1 h2=>by
 obtain⟨a,rfl,ha⟩:=h _ _ _ _ _ h1 h2
 exact⟨f a,hc a ha,hi a ha⟩
theorem adt{cells:α→List Value}{size:Nat}(hs: ∀a,(cells a).length=size)(xs:List α)(k j:Nat)(hj:j < size)(hk:k < xs.length):(xs.flatMap cells)[k * size+j]?=(cells xs[k])[j]?:=by
 induction xs generalizing k with
 | nil=>simp at hk
 | cons x xs ih=>
   rw [List.flatMap_cons]
   cases k with
   | zero=>rw [List.getElem?_append_left (by rw [hs];omega)];simp
   | succ k=>
     rw [List.getElem?_append_right (by rw [hs,Nat.succ_mul];omega),hs,show(k+1) * size+j - size=k * size+j by rw [Nat.succ_mul];omega,ih k (by simpa using hk)]
     simp
theorem aan{cells:α→List Value}{size:Nat}(hs: ∀a,(cells a).length=size)(xs:List α):(xs.flatMap cells).length=xs.length * size:=by
 induction xs with
 | nil=>simp
 | cons x xs ih=>rw [List.flatMap_cons,List.length_append,ih,hs,List.length_cons,Nat.succ_mul];omega
theorem ahr{l:List (DataW H)}{d:DataW H}(h:d∈l): ∀n∈d.weights P e,n∈DataW.weightsAll P e l:=by
 induction l with
 | nil=>cases h
 | cons x l ih=>
   intro n hn
   simp only [DataW.weightsAll,List.mem_append]
   rcases List.mem_cons.1 h with rfl | h
   ·exact .inl hn
   ·exact .inr (ih h n hn)
theorem yz(size:Nat){cells:α→List Value}{I:α→Prop}(ht:P.underlying t=some (.slice e))(hC:P.cellsOf e=size)(h0:0 < size)(hs: ∀a,(cells a).length=size)(el:zz enc P w e cells I):
 zz enc P w t (fun s:Sl α=> [s.val]) (Sl.In P w e cells I):=fun spare held fuel cs x h hw=>by
 subst hC
 rcases open_slice ht h with⟨rfl,rfl⟩ | ⟨a,len,cap,m,n,D,Pl,rfl,_,hl,hm,hmm,rfl,hi⟩
 ·exact⟨⟨none,0,0, []⟩,rfl,⟨rfl,Nat.le_refl _,Nat.zero_le _,by simp,Rd.nil,fun _ h=>by simp at h⟩⟩
 ·have hnm:len≤m:=by rw [hmm];split <;> omega
  have hb:len * P.bytesOf e≤reachBytes:=by
   have:=hw _ (by simp only [DataW.weights,ht];exact List.mem_cons_self)
   simp only [List.length_map,List.length_range]at this
   exact Nat.le_trans (Nat.mul_le_mul_right _ (by omega)) this
  rcases Nat.eq_zero_or_pos len with hlen | hlen
  ·subst hlen
   exact⟨⟨some a,0,cap, []⟩,rfl,⟨rfl,hl,hm,hb,Rd.nil,fun _ h=>by simp at h⟩⟩
  ·have one: ∀i,i < len→ ∃y:α,I y∧ ∀j u,(cells y)[j]?=some u→w.cell? (a.add (i * P.cellsOf e+j))=some u:=by
    intro i hil
    obtain⟨cs',hc,ht'⟩:=hi i (by omega)
    obtain⟨y,rfl,hy⟩:=el _ _ _ _ _ ht' (fun n hn=>hw n (by
     simp only [DataW.weights,ht,List.mem_cons,List.mem_append]
     exact .inr (.inl (ahr (List.mem_map_of_mem (List.mem_range.2 hil)) n hn))))
    obtain⟨_,_,hat⟩:=World.cells?_some hc
    refine⟨y,hy,fun j u hu=>?_⟩
    have hj:j < P.cellsOf e:=by
     have:=(List.getElem?_eq_some_iff.1 hu).1
     rwa [hs]at this
    rw [←Go.Deep.add_add,hat j hj,hu]
   have key: ∀i,∃y:α,i < len→I y∧ ∀j u,(cells y)[j]?=some u→w.cell? (a.add (i * P.cellsOf e+j))=some u:=by
    intro i
    by_cases hil:i < len
    ·obtain⟨y,h1,h2⟩:=one i hil
     exact⟨y,fun _=>⟨h1,h2⟩⟩
    ·obtain⟨y,_⟩:=one 0 hlen
     exact⟨y,fun h=>absurd h hil⟩
   obtain⟨g,hg⟩:=Classical.axiomOfChoice key
   refine⟨⟨some a,len,cap,(List.range len).map g⟩,rfl,⟨by simp,hl,hm,hb,acY fun i u hu=>?_,fun x hx=>?_⟩⟩
   ·have hil:i < len * P.cellsOf e:=by
     have:=(List.getElem?_eq_some_iff.1 hu).1
     rw [aan hs]at this
     simpa using this
    have hk:i / P.cellsOf e < len:=Nat.div_lt_of_lt_mul (by rw [Nat.mul_comm];exact hil)
    have hij:i / P.cellsOf e * P.cellsOf e+i % P.cellsOf e=i:=Nat.div_add_mod' i (P.cellsOf e)
    rw [←hij,adt hs _ _ _ (Nat.mod_lt _ h0) (by simpa using hk)]at hu
    simp only [List.getElem_map,List.getElem_range]at hu
    rw [←hij]
    exact(hg _ hk).2 _ u hu
   ·simp only [List.mem_map,List.mem_range]at hx
    obtain⟨i,hil,rfl⟩:=hx
    exact(hg i hil).1
def zi(enc:TypeId×Value→H)(P:Program)(w:World)(L:Nat)(fs:List Field)(off:Nat)(cells:α→List Value)(I:α→Prop):Prop:=
 ∀(spare:Nat→Bool) (held:Bool) (fuel:Nat) (cs:List Value) (ys:List (DataW H×List MemPlace)),cs.length=L→ys.length=fs.length→
  (∀(i:Nat) (f:Field),fs[i]?=some f→DataW.trod enc P w 0 spare held fuel f.type ((cs.drop f.offset).take (P.cellsOf f.type))=ys[i]?)→
  (∀n∈DataW.weightsEach P (fs.map (·.type)) (ys.map (·.1)),n≤reachBytes)→ ∃a,cs.drop off=cells a∧I a
theorem zi.nil{L:Nat}:zi enc P w L [] L (fun _:Unit=> []) (fun _=>True):=fun _ _ _ cs _ hl _ _ _=>⟨(),List.drop_eq_nil_of_le (by omega),trivial⟩
theorem zi.cons(size:Nat){L off:Nat}{f:Field}{fs:List Field}{cells:α→List Value}{I:α→Prop}{cells':β→List Value}{I':β→Prop}(h:zz enc P w f.type cells I)(ho:f.offset=off)(hc:P.cellsOf f.type=size)
 (r:zi enc P w L fs (off+size) cells' I'):zi enc P w L (f::fs) off (fun x:α×β=>cells x.1++cells' x.2) (fun x=>I x.1∧I' x.2):=fun spare held fuel cs ys hl hy hf hw=>by
 subst ho hc
 cases ys with
 | nil=>simp at hy
 | cons y ys=>
   obtain⟨a,ha,hi⟩:=h _ _ _ _ y (hf 0 f rfl) (fun n hn=>hw n (by simp only [List.map_cons,DataW.weightsEach,List.mem_append];exact .inl hn))
   obtain⟨b,hb,hj⟩:=r spare held fuel cs ys hl (by simpa using hy) (fun i g hg=>hf (i+1) g hg) (fun n hn=>hw n (by simp only [List.map_cons,DataW.weightsEach,List.mem_append];exact .inr hn))
   refine⟨(a,b),?_,hi,hj⟩
   show _=cells a++cells' b
   rw [←ha,←hb,←List.drop_drop,List.take_append_drop]
theorem yj{L:Nat}{fs:Array Field}{cells:α→List Value}{I:α→Prop}(hu:P.underlying t=some (.struct fs))(hL:P.cellsOf t=L)(hF:zi enc P w L fs.toList 0 cells I):zz enc P w t cells I:=fun spare held fuel cs x h hw=>by
 obtain⟨ys,n,_,rfl,hlen,hyl,hf⟩:=DataW.trod_struct hu h
 obtain⟨a,ha,hi⟩:=hF spare held n cs ys (hlen.trans hL) (by simpa using hyl) (fun i f hif=>hf i f (by simpa using hif)) (fun n hn=>hw n (by simp only [DataW.weights,hu];exact hn))
 exact⟨a,by simpa using ha,hi⟩
theorem zz.param_struct{fs:Array Field}{cells:α→List Value}{I:α→Prop}(h:zz enc P w t cells I)(hu:P.underlying t=some (.struct fs)){r:Reach}{b0:Nat}{spare:Nat→Bool}{held:Bool}{v:Value}{d:DataW H}{p:List MemPlace}
 (hv:Value.okWide P w r b0 t v) (ht:DataW.Trod enc P w 0 spare held t v d p) (hw: ∀n∈d.weights P t,n≤reachBytes): ∃a,v= .agg (cells a).toArray∧I a:=by
 obtain⟨cs,rfl,_⟩:=okWide_struct hu hv
 obtain⟨fuel,hf⟩:=ht
 obtain⟨a,ha,hi⟩:=h _ _ _ _ _ hf hw
 exact⟨a,by rw [←ha];rfl,hi⟩
theorem zz.param_slice{I:Sl α→Prop}(h:zz enc P w t (fun s:Sl α=> [s.val]) I)(ht:P.underlying t=some (.slice e)){r:Reach}{b0:Nat}{spare:Nat→Bool}{held:Bool}{v:Value}{d:DataW H}{p:List MemPlace}
 (hv:Value.okWide P w r b0 t v) (htr:DataW.Trod enc P w 0 spare held t v d p) (hw: ∀n∈d.weights P t,n≤reachBytes): ∃s:Sl α,v=s.val∧I s:=by
 obtain⟨A,n,c,rfl⟩:=okWide_slice ht hv
 obtain⟨fuel,hf⟩:=htr
 obtain⟨a,ha,hi⟩:=h _ _ _ _ _ hf hw
 exact⟨a,by simpa [Value.cells]using ha,hi⟩
end
theorem aaP{a b:Bool}(h:a=b):Ending.returned (.bool a)=Ending.returned (.bool b):=by rw [h]
theorem al5{k:IntKind}{a b:Int}(h:a=b):Ending.returned (.int k a)=Ending.returned (.int k b):=by rw [h]
theorem anc{W w1:World}(hb:Ext W w1):(∀b o,b < W.heap.size→w1.cell? ⟨b,o,none⟩=W.cell? ⟨b,o,none⟩)∧(∀b o,b < W.heap.size→w1.frozen? ⟨b,o,none⟩=W.frozen? ⟨b,o,none⟩):=
 ⟨fun b o h=>Below.cell (p:=⟨b,o,none⟩) hb h,fun b o h=>Below.frozen (p:=⟨b,o,none⟩) hb h⟩
theorem afd{P:Program}{f:FuncId}{fn:Func}{c:Code}(hf:P.funcs[f]?=some fn)(hname:(fn.name == "runtime.NumGoroutine")=false)(hb:fn.body=some c): ∀args w,(callFunc f args).run P w= .ok (.enter f args) w:=fun args w=>by
 have h1:fn.name≠ "runtime.NumGoroutine" :=by simpa using hname
 simp [callFunc,hf,h1,hb]
theorem zh{α:Type}{cells:α→List Value}{size:Nat}(hs: ∀a,(cells a).length=size)(h0:0 < size){w:World}{lo hi:Nat}{A:Option Addr}{xs:List α}(h:Rd w lo hi A (xs.flatMap cells)){k:Nat}(hk:k < xs.length):
 ∃b o,A=some ⟨b,o,none⟩∧lo≤b∧b < hi∧ ∀j u,(cells xs[k])[j]?=some u→w.cell? ⟨b,o+k * size+j,none⟩=some u:=by
 obtain⟨b,o,h1,h2,h3,h4⟩:=h (fun e=>by
  have:=aan hs xs
  rw [e]at this
  have:=Nat.mul_pos (show 0 < xs.length by omega) h0
  simp at *
  omega)
 refine⟨b,o,h1,h2,h3,fun j u hu=>?_⟩
 have hj:j < size:=by
  have:=(List.getElem?_eq_some_iff.1 hu).1
  rwa [hs]at this
 rw [Nat.add_assoc]
 exact h4 _ u (by rw [adt hs xs k j hj hk];exact hu)
structure Sl.At {α:Type} (w:World) (lo hi:Nat) (cells:α→List Value) (I:α→Prop) (s:Sl α):Prop where
 len:s.n=s.xs.length
 le:s.n≤s.c
 cap:s.c≤maxLen
 rd:Rd w lo hi s.A (s.xs.flatMap cells)
 all: ∀x∈s.xs,I x
theorem Sl.At.imp{α:Type}{w w':World}{lo hi lo' hi':Nat}{cells:α→List Value}{I I':α→Prop}{s:Sl α}(h:Sl.At w lo hi cells I s)(hr:Rd w lo hi s.A (s.xs.flatMap cells)→Rd w' lo' hi' s.A (s.xs.flatMap cells))(hi: ∀x,I x→I' x):Sl.At w' lo' hi' cells I' s:=
 ⟨h.len,h.le,h.cap,hr h.rd,fun x hx=>hi x (h.all x hx)⟩
def aoG(b:UInt8):List Value:= [.int .u8 (b.toNat:Int)]
theorem agn(l:List UInt8):l.flatMap aoG=bytes l:=by
 induction l with
 | nil=>rfl
 | cons b l ih=>rw [List.flatMap_cons,ih];rfl
abbrev Oct:=Sl UInt8
abbrev Oct.At(w:World)(lo hi:Nat)(s:Oct):Prop:=Sl.At w lo hi aoG (fun _=>True) s
theorem Oct.At.rdb{w:World}{lo hi:Nat}{s:Oct}(h:Oct.At w lo hi s):Rd w lo hi s.A (bytes s.xs):=by rw [←agn];exact h.rd
def octv(s:Oct):List Value:= [s.val]
structure Wrt where
 pos:Int
 data:Oct
def Wrt.cells(x:Wrt):List Value:= [.int .i64 x.pos,x.data.val]
structure Wrt.At (w:World) (lo hi:Nat) (x:Wrt):Prop where
 p0: -9223372036854775808≤x.pos
 p1:x.pos≤9223372036854775807
 data:Oct.At w lo hi x.data
structure Dev where
 secs:Sl Oct
 waits:Sl Wrt
def Dev.cells(d:Dev):List Value:= [d.secs.val,d.waits.val]
structure Dev.At (w:World) (lo hi:Nat) (d:Dev):Prop where
 secs:Sl.At w lo hi octv (Oct.At w lo hi) d.secs
 waits:Sl.At w lo hi Wrt.cells (Wrt.At w lo hi) d.waits
section
variable {w w':World} {lo hi lo' hi':Nat}
theorem Oct.At.imp{s:Oct}(h:Oct.At w lo hi s)(hr: ∀A cs,Rd w lo hi A cs→Rd w' lo' hi' A cs):Oct.At w' lo' hi' s:=Sl.At.imp h (hr _ _) (fun _ h=>h)
theorem Wrt.At.imp{x:Wrt}(h:Wrt.At w lo hi x)(hr: ∀A cs,Rd w lo hi A cs→Rd w' lo' hi' A cs):Wrt.At w' lo' hi' x:=⟨h.p0,h.p1,Oct.At.imp h.data hr⟩
theorem Dev.At.imp{d:Dev}(h:Dev.At w lo hi d)(hr: ∀A cs,Rd w lo hi A cs→Rd w' lo' hi' A cs):Dev.At w' lo' hi' d:=
 ⟨Sl.At.imp h.secs (hr _ _) (fun _ hx=>Oct.At.imp hx hr),Sl.At.imp h.waits (hr _ _) (fun _ hx=>Wrt.At.imp hx hr)⟩
theorem abF(e:Ext w w')(hh:hi≤w.heap.size): ∀A cs,Rd w lo hi A cs→Rd w' lo w'.heap.size A cs:=fun _ _ h=>Rd.at h (Below.mono e hh) hh
theorem Dev.At.on{d:Dev}(h:Dev.At w lo hi d)(e:Ext w w')(hh:hi≤w.heap.size):Dev.At w' lo w'.heap.size d:=h.imp (abF e hh)
theorem Oct.At.on{d:Oct}(h:Oct.At w lo hi d)(e:Ext w w')(hh:hi≤w.heap.size):Oct.At w' lo w'.heap.size d:=Oct.At.imp h (abF e hh)
end
open Go.Shelf
attribute [local go_sem] Oper.semAt_some
def acw(Bs b m:Nat)(W W':World):Prop:=
 (∀v,W.cell? ⟨Bs,0,none⟩=some v→W'.cell? ⟨Bs,0,none⟩=some v)∧ ∀j,j < m→(∃v:Int,W.cell? ⟨b,j,none⟩=some (.int .u8 v))→ ∃v:Int,W'.cell? ⟨b,j,none⟩=some (.int .u8 v)
theorem ajj(Bs b m:Nat)(W:World):acw Bs b m W W:=⟨fun _ h=>h,fun _ _ h=>h⟩
theorem aid{Bs b m:Nat}{A B C:World}(h:acw Bs b m A B)(k:acw Bs b m B C):acw Bs b m A C:=⟨fun v hv=>k.1 v (h.1 v hv),fun j hj hv=>k.2 j hj (h.2 j hj hv)⟩
theorem anR{Bs b m:Nat}{w:World}(W:World)(l:Nat)(o o':Obj)(_:w.heap.size≤l)(h:W.heap[l]?=some o)(hc:o.isCells=false)(_:o.isWalk=false):acw Bs b m W (W.putObj l o'):=by
 have key: ∀(p:Addr) v,W.cell? p=some v→(W.putObj l o').cell? p=some v:=fun p v hv=>by
  have hne:p.block≠l:=by
   rintro rfl
   unfold World.cell? at hv
   rw [h]at hv
   cases o <;> simp [Obj.isCells]at hc hv
  rw [World.cell?_of_block (World.putObj_heap_other hne)]
  exact hv
 exact⟨fun v hv=>key _ v hv,fun j _ ⟨v,hv⟩=>⟨v,key _ _ hv⟩⟩
abbrev agx(m:Nat):={ i:Nat // i < m }×Int
def aep(m:Nat)(x:agx m):Array Value:= #[.int .i64 (x.1.1:Int),.int .u8 x.2]
theorem amg(F:Fence)(n:Nat)(hf:F.fn 219)(hro:F.round=none)(hn:1≤n)(l Bs b m:Nat)(hm:m≤8)(J Jx:List (agx m)→World→Prop)
 (hY: ∀pre x W,J pre W→pre.length < m→YieldAt F (n - 1) Tryz.prog l (aep m x) W fun e W'=>
   (e= .returned (.bool true)∧J (pre++ [x]) W'∧acw Bs b m W W')∨(e= .returned (.bool false)∧Jx (pre++ [x]) W'))
 (W:World) (hBs:W.cell? ⟨Bs,0,none⟩=some (.slice (some ⟨b,0,none⟩) m m)) (hc: ∀j,j < m→ ∃v:Int,W.cell? ⟨b,j,none⟩=some (.int .u8 v)) (h0:J [] W):
 CallsIn F n Tryz.prog 219 #[.func (.yield l) #[] #[],.pointer (some ⟨Bs,0,none⟩)] W fun e W'=>(∃v,e= .returned v)∧
  ((∃ys:List (agx m),ys.map (·.1.1)=(List.range m).map (fun j=>m - 1 - j)∧J ys W')∨(∃pre,True∧Jx pre W')):=by
 refine callsIn_of_wp Tryz.func219 rfl hf ?_ hro
 simp only [Tryz.ntmps219,List.size_toArray,List.length_cons,List.length_nil,Nat.reduceAdd,Nat.reduceSub,Array.replicate_succ,Array.replicate_zero,List.push_toArray,List.append_toArray,List.nil_append,List.cons_append]
 gi_wp2
 gi_loopw [3] (fun i wr=> ∃(k:Nat) (pre:List (agx m)),k≤m∧i= .int .i64 ((m:Int) - 1 - k)∧pre.length=k∧pre.map (·.1.1)=(List.range k).map (fun j=>m - 1 - j)∧J pre wr∧acw Bs b m W wr)
  (fun i _=>(intOf i+1).toNat)
 case atStart=>exact⟨0, [],Nat.zero_le _,by simp,rfl,rfl,h0,ajj _ _ _ _⟩
 case round=>
  obtain⟨k,pre,hk,rfl,hpl,hpm,hJs,hkp⟩:=hrel
  have HP:=hiD hpm
  have HL:=hiD hpl
  clear hpm hpl
  have hB':=hkp.1 _ hBs
  by_cases hlt:k < m
  ·obtain⟨v,hv⟩:=hkp.2 (m - 1 - k) (by omega) (hc (m - 1 - k) (by omega))
   obtain⟨fn,tmps,assign,body,hy,hR⟩:=hY pre (⟨m - 1 - k,by omega⟩,v) wr hJs (by rw [HL.out];exact hlt)
   have hcast:((m - 1 - k:Nat):Int)=(m:Int) - 1 - k:=by omega
   simp only [aep,hcast]at hy
   clear hcast
   gi_wp2
   refine hR.mono ?_
   rintro e W3 (⟨rfl,hJ3,hk3⟩ | ⟨rfl,hJx3⟩)
   ·have hkp3:=aid hkp hk3
    gi_wp2
    go_roundw
    case rel=>
     refine⟨k+1,_,by omega,by congr 1;omega,?_,?_,hJ3,hkp3⟩
     ·rw [List.length_append,HL.out]
      rfl
     ·rw [List.map_append,HP.out,List.range_succ,List.map_append]
      rfl
    case measure=>simp [intOf];omega
   ·gi_wp2
    refine bodyPost_ret (results_none rfl _ _ _) rfl ?_
    exact⟨⟨_,rfl⟩,.inr ⟨_,trivial,hJx3⟩⟩
  ·obtain rfl:k=m:=by omega
   gi_wp2
   go_end0
   exact⟨⟨_,rfl⟩,.inl ⟨pre,HP.out,hJs⟩⟩
theorem ajt(F:Fence)(n:Nat)(hf:F.fn 219)(hro:F.round=none)(hn:1≤n)(Bs b m:Nat)(hm:m≤8)(w:World)(hbl:b < w.heap.size)(hBl:Bs < w.heap.size)
 (hBs:w.cell? ⟨Bs,0,none⟩=some (.slice (some ⟨b,0,none⟩) m m)) (hc: ∀j,j < m→ ∃v:Int,w.cell? ⟨b,j,none⟩=some (.int .u8 v)):
 SeqStopsK F n Tryz.prog 219 #[.pointer (some ⟨Bs,0,none⟩)] (aep m) (acw Bs b m) (fun ys=>ys.map (·.1.1)=(List.range m).map (fun j=>m - 1 - j)) (fun _=>True) m w:=
 fun l J Jx W hW _ _ hY h0=>amg F n hf hro hn l Bs b m hm J Jx hY W ((hW.cell (p:=⟨Bs,0,none⟩) hBl).trans hBs) (fun j hj=>by
  obtain⟨v,hv⟩:=hc j hj
  exact⟨v,(hW.cell (p:=⟨b,j,none⟩) hbl).trans hv⟩) h0
theorem ahG(F:Fence)(n:Nat)(hf:F.fn 190)(hro:F.round=none)(a:Option Addr)(len cap:Nat)(w:World):
 CallsIn F n Tryz.prog 190 #[.slice a len cap] w fun e w'=>e= .returned (.func (.func 219) #[] #[.pointer (some ⟨w.heap.size,0,none⟩)])∧w'=w.alloc (.cells #[.slice a len cap] 53):=by
 refine callsIn_of_wp Tryz.func190 rfl hf ?_ hro
 simp only [Tryz.ntmps190,List.size_toArray,List.length_cons,List.length_nil,Nat.reduceAdd,Nat.reduceSub,Array.replicate_succ,Array.replicate_zero,List.push_toArray,List.append_toArray,List.nil_append,List.cons_append]
 gi_wp2
 go_ret
 exact⟨rfl,rfl⟩
def bt(n:Int)(i:Nat):UInt8:=UInt8.ofNat ((n / (256:Int) ^ i) % 256).toNat
def zp(n:Int)(m:Nat):List UInt8:=(List.range m).map fun j=>bt n (m - 1 - j)
def qI(s:Int×List UInt8)(i:Nat):Int×List UInt8:=(s.1 / 256,s.2.set i (bt s.1 0))
def yI(n:Int)(m:Nat)(l:List Nat):Int×List UInt8:=l.foldl qI (n,List.replicate m 0)
theorem abU(n:Int)(m:Nat)(l:List Nat)(i:Nat):yI n m (l++ [i])=qI (yI n m l) i:=by simp [yI]
theorem adL(n:Int)(m:Nat)(l:List Nat):(yI n m l).2.length=m:=by
 unfold yI
 suffices h: ∀(s:Int×List UInt8),s.2.length=m→(l.foldl qI s).2.length=m from h _ (by simp)
 induction l with
 | nil=>exact fun s h=>h
 | cons i l ih=>exact fun s h=>ih _ (by simp [qI,h])
theorem agM(n:Int)(m k:Nat)(hk:k≤m):(yI n m ((List.range k).map (fun j=>m - 1 - j))).1=n / (256:Int) ^ k∧ ∀j,j < m→(yI n m ((List.range k).map (fun j=>m - 1 - j))).2[j]?=some (if m - k≤j then bt n (m - 1 - j)else 0):=by
 induction k with
 | zero=>
   refine⟨by simp [yI],fun j hj=>?_⟩
   simp [yI,hj]
   intro h
   omega
 | succ k ih=>
   obtain⟨h1,h2⟩:=ih (by omega)
   rw [List.range_succ,List.map_append,List.map_cons,List.map_nil,abU]
   generalize yI n m ((List.range k).map (fun j=>m - 1 - j))=s at *
   constructor
   ·rw [qI,h1,Int.ediv_ediv_of_nonneg (by exact Int.pow_nonneg (by omega)),Int.pow_succ]
   ·intro j hj
    simp only [qI]
    rw [List.getElem?_set]
    have hl:m - 1 - k < s.2.length:=by
     have:=h2 (m - 1 - k) (by omega)
     exact(List.getElem?_eq_some_iff.1 this).1
    by_cases e:m - 1 - k=j
    ·subst e
     rw [if_pos rfl,if_pos hl,if_pos (by omega)]
     congr 1
     rw [show m - 1 - (m - 1 - k)=k from by omega,h1,bt,bt]
     simp
    ·rw [if_neg e,h2 j hj]
     by_cases e2:m - k≤j
     ·rw [if_pos e2,if_pos (by omega)]
     ·rw [if_neg e2,if_neg (by omega)]
theorem ago(n:Int)(m:Nat):(yI n m ((List.range m).map (fun j=>m - 1 - j))).2=zp n m:=by
 obtain⟨_,h⟩:=agM n m m (Nat.le_refl _)
 apply List.ext_getElem?
 intro j
 by_cases hj:j < m
 ·rw [h j hj,if_pos (by omega),zp,List.getElem?_map,List.getElem?_range hj]
  rfl
 ·rw [List.getElem?_eq_none (by rw [adL];omega),List.getElem?_eq_none (by simp [zp];omega)]
theorem zo(n:Int)(m:Nat):(zp n m).length=m:=by simp [zp]
def yw(w:World)(g:Nat)(t:TypeId)(cs:Array Value):Prop:=w.heap[g]?=some (.cells cs t (0,0))
theorem yw.cell{w:World}{g:Nat}{t:TypeId}{cs:Array Value}(h:yw w g t cs)(i:Nat):w.cell? ⟨g,i,none⟩=cs[i]?:=by
 unfold yw at h
 unfold World.cell?
 rw [h]
 simp
theorem yw.frozen{w:World}{g:Nat}{t:TypeId}{cs:Array Value}(h:yw w g t cs)(i:Nat):w.frozen? ⟨g,i,none⟩=false:=by
 unfold yw at h
 simp [World.frozen?,h]
theorem yw.new(w:World)(t:TypeId)(cs:Array Value):yw (w.alloc (.cells cs t)) w.heap.size t cs:=heap_alloc_new w _
theorem yw.lt{w:World}{g:Nat}{t:TypeId}{cs:Array Value}(h:yw w g t cs):g < w.heap.size:=(Array.getElem?_eq_some_iff.1 h).1
theorem yw.alloc{w:World}{g:Nat}{t:TypeId}{cs:Array Value}(h:yw w g t cs)(o:Obj):yw (w.alloc o) g t cs:=(Below.heap_alloc w o g h.lt).trans h
theorem yw.set_{w:World}{g:Nat}{t:TypeId}{cs:Array Value}(h:yw w g t cs)(i:Nat)(u:Value):yw (w.setCell ⟨g,i,none⟩ u) g t (cs.setIfInBounds i u):=by
 unfold yw at h ⊢
 simp [World.setCell,Array.getElem?_modify,h]
theorem yw.far{w:World}{g:Nat}{t:TypeId}{cs:Array Value}(h:yw w g t cs){p:Addr}(hp:g≠p.block)(u:Value):yw (w.setCell p u) g t cs:=(Below.heap_setCell w p u g hp).trans h
theorem yw.kept{W W':World}{g:Nat}{t:TypeId}{cs:Array Value}{row:Option Nat}(h:yw W g t cs)(hg:W.grownBy W' row)(hr: ∀r,row=some r→ ∃o:Obj,W.heap[r]?=some o∧o.isCells=false):yw W' g t cs:=
 (hg.block g h.lt (fun e=>by
   obtain⟨o,ho,hc⟩:=hr g e.symm
   unfold yw at h
   rw [h]at ho
   cases ho
   cases hc)).trans h
theorem yw.own{w:World}{g:Nat}{t:TypeId}{base n:Nat}{cs:List Value}(h:yw w g t cs.toArray)(hb:base≤g)(hn:cs.length=n)(hm:n≤maxLen):w.ownsRow base t 1 (.slice (some ⟨g,0,none⟩) n n) n cs:=
 ⟨by omega,.inr ⟨g,n,cs.toArray,rfl,hb,h,Nat.le_refl _,hm,by simp [hn],by simp [←hn]⟩⟩
theorem ahu(n:Int)(m:Nat)(l:List Nat)(h1: -9223372036854775808≤n)(h2:n≤9223372036854775807): -9223372036854775808≤(yI n m l).1∧(yI n m l).1≤9223372036854775807:=by
 unfold yI
 suffices h: ∀(s:Int×List UInt8),-9223372036854775808≤s.1→s.1≤9223372036854775807→ -9223372036854775808≤(l.foldl qI s).1∧(l.foldl qI s).1≤9223372036854775807 from h _ h1 h2
 induction l with
 | nil=>exact fun s a b=>⟨a,b⟩
 | cons i l ih=>exact fun s a b=>ih _ (by simp only [qI];omega) (by simp only [qI];omega)
theorem afU(n:Int):((bt n 0).toNat:Int)=n % 256:=by
 have h1:0≤n % 256:=Int.emod_nonneg _ (by omega)
 have h2:n % 256 < 256:=Int.emod_lt_of_pos _ (by omega)
 simp only [bt,Int.pow_zero,Int.ediv_one]
 rw [UInt8.toNat_ofNat']
 omega
theorem aj4(l:List UInt8)(i:Nat)(b:UInt8):bytes (l.set i b)=(bytes l).set i (.int .u8 (b.toNat:Int)):=by
 simp [bytes,List.map_set]
theorem aaT:(Tryz.prog.info? 5).map (fun i=>(i.zero,i.size,i.bytes))=some (some (.int .u8 0),1,1):=by kernel_rfl
theorem amv(m:Nat):madeCells (Value.int .u8 0).cells m=(bytes (List.replicate m 0)).toArray:=by
 apply Array.toList_inj.1
 show(madeCells #[Value.int .u8 0] m).toList=_
 rw [toList_madeCells_one]
 simp [bytes]
theorem amj(m:Nat)(hm:m≤140737488355328)(u:World):(Instr.makeSlice 53 (.int .i64 (m:Int)) (.int .i64 (m:Int))).run Tryz.prog u= .ok (.slice (some ⟨u.heap.size,0,none⟩) m m) (u.alloc (.cells (bytes (List.replicate m 0)).toArray 5)):=by
 obtain⟨i0,hi0,hz0,hz1,hz2⟩:=info_parts aaT
 have h:=run_make (P:=Tryz.prog) u 53 5 i0 _ Tryz.underlying53 hi0 hz0 .i64 .i64 m m (by omega) (by omega) (by rw [hz2];omega) (by omega)
 rw [hz1,Int.toNat_natCast,Nat.mul_one,amv]at h
 exact h
theorem aoW(F:Fence)(n:Nat)(h3:F.fn 147)(h5:F.fn 190)(h6:F.fn 219)(hro:F.round=none)(hn:3≤n)(x size:Int)(m:Nat)(hm:m≤8)(hs:size=(m:Int))(w:World)(hx1: -9223372036854775808≤x)(hx2:x≤9223372036854775807):
 CallsIn F n Tryz.prog 147 #[.int .i64 x,.int .i64 size] w fun e W'=> ∃v,e= .returned v∧W'.ownsRow w.heap.size 5 1 v m (bytes (zp x m))∧Ext w W':=by
 subst hs
 have h1:1≤n:=by omega
 have hmk:=amj m (by omega)
 refine callsIn_of_wp_marks Tryz.func147 rfl h3 ?_ hro
 simp only [Tryz.ntmps147,List.size_toArray,List.length_cons,List.length_nil,Nat.reduceAdd,Nat.reduceSub,Array.replicate_succ,Array.replicate_zero,List.push_toArray,List.append_toArray,List.nil_append,List.cons_append]
 gi_wp2_with (gi_at_call 190;refine(ahG F (n - 1) h5 hro _ _ _ _).mono ?_;rintro e w' ⟨rfl,rfl⟩)
 have B0:yw ((((w.alloc (Obj.cells #[Value.int IntKind.i64 x] 3)).alloc (Obj.cells (bytes (List.replicate m 0)).toArray 5)).alloc (Obj.cells #[Value.slice (some { block:=w.heap.size+1,off:=0 }) m m] 53)).alloc (Obj.cells #[Value.slice (some { block:=w.heap.size+1,off:=0 }) m m] 53)) w.heap.size 3 #[.int .i64 x]:=(((yw.new w _ _).alloc _).alloc _).alloc _
 have B1:yw ((((w.alloc (Obj.cells #[Value.int IntKind.i64 x] 3)).alloc (Obj.cells (bytes (List.replicate m 0)).toArray 5)).alloc (Obj.cells #[Value.slice (some { block:=w.heap.size+1,off:=0 }) m m] 53)).alloc (Obj.cells #[Value.slice (some { block:=w.heap.size+1,off:=0 }) m m] 53)) (w.heap.size+1) 5 (bytes (List.replicate m 0)).toArray:=by
  have:=((yw.new (w.alloc (Obj.cells #[Value.int IntKind.i64 x] 3)) 5 (bytes (List.replicate m 0)).toArray).alloc (Obj.cells #[Value.slice (some { block:=w.heap.size+1,off:=0 }) m m] 53)).alloc (Obj.cells #[Value.slice (some { block:=w.heap.size+1,off:=0 }) m m] 53)
  rwa [World.size_alloc]at this
 have B2:yw ((((w.alloc (Obj.cells #[Value.int IntKind.i64 x] 3)).alloc (Obj.cells (bytes (List.replicate m 0)).toArray 5)).alloc (Obj.cells #[Value.slice (some { block:=w.heap.size+1,off:=0 }) m m] 53)).alloc (Obj.cells #[Value.slice (some { block:=w.heap.size+1,off:=0 }) m m] 53)) (w.heap.size+1+1) 53 #[Value.slice (some { block:=w.heap.size+1,off:=0 }) m m]:=by
  have:=(yw.new ((w.alloc (Obj.cells #[Value.int IntKind.i64 x] 3)).alloc (Obj.cells (bytes (List.replicate m 0)).toArray 5)) 53 #[Value.slice (some { block:=w.heap.size+1,off:=0 }) m m]).alloc (Obj.cells #[Value.slice (some { block:=w.heap.size+1,off:=0 }) m m] 53)
  rwa [World.size_alloc,World.size_alloc]at this
 have B3:yw ((((w.alloc (Obj.cells #[Value.int IntKind.i64 x] 3)).alloc (Obj.cells (bytes (List.replicate m 0)).toArray 5)).alloc (Obj.cells #[Value.slice (some { block:=w.heap.size+1,off:=0 }) m m] 53)).alloc (Obj.cells #[Value.slice (some { block:=w.heap.size+1,off:=0 }) m m] 53)) (w.heap.size+1+1+1) 53 #[Value.slice (some { block:=w.heap.size+1,off:=0 }) m m]:=by
  have:=yw.new (((w.alloc (Obj.cells #[Value.int IntKind.i64 x] 3)).alloc (Obj.cells (bytes (List.replicate m 0)).toArray 5)).alloc (Obj.cells #[Value.slice (some { block:=w.heap.size+1,off:=0 }) m m] 53)) 53 #[Value.slice (some { block:=w.heap.size+1,off:=0 }) m m]
  rwa [World.size_alloc,World.size_alloc,World.size_alloc]at this
 have hB:Below w.heap.size w ((((w.alloc (Obj.cells #[Value.int IntKind.i64 x] 3)).alloc (Obj.cells (bytes (List.replicate m 0)).toArray 5)).alloc (Obj.cells #[Value.slice (some { block:=w.heap.size+1,off:=0 }) m m] 53)).alloc (Obj.cells #[Value.slice (some { block:=w.heap.size+1,off:=0 }) m m] 53)):=
  (((Ext.refl w).alloc _).alloc _).alloc _ |>.alloc _
 generalize hW0:((((w.alloc (Obj.cells #[Value.int IntKind.i64 x] 3)).alloc (Obj.cells (bytes (List.replicate m 0)).toArray 5)).alloc (Obj.cells #[Value.slice (some { block:=w.heap.size+1,off:=0 }) m m] 53)).alloc (Obj.cells #[Value.slice (some { block:=w.heap.size+1,off:=0 }) m m] 53))=W0 at *
 have hz0:W0.heap.size=w.heap.size+1+1+1+1:=by rw [←hW0];simp
 clear hmk
 refine wpIn_rangeFunc_ownF hro h1 (gf:=219) (lb:= #[.pointer (some ⟨w.heap.size+1+1+1,0,none⟩)]) rfl h6 (enters_of Tryz.func219 (by kernel_rfl) rfl)
  (ajt F (n - 1) h6 hro (by omega) (w.heap.size+1+1+1) (w.heap.size+1) m hm W0 (by omega) (by omega) (B3.cell 0) (fun j hj=>⟨0,by rw [B1.cell j];simp [bytes,hj]⟩)) aid anR (Below.refl _ _) (fun _=>rfl)
  (fun pre W=>(yw W w.heap.size 3 #[.int .i64 (yI x m (pre.map (·.1.1))).1]∧yw W (w.heap.size+1) 5 (bytes (yI x m (pre.map (·.1.1))).2).toArray∧yw W (w.heap.size+1+1) 53 #[Value.slice (some { block:=w.heap.size+1,off:=0 }) m m])∧Below w.heap.size w W)
  (fun _ _ _=>False)
  (OwnFrom.and (Own.from (fun s A B row hs hg hr=>⟨hs.1.kept hg hr,hs.2.1.kept hg hr,hs.2.2.kept hg hr⟩) _) (ownFrom_below (Nat.le_refl _) (by omega)))
  (fun _ _ _ _ _ hs _ _=>hs)
  ⟨⟨B0,B1,B2⟩,hB⟩
  (fun y=> { tmps:= #[Value.int IntKind.i64 x,Value.int IntKind.i64 ↑m,Value.pointer (some { block:=w.heap.size,off:=0 }),
        undef,Value.slice none 0 0,Value.pointer (some { block:=w.heap.size+1+1,off:=0 }),Value.int IntKind.i64 (y.1.1:Int),
        Value.int IntKind.i64 ↑m,Value.int IntKind.i64 ↑m,Value.int IntKind.i64 ↑m,Value.int IntKind.i64 ↑m,
        Value.slice (some { block:=w.heap.size+1,off:=0 }) m m,
        Value.slice (some { block:=w.heap.size+1,off:=0 }) m m,
        Value.func (Fn.func 219) #[] #[Value.pointer (some { block:=w.heap.size+1+1+1,off:=0 })],Value.int IntKind.i64 (y.1.1:Int),
        Value.int IntKind.u8 y.2,undef,undef,undef,undef,undef,undef,undef,undef],defers:= [] }) ?assign ?body ?done ?stop
 case assign=>
  intro l y W K hK
  simp only [aep]
  gi_wp2
  exact hK
 case body=>
  rintro l pre ⟨⟨i,hi⟩,y⟩ W ⟨⟨C0,C1,C2⟩,hBW⟩ _
  have hbd:=ahu x m (pre.map (·.1.1)) hx1 hx2
  have hsl:=adL x m (pre.map (·.1.1))
  generalize hst:yI x m (pre.map (·.1.1))=st at *
  have c0:W.cell? ⟨w.heap.size,0,none⟩=some (.int .i64 st.1):=C0.cell 0
  have f0:=C0.frozen 0
  have c2:W.cell? ⟨w.heap.size+1+1,0,none⟩=some (Value.slice (some { block:=w.heap.size+1,off:=0 }) m m):=C2.cell 0
  obtain⟨u1,c1⟩: ∃u,W.cell? ⟨w.heap.size+1,i,none⟩=some u:=⟨_,by rw [C1.cell i];simp only [List.getElem?_toArray,bytes,List.getElem?_map];rw [List.getElem?_eq_getElem (by omega)];rfl⟩
  have f1:=C1.frozen i
  have HS:=hiD hst
  have HZ:=hiD hsl
  clear hst hsl
  gi_wp2
  have hbt:((bt st.1 0).toNat:Int)=st.1 % 256:=afU _
  refine⟨(KeepsOthers.setCell W _ _).trans (KeepsOthers.setCell _ _ _),⟨fun v hv=>?_,fun j hj ⟨v,hv⟩=>?_⟩,⟨?_,?_,?_⟩,?_⟩
  ·rw [World.cell?_setCell_other _ _ _ _ (by simp),World.cell?_setCell_other _ _ _ _ (by simp)]
   exact hv
  ·rw [World.cell?_setCell_other _ _ _ _ (by simp)]
   by_cases e:i=j
   ·subst e
    exact⟨_,World.cell?_setCell_same _ _ _ c1⟩
   ·exact⟨v,by rw [World.cell?_setCell_other _ _ _ _ (by simp)];exact hv⟩
  ·rw [List.map_append,List.map_cons,List.map_nil,abU,HS.out]
   exact(C0.far (p:=⟨w.heap.size+1,i,none⟩) (by simp) _).set_ 0 _
  ·rw [List.map_append,List.map_cons,List.map_nil,abU,HS.out]
   have h:=(C1.set_ i (.int .u8 (st.1 % 256))).far (p:=⟨w.heap.size,0,none⟩) (by simp) (.int .i64 (st.1 / 256))
   have e:(bytes st.2).toArray.setIfInBounds i (.int .u8 (st.1 % 256))=(bytes (qI st i).2).toArray:=by
    rw [List.setIfInBounds_toArray,qI,aj4,hbt]
   rw [e]at h
   exact h
  ·exact(C2.far (p:=⟨w.heap.size+1,i,none⟩) (by simp) _).far (p:=⟨w.heap.size,0,none⟩) (by simp;omega) _
  ·exact(hBW.setCell (p:=⟨w.heap.size+1,i,none⟩) (by simp) _).setCell (p:=⟨w.heap.size,0,none⟩) (by simp) _
 case done=>
  rintro D ys W hD hys ⟨⟨C0,C1,C2⟩,hBW⟩ hK
  rw [hys,ago]at C1
  have c2:W.cell? ⟨w.heap.size+1+1,0,none⟩=some (Value.slice (some { block:=w.heap.size+1,off:=0 }) m m):=C2.cell 0
  clear hys C0
  gi_wp2
  refine⟨by simp,.inl ⟨_,_,rfl,run_takeDeferred hK,?_⟩⟩
  have hne:w.heap.size+1≠D:=by omega
  have C1':yw (W.putObj D (.deferred none)) (w.heap.size+1) 5 (bytes (zp x m)).toArray:=(World.putObj_heap_other hne).trans C1
  exact⟨_,results_tmp rfl _ _ _,_,rfl,C1'.own (by omega) (by rw [yS,zo]) (by simp only [maxLen];omega),Below.trans hBW (belowK_b (w:=w) (Nat.le_refl _) W D _ _ (by omega) hK rfl rfl)⟩
 case stop=>
  rintro D c pre W _ _ h _
  exact h.elim
theorem qW(x size:Int)(m:Nat)(hm:m≤8)(hs:size=(m:Int))(w:World)(hx1: -9223372036854775808≤x)(hx2:x≤9223372036854775807):
 Calls Tryz.prog 147 #[.int .i64 x,.int .i64 size] w fun e W'=> ∃v,e= .returned v∧W'.ownsRow w.heap.size 5 1 v m (bytes (zp x m))∧Ext w W':=
 (callsIn_wide (n:=3)).1 (aoW Fence.wide 3 trivial trivial trivial rfl (Nat.le_refl _) x size m hm hs w hx1 hx2)
def val(l:List UInt8):Nat:=l.foldl (fun n c=>n * 256+c.toNat) 0
theorem aeX(l:List UInt8)(c:UInt8):val (l++ [c])=val l * 256+c.toNat:=by simp [val]
theorem abP(l:List UInt8):val l < 256 ^ l.length:=by
 suffices h: ∀(n:Nat) (k:Nat),n < 256 ^ k→l.foldl (fun n c=>n * 256+c.toNat) n < 256 ^ (k+l.length)by
  have:=h 0 0 (by omega)
  rwa [Nat.zero_add]at this
 induction l with
 | nil=>exact fun n k h=>h
 | cons c l ih=>
   intro n k h
   have hc:c.toNat < 256:=c.toNat_lt
   have:=ih (n * 256+c.toNat) (k+1) (by rw [Nat.pow_succ];omega)
   simp only [List.foldl_cons,List.length_cons]
   rw [show k+(l.length+1)=k+1+l.length from by omega]
   exact this
theorem agK(l:List UInt8)(k:Nat)(hk:k < l.length):val (l.take (k+1))=val (l.take k) * 256+l[k].toNat:=by
 rw [List.take_succ_eq_append_getElem hk,aeX]
theorem ah3(l:List UInt8)(k:Nat)(hk:k≤7):val (l.take k) < 72057594037927936:=by
 have h1:=abP (l.take k)
 have h2:(l.take k).length≤7:=Nat.le_trans (List.length_take_le _ _) hk
 exact Nat.lt_of_lt_of_le h1 (Nat.pow_le_pow_right (by omega) h2)
theorem alH(q y:Nat)(hq:q < 72057594037927936)(hy:y < 2 ^ 8):bits .or .u64 ((q:Int) * 256) (y:Int)=((q * 256+y:Nat):Int):=by
 have h1:q * 256 ||| y=q * 256+y:=by
  have:=Nat.shiftLeft_add_eq_or_of_lt hy q
  rw [Nat.shiftLeft_eq]at this
  exact this.symm
 have h2:((q:Int) * 256)=((q * 256:Nat):Int):=by omega
 rw [h2]
 show IntKind.u64.wrap ((BitVec.ofInt 64 ((q * 256:Nat):Int) ||| BitVec.ofInt 64 (y:Int)).toNat:Int)=_
 rw [BitVec.toNat_or,BitVec.ofInt_natCast,BitVec.ofInt_natCast,BitVec.toNat_ofNat,BitVec.toNat_ofNat,Nat.mod_eq_of_lt (by omega),Nat.mod_eq_of_lt (by omega),h1,IntKind.wrap_u64]
 omega
def qX(l:List UInt8):Int:=if l.length=0 then 8 else if 8 < l.length then 5 else if 4611686018427387903 < val l then 4 else 0
def yK(l:List UInt8):Int:=if l.length=0 then 0 else if 8 < l.length then 0 else if 4611686018427387903 < val l then 0 else val l
theorem aaI(w:World)(A:Option Addr)(n c lo hi:Nat)(l:List UInt8)(hn:n=l.length)(hm:n≤9223372036854775807)(hr:Rd w lo hi A (bytes l))(hh:hi≤w.heap.size):
 Calls Tryz.prog 156 #[.slice A n c] w fun e w'=>e= .returned (.tuple #[.int .i64 (yK l),.int .i64 (qX l)])∧Ext w w':=by
 have Hn:=hiD hn
 by_cases h0:n=0
 ·have hv:Hid (yK l=0∧qX l=8):=by rw [yK,qX,if_pos (by omega),if_pos (by omega)];exact⟨rfl,rfl⟩
  subst h0
  clear hn
  go_enter Tryz.func156,Tryz.ntmps156
  go_wp2_with fail
  go_ret2
  exact⟨by rw [hv.out.1,hv.out.2];rfl,Ext.refl _⟩
 ·by_cases h8:8 < n
  ·have hv:Hid (yK l=0∧qX l=5):=by rw [yK,qX,if_neg (by omega),if_pos (by omega),if_neg (by omega),if_pos (by omega)];exact⟨rfl,rfl⟩
   have b0:((n:Int) == 0)=false:=by simp;omega
   clear hn
   go_enter Tryz.func156,Tryz.ntmps156
   go_wp2_with fail
   go_ret2
   exact⟨by rw [hv.out.1,hv.out.2];rfl,Ext.refl _⟩
  ·have b0:((n:Int) == 0)=false:=by simp;omega
   clear hn
   go_enter Tryz.func156,Tryz.ntmps156
   go_wp2_with fail
   go_loopw [4,17] (fun v i wr=> ∃k:Nat,k≤n∧i= .int .i64 k∧v= .int .u64 (val (l.take k))∧Ext w wr) (fun _ i _=>n - (intOf i).toNat)
   case atStart=>exact⟨0,Nat.zero_le _,rfl,rfl,Ext.refl _⟩
   case round=>
    obtain⟨k,hk,rfl,rfl,e1⟩:=hrel
    by_cases hlt:k < n
    ·obtain⟨b1,o1,rfl,_,_,f0⟩:=ab4 (hr.ext e1 hh) (k:=k) (by rw [←Hn.out];omega)
     have hvt:=hiD (agK l k (by rw [←Hn.out];omega))
     have h7:=ah3 l k (by omega)
     have hc:=(l[k]'(by rw [←Hn.out];omega)).toNat_lt
     generalize l[k]'(by rw [←Hn.out];omega)=y at *
     generalize val (l.take k)=q at *
     go_wp2_with fail
     go_roundw
     case rel=>exact⟨k+1,by omega,by go_num,by rw [alH q y.toNat h7 hc,hvt.out],blo⟩
     case measure=>simp [intOf];omega
    ·obtain rfl:k=n:=by omega
     have ht:val (l.take k)=val l:=by rw [List.take_of_length_le (by rw [←Hn.out];exact Nat.le_refl _)]
     rw [ht]
     clear ht
     have hlt:=abP l
     have hl8:val l < 18446744073709551616:=Nat.lt_of_lt_of_le hlt (by
      have:l.length≤8:=by rw [←Hn.out];omega
      exact Nat.pow_le_pow_right (n:=256) (by omega) this)
     clear hlt
     have HN:Hid (¬l.length=0∧ ¬8 < l.length):=by rw [←Hn.out];exact⟨h0,h8⟩
     by_cases hbig:4611686018427387903 < val l
     ·have hv:Hid (yK l=0∧qX l=4):=by rw [yK,qX,if_neg HN.out.1,if_neg HN.out.2,if_neg HN.out.1,if_neg HN.out.2,if_pos hbig,if_pos hbig];exact⟨rfl,rfl⟩
      go_wp2_with fail
      go_ret2
      exact⟨by rw [hv.out.1,hv.out.2];rfl,e1⟩
     ·have hv:Hid (yK l=val l∧qX l=0):=by rw [yK,qX,if_neg HN.out.1,if_neg HN.out.2,if_neg HN.out.1,if_neg HN.out.2,if_neg hbig,if_neg hbig];exact⟨rfl,rfl⟩
      go_wp2_with fail
      go_ret2
      exact⟨by rw [hv.out.1,hv.out.2];rfl,e1⟩
theorem aoF(n:Int)(i:Nat):bt (n / 256) i=bt n (i+1):=by
 unfold bt
 rw [Int.ediv_ediv_of_nonneg (by omega),Int.pow_succ,Int.mul_comm]
theorem agi(n:Int)(m:Nat):zp n (m+1)=zp (n / 256) m++ [bt n 0]:=by
 unfold zp
 rw [List.range_succ,List.map_append]
 congr 1
 ·apply List.map_congr_left
  intro j hj
  rw [List.mem_range]at hj
  rw [aoF]
  congr 1
  omega
 ·simp
theorem ajA(n K:Int)(hK:0 < K):n % (K * 256)=(n / 256 % K) * 256+n % 256:=by
 have h1:=Int.emod_add_mul_ediv n 256
 have h2:=Int.emod_add_mul_ediv (n / 256) K
 have a1:0≤n % 256:=Int.emod_nonneg _ (by omega)
 have a2:n % 256 < 256:=Int.emod_lt_of_pos _ (by omega)
 have b1:0≤n / 256 % K:=Int.emod_nonneg _ (by omega)
 have b2:n / 256 % K < K:=Int.emod_lt_of_pos _ hK
 have e:n=((n / 256 % K) * 256+n % 256)+(K * 256) * (n / 256 / K):=by
  have:(K * 256) * (n / 256 / K)=256 * (K * (n / 256 / K)):=by rw [Int.mul_comm K 256,Int.mul_assoc]
  rw [this]
  omega
 have hr:n % (K * 256)=((n / 256 % K) * 256+n % 256) % (K * 256):=by
  conv=>lhs;rw [e]
  rw [Int.add_mul_emod_self_left]
 rw [hr,Int.emod_eq_of_lt (by omega) (by omega)]
theorem adr(n:Int)(m:Nat):(val (zp n m):Int)=n % (256:Int) ^ m:=by
 induction m generalizing n with
 | zero=>simp [zp,val,Int.emod_one]
 | succ m ih=>
   rw [agi,aeX,Int.pow_succ,ajA n _ (Int.pow_pos (by omega)),←ih (n / 256)]
   have:=afU n
   omega
theorem alZ(n:Int)(h1: -9223372036854775808≤n)(h2:n≤9223372036854775807):qX (zp n 8)=(if n < 0∨4611686018427387903 < n then 4 else 0)∧(¬(n < 0∨4611686018427387903 < n)→yK (zp n 8)=n):=by
 have hv:=adr n 8
 have hl:=zo n 8
 have hp:(256:Int) ^ 8=18446744073709551616:=by decide
 rw [hp]at hv
 unfold qX yK
 rw [hl]
 by_cases h:n < 0∨4611686018427387903 < n
 ·have hb:4611686018427387903 < val (zp n 8):=by omega
  simp [h,hb]
 ·have hb: ¬4611686018427387903 < val (zp n 8):=by omega
  rw [if_neg h,if_neg (by omega),if_neg (by omega),if_neg hb,if_neg (by omega),if_neg (by omega),if_neg hb]
  exact⟨rfl,fun _=>by omega⟩
theorem zv(s:ByteArray):s.data.toList.length=s.size:=by rw [Array.length_toList];rfl
theorem aam(W:World)(s:ByteArray)(cap:Nat)(e:TypeId)(fz:Nat×Nat):Rd (W.alloc (.cells (bytesRow s cap) e fz)) W.heap.size (W.heap.size+1) (some ⟨W.heap.size,0,none⟩) (bytes s.data.toList):=fun _=>by
 refine⟨_,_,rfl,Nat.le_refl _,Nat.lt_succ_self _,fun j u h=>?_⟩
 have h1:=heap_alloc_new W (.cells (bytesRow s cap) e fz)
 unfold World.cell?
 rw [h1]
 simp only [bytes,List.getElem?_map,Array.getElem?_toList]at h
 simp only [Nat.zero_add,Option.isSome_none,Bool.false_eq_true,if_false,bytesRow]
 have hj:j < s.data.size:=by
  rcases Nat.lt_or_ge j s.data.size with h' | h'
  ·exact h'
  ·rw [Array.getElem?_eq_none h']at h;cases h
 rw [Array.getElem?_append_left (by simpa using hj),Array.getElem?_map]
 exact h
theorem ql(s:ByteArray)(h:s.size=0):s=⟨#[]⟩:=by
 cases s with
 | mk d=>
   have:d= #[]:=Array.eq_empty_of_size_eq_zero h
   rw [this]
theorem abL{w:World}{lo hi:Nat}{A:Option Addr}{l:List ByteArray}(h:Rd w lo hi A (l.map Value.string)){k:Nat}(hk:k < l.length):
 ∃b o,A=some ⟨b,o,none⟩∧lo≤b∧b < hi∧w.cell? ⟨b,o+k,none⟩=some (.string l[k]):=by
 obtain⟨b,o,h1,h2,h3,h4⟩:=h (fun e=>by have:(l.map Value.string).length=l.length:=by simp
                                       rw [e]at this;simp at this;omega)
 exact⟨b,o,h1,h2,h3,h4 k _ (by rw [List.getElem?_map,List.getElem?_eq_getElem hk];rfl)⟩
def fE(s:ByteArray):Int:=if s.size < 8 then 8 else if 8 < s.size then 5 else qX s.data.toList
def fV(s:ByteArray):Int:=if s.size < 8 then 0 else if 8 < s.size then 0 else yK s.data.toList
theorem acL(s:ByteArray)(w:World)(hm:s.size≤9223372036854775807):
 Calls Tryz.prog 153 #[.string s] w fun e w'=>e= .returned (.tuple #[.int .i64 (fV s),.int .i64 (fE s)])∧Ext w w':=by
 by_cases h0:s.size < 8
 ·have hv:Hid (fV s=0∧fE s=8):=by rw [fV,fE,if_pos h0,if_pos h0];exact⟨rfl,rfl⟩
  go_enter Tryz.func153,Tryz.ntmps153
  go_wp2_with fail
  go_ret2
  exact⟨by rw [hv.out.1,hv.out.2];rfl,Ext.refl _⟩
 ·by_cases h8:8 < s.size
  ·have hv:Hid (fV s=0∧fE s=5):=by rw [fV,fE,if_neg h0,if_neg h0,if_pos h8,if_pos h8];exact⟨rfl,rfl⟩
   go_enter Tryz.func153,Tryz.ntmps153
   go_wp2_with fail
   go_ret2
   exact⟨by rw [hv.out.1,hv.out.2];rfl,Ext.refl _⟩
  ·have hv:Hid (fV s=yK s.data.toList∧fE s=qX s.data.toList):=by rw [fV,fE,if_neg h0,if_neg h0,if_neg h8,if_neg h8];exact⟨rfl,rfl⟩
   have hcv:=fun W=>run_bytes_of_string (P:=Tryz.prog) W 9 53 5 s Tryz.underlying9 Tryz.underlying53 Tryz.underlying5
   have hrd:=aam w s (grownCap w s.size 0 5) 5 ((bytesRow s (grownCap w s.size 0 5)).size,(bytesRow s (grownCap w s.size 0 5)).size+1)
   have HR:=hiD hrd
   clear hrd
   go_enter Tryz.func153,Tryz.ntmps153
   go_wp2_with fail
   clear hcv
   refine(aaI _ _ s.size _ _ _ s.data.toList (by rw [zv]) hm HR.out.drew (by simp)).mono ?_
   rintro e w2 ⟨rfl,e2⟩
   go_wp2_with fail
   go_ret2
   exact⟨by rw [hv.out.1,hv.out.2];rfl,blo⟩
theorem abd:(Tryz.prog.info? 9).map (fun i=>(i.zero,i.size,i.bytes))=some (some (.string .empty),1,16):=by kernel_rfl
def zm(z:Int):ByteArray:=⟨(zp z 8).toArray⟩
def ints(zs:List Int):List Value:=zs.map (Value.int .i64)
theorem adZ{w:World}{lo hi:Nat}{A:Option Addr}{l:List Int}(h:Rd w lo hi A (ints l)){k:Nat}(hk:k < l.length):
 ∃b o,A=some ⟨b,o,none⟩∧lo≤b∧b < hi∧w.cell? ⟨b,o+k,none⟩=some (.int .i64 l[k]):=by
 obtain⟨b,o,h1,h2,h3,h4⟩:=h (fun e=>by have:(ints l).length=l.length:=by simp [ints]
                                       rw [e]at this;simp at this;omega)
 exact⟨b,o,h1,h2,h3,h4 k _ (by rw [ints,List.getElem?_map,List.getElem?_eq_getElem hk];rfl)⟩
def qU(zs:List Int):List Value:=zs.map fun z=> .string (zm z)
theorem ajc(xs:List Int)(k:Nat)(hk:k < xs.length):qU (xs.take (k+1))=qU (xs.take k)++ [.string (zm xs[k])]:=by
 rw [List.take_succ_eq_append_getElem hk,qU,qU,List.map_append]
 rfl
theorem zI(w:World)(A:Option Addr)(n c:Nat)(zs:List Int)(hn:n=zs.length)(hr:Rd w 0 w.heap.size A (ints zs))(hb:n * 16≤140737488355328)(hwf: ∀z∈zs,-9223372036854775808≤z∧z≤9223372036854775807):
 Calls Tryz.prog 95 #[.slice A n c] w fun e w'=> ∃v,e= .returned v∧w'.ownsRow w.heap.size 9 1 v n (qU zs)∧Ext w w':=by
 obtain⟨i0,hi0,hz0,hz1,hz2⟩:=info_parts abd
 have Hn:=hiD hn
 have HW:=hiD hwf
 clear hn hwf
 go_enter Tryz.func95,Tryz.ntmps95
 go_wp2_with fail
 go_loopw [3,8] (fun v i wr=> ∃k:Nat,k≤n∧i= .int .i64 k∧wr.ownsRow w.heap.size 9 1 v k (qU (zs.take k))∧Ext w wr) (fun _ i _=>n - (intOf i).toNat)
 case atStart=>exact⟨0,Nat.zero_le _,rfl,World.ownsRow_nil _ _ _ _,Ext.refl _⟩
 case round=>
  obtain⟨k,hk,rfl,hown,e3⟩:=hrel
  by_cases hlt:k < n
  ·obtain⟨b1,o1,rfl,_,_,f0⟩:=adZ (hr.at (w':=wr) blo (Nat.le_refl _)) (k:=k) (by rw [←Hn.out];omega)
   have hy:=HW.out zs[k] (List.getElem_mem _)
   have htx:=hiD (ajc zs k (by rw [←Hn.out];omega))
   generalize zs[k]'(by rw [←Hn.out];omega)=y at *
   go_wp2_with fail
   clear f0
   refine(qW y _ 8 (Nat.le_refl _) rfl wr hy.1 hy.2).mono ?_
   rintro e w2 ⟨v2,rfl,hown2,e2⟩
   obtain⟨A2,c2,rfl,_,_,_⟩:=zr hown2
   have hcv:(convert 53 9 (.slice A2 8 c2)).run Tryz.prog w2= .ok (.string (zm y)) w2:=qB w2 _ _ 5 Tryz.underlying53 Tryz.underlying5 Tryz.underlying9 _ _ A2 8 c2 (zp y 8) (zo _ _).symm (Rd.of_own hown2)
   have own2:=ab7 hown e2
   have e4:Ext w w2:=blo
   clear hown e2 e3 hown2
   go_wp2_with
    (at_builtin
     refine qR _ rfl (.tmp 12) (.tmp 16) _ rfl 9 i0 _ 1 16 Tryz.underlying109 hi0 hz0 hz1 hz2 rfl (by omega) _ _ k _ rfl (own2.alloc _) 0 _ _ 1 1 [.string (zm y)] rfl rfl
      ((acX _ _ _).m0) (by simp [Value.oneCell']) (by simp only [maxLen];omega) (by omega) (by have:=e4.size;simp;omega) ?_
     intro v3 w3 hown3 he3 _ _
     have e5:Ext w w3:=he3 _ (e4.alloc _) (Nat.le_refl _)
     clear he3 own2 e4)
   go_roundw
   case rel=>exact⟨k+1,by omega,by go_num,by rw [htx.out];exact hown3,e5⟩
   case measure=>simp [intOf];omega
  ·go_wp2_with fail
   obtain rfl:k=n:=by omega
   go_ret
   exact⟨_,rfl,by rw [List.take_of_length_le (by rw [←Hn.out];exact Nat.le_refl _)]at hown;exact hown,e3⟩
end Go.Proofs.YtckaneapjpiocaaGreatDoor
