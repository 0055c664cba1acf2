/- The texts Heap, HeapR, Sq, Sq2 in one file. -/
import Derived.Test.YtckaneapjpiocaaGreatDoorQ1
set_option linter.unusedVariables false
set_option linter.unusedSimpArgs false
namespace Go.Proofs.YtckaneapjpiocaaGreatDoor
open Go.RowKit
inductive It where
 | box (b:Nat) (vs:List Value)
 | row (e:TypeId) (size:Nat) (v:Value) (n:Nat) (xs:List Value)
 | rd (A:Option Addr) (cs:List Value)
 | any (S:Nat→Prop) (p:World→Prop) (lt: ∀w k,p w→S k→k < w.heap.size) (keep: ∀w w':World,w.heap.size≤w'.heap.size→(∀k,S k→w'.heap[k]?=w.heap[k]?)→p w→p w')
namespace It
def at':It→Nat→Prop
 | .box b _,k=>k=b
 | .row _ _ v _ _,k=>v.ownBlock=some k
 | .rd A cs,k=>cs≠ []∧ ∃a,A=some a∧a.block=k
 | .any S _ _ _,k=>S k
def own:It→Nat→Prop
 | .box b _,k=>k=b
 | .row _ _ v _ _,k=>v.ownBlock=some k
 | .rd _ _,_=>False
 | .any S _ _ _,k=>S k
def holds(base:Nat)(w:World):It→Prop
 | .box b vs=>base≤b∧Bx w b vs
 | .row e size v n xs=>w.ownsRow base e size v n xs
 | .rd A cs=>RdK w (fun b=>base≤b) A cs
 | .any S p _ _=>(∀k,S k→base≤k)∧p w
theorem own_at{x:It}{k:Nat}(h:x.own k):x.at' k:=by cases x <;> first | exact h | exact h.elim
theorem at_lt{x:It}{base:Nat}{w:World}{k:Nat}(h:x.holds base w)(ha:x.at' k):k < w.heap.size:=by
 cases x with
 | box b vs=>cases ha;exact h.2.lt
 | row e size v n xs=>exact(World.ownsRow.lt h k ha).2
 | rd A cs=>
   obtain⟨hn,a,rfl,rfl⟩:=ha
   obtain⟨b,o,he,h1,_⟩:=h hn
   cases he
   exact h1
 | any S p lt keep=>exact lt w k h.2 ha
theorem keeps{x:It}{base:Nat}{w w':World}(h:x.holds base w)(hs:w.heap.size≤w'.heap.size)(hk: ∀k,x.at' k→w'.heap[k]?=w.heap[k]?):x.holds base w':=by
 cases x with
 | box b vs=>
   have hb:=hk b rfl
   exact⟨h.1,Nat.lt_of_lt_of_le h.2.lt hs,fun j u hu=>⟨(World.cell?_of_block (w:=w) (a:=⟨b,j,none⟩) hb).trans (h.2.cell j u hu),(World.frozen?_of_block (w:=w) (a:=⟨b,j,none⟩) hb).trans (h.2.frozen j u hu)⟩⟩
 | row e size v n xs=>
   refine⟨h.1,?_⟩
   rcases h.2 with h' | ⟨g,cap,cur,h1,h2,h3,h4⟩
   ·exact .inl h'
   ·exact .inr ⟨g,cap,cur,h1,h2,(hk g (by show v.ownBlock=some g;rw [h1];rfl)).trans h3,h4⟩
 | rd A cs=>
   intro hn
   obtain⟨b,o,he,h1,h2,h3⟩:=h hn
   have hb:=hk b ⟨hn,_,he,rfl⟩
   exact⟨b,o,he,Nat.lt_of_lt_of_le h1 hs,h2,fun j u hu=>(World.cell?_of_block (w:=w) (a:=⟨b,o+j,none⟩) hb).trans (h3 j u hu)⟩
 | any S p lt keep=>exact⟨h.1,keep w w' hs hk h.2⟩
end It
structure Heap (w0:World) (its:List It) (w:World):Prop where
 ext:Ext w0 w
 all: ∀(i:Nat) (x:It),its[i]?=some x→x.holds w0.heap.size w
 apart: ∀(i j:Nat) (x y:It) (k:Nat),i≠j→its[i]?=some x→its[j]?=some y→x.own k→ ¬y.at' k
theorem Heap.start(w:World):Heap w [] w:=⟨Ext.refl w,fun i x h=>by simp at h,fun i j x y k _ h=>by simp at h⟩
section
variable {w0 w w':World} {its:List It} {x x':It} {i:Nat}
theorem Heap.later(h:Heap w0 its w)(e:Ext w w'):Heap w0 its w':=
 ⟨h.ext.trans e,fun i x hx=>It.keeps (h.all i x hx) e.size fun k hk=>e.block k (It.at_lt (h.all i x hx) hk),h.apart⟩
theorem Heap.drew(h:Heap w0 its w):Heap w0 its w.drew:=h.later (Ext.drew (Ext.refl _))
theorem Heap.upd(h:Heap w0 its w)(hi:its[i]?=some x)(hk:Keep (fun b=> ¬x.own b) w w')(hx:x'.holds w0.heap.size w')(h1: ∀k,x'.own k→x.own k∨w.heap.size≤k)(h2: ∀k,x'.at' k→x.at' k∨w.heap.size≤k)
 (hb: ∀k,x.own k→w0.heap.size≤k):Heap w0 (its.set i x') w':=by
 have hil:i < its.length:=(List.getElem?_eq_some_iff.1 hi).1
 have hne: ∀j y,j≠i→its[j]?=some y→y.holds w0.heap.size w':=fun j y hj hy=>It.keeps (h.all j y hy) hk.size fun k hat=>
  hk.block k (It.at_lt (h.all j y hy) hat) fun ho=>h.apart i j x y k (Ne.symm hj) hi hy ho hat
 refine⟨hk.to_ext h.ext fun k hlt ho=>absurd (hb k ho) (by omega),fun j y hy=>?_,fun j l y z k hjl hy hz ho hat=>?_⟩
 ·by_cases hj:j=i
  ·subst hj
   rw [List.getElem?_set_self hil]at hy
   cases hy;exact hx
  ·rw [List.getElem?_set_ne (Ne.symm hj)]at hy
   exact hne j y hj hy
 ·by_cases hj:j=i
  ·subst hj
   rw [List.getElem?_set_self hil]at hy
   cases hy
   rw [List.getElem?_set_ne hjl]at hz
   rcases h1 k ho with h' | h'
   ·exact h.apart j l x z k hjl hi hz h' hat
   ·have:=It.at_lt (h.all l z hz) hat;omega
  ·rw [List.getElem?_set_ne (Ne.symm hj)]at hy
   by_cases hl:l=i
   ·subst hl
    rw [List.getElem?_set_self hil]at hz
    cases hz
    rcases h2 k hat with h' | h'
    ·exact h.apart j l y x k hjl hy hi ho h'
    ·have:=It.at_lt (h.all j y hy) (It.own_at ho);omega
   ·rw [List.getElem?_set_ne (Ne.symm hl)]at hz
    exact h.apart j l y z k hjl hy hz ho hat
theorem Heap.add(h:Heap w0 its w)(e:Ext w w')(hx:x.holds w0.heap.size w')(hn: ∀k,x.at' k→w.heap.size≤k):Heap w0 (x::its) w':=by
 have hl:=h.later e
 refine⟨hl.ext,fun j y hy=>?_,fun j l y z k hjl hy hz ho hat=>?_⟩
 ·cases j with
  | zero=>cases hy;exact hx
  | succ j=>exact hl.all j y hy
 ·cases j with
  | zero=>
    cases hy
    cases l with
    | zero=>exact hjl rfl
    | succ l=>
      have:=It.at_lt (h.all l z hz) hat
      have:=hn k (It.own_at ho)
      omega
  | succ j=>
    cases l with
    | zero=>
      cases hz
      have:=It.at_lt (h.all j y hy) (It.own_at ho)
      have:=hn k hat
      omega
    | succ l=>exact h.apart j l y z k (fun e=>hjl (by omega)) hy hz ho hat
theorem Heap.tail(h:Heap w0 (x::its) w):Heap w0 its w:=
 ⟨h.ext,fun i y hy=>h.all (i+1) y hy,fun i j y z k hij hy hz=>h.apart (i+1) (j+1) y z k (by omega) hy hz⟩
theorem Heap.alloc(h:Heap w0 its w)(cs:Array Value)(t:TypeId):Heap w0 (.box w.heap.size cs.toList::its) (w.alloc (.cells cs t)):=
 h.add ((Ext.refl w).alloc _) ⟨h.ext.size,Bx.new rfl⟩ fun k hk=>by cases hk;exact Nat.le_refl _
theorem Heap.addRow{e:TypeId}{size n:Nat}{v:Value}{xs:List Value}(h:Heap w0 its w)(hw:Ext w w')(hr:w'.ownsRow w.heap.size e size v n xs):Heap w0 (.row e size v n xs::its) w':=
 h.add hw (xw hr h.ext.size) fun k hk=>(World.ownsRow.lt hr k hk).1
theorem Heap.addRd{A:Option Addr}{cs:List Value}{hi:Nat}(h:Heap w0 its w)(hw:Ext w w')(hr:Rd w' w.heap.size hi A cs)(hh:hi≤w'.heap.size):Heap w0 (.rd A cs::its) w':=
 h.add hw (fun hn=>by
  obtain⟨b,o,he,h1,h2,h3⟩:=hr hn
  exact⟨b,o,he,by omega,Nat.le_trans h.ext.size h1,h3⟩) fun k hk=>by
  obtain⟨hn,a,rfl,rfl⟩:=hk
  obtain⟨b,o,he,h1,_⟩:=hr hn
  cases he
  exact h1
theorem Heap.rdAt{A:Option Addr}{cs:List Value}(h:Heap w0 its w)(i:Nat)(hi:its[i]?=some (.rd A cs)):Rd w w0.heap.size w.heap.size A cs:=fun hn=>by
 obtain⟨b,o,he,h1,h2,h3⟩:=h.all i _ hi hn
 exact⟨b,o,he,h2,h1,h3⟩
theorem Heap.rowAt{e:TypeId}{size n:Nat}{v:Value}{xs:List Value}(h:Heap w0 its w)(i:Nat)(hi:its[i]?=some (.row e size v n xs)):w.ownsRow w0.heap.size e size v n xs:=h.all i _ hi
theorem Heap.boxAt{b:Nat}{vs:List Value}(h:Heap w0 its w)(i:Nat)(hi:its[i]?=some (.box b vs)):Bx w b vs:=(h.all i _ hi).2
theorem Heap.boxRd{b:Nat}{vs:List Value}(h:Heap w0 its w)(i:Nat)(hi:its[i]?=some (.box b vs)):Rd w w0.heap.size w.heap.size (some ⟨b,0,none⟩) vs:=fun _=>
 ⟨b,0,rfl,(h.all i _ hi).1,(h.boxAt i hi).lt,fun j u hu=>by rw [Nat.zero_add];exact(h.boxAt i hi).cell j u hu⟩
theorem Heap.old{A:Option Addr}{cs:List Value}(h:Heap w0 its w)(hr:Rd w0 0 w0.heap.size A cs):Rd w 0 w.heap.size A cs:=Rd.at hr h.ext (Nat.le_refl _)
end
theorem Heap.allocE{w0 w w':World}{its:List It}{cs:Array Value}{t:TypeId}(h:Heap w0 its w)(hw:w.alloc (.cells cs t)=w'):Heap w0 (.box w.heap.size cs.toList::its) w':=by
 subst hw
 exact h.alloc cs t
theorem Heap.allocRow{w0 w w':World}{its:List It}{cs:Array Value}{t:TypeId}{n size:Nat}(h:Heap w0 its w)(hw:w.alloc (.cells cs t)=w')(hs:cs.size=n * size)(hn:n≤maxLen):Heap w0 (.row t size (.slice (some ⟨w.heap.size,0,none⟩) n n) n cs.toList::its) w':=by
 subst hw
 exact h.addRow ((Ext.refl w).alloc _) (World.ownsRow_lit w cs n (Nat.le_refl _) hn hs)
theorem Heap.only{w0 w:World}{its:List It}{x:It}(h:Heap w0 its w)(i:Nat)(hi:its[i]?=some x):Heap w0 [x] w:=
 ⟨h.ext,fun j y hy=>by
   cases j with
   | zero=>cases hy;exact h.all i _ hi
   | succ j=>simp at hy,fun j l y z k hjl hy hz=>by
   cases j with
   | zero=>cases l with
     | zero=>exact absurd rfl hjl
     | succ l=>simp at hz
   | succ j=>simp at hy⟩
theorem Heap.pair{w0 w:World}{its:List It}{x y:It}(h:Heap w0 its w)(i j:Nat)(hij:Nat.beq i j=false)(hi:its[i]?=some x)(hj:its[j]?=some y):Heap w0 [x,y] w:=by
 have hne:i≠j:=fun e=>by subst e;rw [Nat.beq_refl]at hij;cases hij
 refine⟨h.ext,fun k z hz=>?_,fun k l z u b hkl hz hu=>?_⟩
 ·match k,hz with
  | 0,hz=>cases hz;exact h.all i _ hi
  | 1,hz=>cases hz;exact h.all j _ hj
  | k+2,hz=>simp at hz
 ·match k,l,hz,hu,hkl with
  | 0,0,_,_,hkl=>exact absurd rfl hkl
  | 0,1,hz,hu,_=>cases hz;cases hu;exact h.apart i j _ _ b hne hi hj
  | 0,l+2,_,hu,_=>simp at hu
  | 1,0,hz,hu,_=>cases hz;cases hu;exact h.apart j i _ _ b (Ne.symm hne) hj hi
  | 1,1,_,_,hkl=>exact absurd rfl hkl
  | 1,l+2,_,hu,_=>simp at hu
  | k+2,_,hz,_,_=>simp at hz
theorem Heap.one{w w':World}{cs:Array Value}{t:TypeId}(hw:w.alloc (.cells cs t)=w'):Heap w [.box w.heap.size cs.toList] w':=by
 subst hw
 exact(Heap.start w).alloc cs t
theorem Heap.two{w w':World}{cs ds:Array Value}{t u:TypeId}(hw:(w.alloc (.cells cs t)).alloc (.cells ds u)=w'):Heap w [.box (w.heap.size+1) ds.toList,.box w.heap.size cs.toList] w':=by
 subst hw
 have:=((Heap.start w).alloc cs t).alloc ds u
 simpa using this
theorem Heap.three{w w':World}{cs ds es:Array Value}{t u x:TypeId}(hw:((w.alloc (.cells cs t)).alloc (.cells ds u)).alloc (.cells es x)=w'):Heap w [.box (w.heap.size+1+1) es.toList,.box (w.heap.size+1) ds.toList,.box w.heap.size cs.toList] w':=by
 subst hw
 have:=(((Heap.start w).alloc cs t).alloc ds u).alloc es x
 simpa using this
def qG(P:Program)(t:TypeId):Option Bool:=match P.underlying t with
 | some (.struct _)=>some true
 | some (.array _ _)=>some true
 | some _=>some false
 | none=>none
theorem aay{P:Program}{t:TypeId}{b:Bool}(h:qG P t=some b)(w:World):(isAgg t).run P w= .ok b w:=by
 unfold qG at h
 cases hu:P.underlying t with
 | none=>rw [hu]at h;cases h
 | some d=>
   rw [hu]at h
   unfold isAgg
   rw [Sem.run_bind,run_underlying hu w]
   cases d <;> simp_all
theorem abc{P:Program}{t:TypeId}{n:Nat}(h:(P.info? t).map (·.size)=some n)(w:World):(sizeOf t).run P w= .ok n w:=by
 cases hq:P.info? t with
 | none=>simp [hq]at h
 | some i=>
   have:i.size=n:=by simpa [hq]using h
   simp [sizeOf,typeInfo,hq,this]
section
variable {P:Program} {w0 w:World} {its:List It} {o:Oper} {a:Act} {K:Act→World→Prop} {Q:Exit→Act→World→Prop}
theorem adA{vs:List Value}{p n j:Nat}{u:Value}(h:((vs.drop p).take n)[j]?=some u):vs[p+j]?=some u:=by
 rw [List.getElem?_take]at h
 split at h
 ·rwa [List.getElem?_drop]at h
 ·cases h
theorem zj{t:TypeId}{x:Operand}{b p n:Nat}{vs:List Value}(H:Heap w0 its w)(hs:(P.info? t).map (·.size)=some n)(hk:qG P t=some true)(ho:o.op= .load t x)(hx:a.eval x= .pointer (some ⟨b,p,none⟩))(i:Nat)(hi:its[i]?=some (.box b vs))(hl:p+n≤vs.length):
 (execOp a.eval o).run P w= .ok (.value (.agg ((vs.drop p).take n).toArray)) w:=by
 have hb:=H.boxAt i hi
 have hc:=run_loadCells_list (P:=P) w ⟨b,p,none⟩ ((vs.drop p).take n) (fun j u hu=>by rw [xS];exact hb.cell _ _ (adA hu))
 rw [show((vs.drop p).take n).length=n by simp;omega]at hc
 unfold execOp
 simp [ho,hx,Instr.loadAt,Instr.sureAddr,loadVar,aay hk,abc hs,hc]
theorem zk{t:TypeId}{x:Operand}{b p:Nat}{vs:List Value}{v:Value}(H:Heap w0 its w)(ho:o.op= .load t x)(hx:a.eval x= .pointer (some ⟨b,p,none⟩))(i:Nat)(hi:its[i]?=some (.box b vs))(hv:vs[p]?=some v)(hk:qG P t=some false):
 (execOp a.eval o).run P w= .ok (.value v) w:=by
 have hc:=(H.boxAt i hi).cell p v hv
 unfold execOp
 simp [ho,hx,Instr.loadAt,Instr.sureAddr,loadVar,aay hk,load,Sem.run,hc]
theorem aaB{t:TypeId}{x:Operand}{b p n:Nat}{vs:List Value}(H:Heap w0 its w)(hs:(P.info? t).map (·.size)=some n)(hk:qG P t=some true)(ho:o.op= .load t x)(hx:a.eval x= .pointer (some ⟨b,p,none⟩))(i:Nat)(hi:its[i]?=some (.box b vs))(hl:p+n≤vs.length)
 (k:K (a.put o.dst (.agg ((vs.drop p).take n).toArray)) w):o.wp P a w K Q:=by
 unfold Oper.wp
 rw [zj H hs hk ho hx i hi hl]
 exact k
theorem xG{t:TypeId}{x:Operand}{b p:Nat}{vs:List Value}{v:Value}(H:Heap w0 its w)(ho:o.op= .load t x)(hx:a.eval x= .pointer (some ⟨b,p,none⟩))(i:Nat)(hi:its[i]?=some (.box b vs))(hv:vs[p]?=some v)(hk:qG P t=some false)
 (k:K (a.put o.dst v) w):o.wp P a w K Q:=by
 unfold Oper.wp
 rw [zk H ho hx i hi hv hk]
 exact k
theorem ah8{b:Nat}: ∀(cs:List Value) (p:Nat) (vs:List Value) (w:World),Bx w b vs→p+cs.length≤vs.length→Bx (w.setCells b p cs) b (vs.take p++cs++vs.drop (p+cs.length))
 | [],p,vs,w,h,_=>by simpa [World.setCells]using h
 | c::cs,p,vs,w,h,hl=>by
   have h1:=h.set p c
   rw [List.length_cons]at hl
   have h2:=ah8 cs (p+1) (vs.set p c) (w.setCell ⟨b,p,none⟩ c) h1 (by simp;omega)
   have e1:(vs.set p c).take (p+1)=vs.take p++ [c]:=by
    rw [List.take_set,List.take_succ_eq_append_getElem (by omega),List.set_append_right _ _ (by simp;omega)]
    simp [show p - min p vs.length=0 by omega]
   have e2:(vs.set p c).drop (p+1+cs.length)=vs.drop (p+(cs.length+1)):=by
    rw [List.drop_set_of_lt (by omega),show p+1+cs.length=p+(cs.length+1)by omega]
   rw [e1,e2]at h2
   simpa [World.setCells,List.append_assoc]using h2
theorem adV{b:Nat}: ∀(cs:List Value) (p:Nat) (w:World),Keep (fun k=>k≠b) w (w.setCells b p cs)
 | [],_,w=>Keep.refl _ w
 | c::cs,p,w=>((Keep.refl (fun k=>k≠b) w).setCell (p:=⟨b,p,none⟩) (fun h=>h rfl) c).trans (adV cs (p+1) _)
theorem Heap.put{b p:Nat}{vs cs:List Value}(H:Heap w0 its w)(i:Nat)(hi:its[i]?=some (.box b vs))(hl:p+cs.length≤vs.length):Heap w0 (its.set i (.box b (vs.take p++cs++vs.drop (p+cs.length)))) (w.setCells b p cs):=
 H.upd hi ((adV cs p w).mono fun k hk e=>hk e) ⟨(H.all i _ hi).1,ah8 cs p vs w (H.boxAt i hi) hl⟩ (fun k hk=> .inl hk) (fun k hk=> .inl hk) fun k hk=>by cases hk;exact(H.all i _ hi).1
theorem Heap.put1{b p:Nat}{vs:List Value}{v:Value}(H:Heap w0 its w)(i:Nat)(hi:its[i]?=some (.box b vs)):Heap w0 (its.set i (.box b (vs.set p v))) (w.setCell ⟨b,p,none⟩ v):=
 H.upd hi (((Keep.refl (fun k=>k≠b) w).setCell (p:=⟨b,p,none⟩) (fun h=>h rfl) v).mono fun k hk e=>hk e) ⟨(H.all i _ hi).1,(H.boxAt i hi).set p v⟩ (fun k hk=> .inl hk) (fun k hk=> .inl hk) fun k hk=>by cases hk;exact(H.all i _ hi).1
theorem yE{t:TypeId}{x y:Operand}{b p n:Nat}{vs cs:List Value}(H:Heap w0 its w)(hs:(P.info? t).map (·.size)=some n)(ho:o.op= .store t x y)(hx:a.eval x= .pointer (some ⟨b,p,none⟩))(hy:a.eval y= .agg cs.toArray)(i:Nat)(hi:its[i]?=some (.box b vs))(hn:cs.length=n)(hl:p+n≤vs.length)
 (h1:cs.all (·.oneCell')=true) (k: ∀w',Heap w0 (its.set i (.box b (vs.take p++cs++vs.drop (p+n)))) w'→K (a.put o.dst undef) w'):o.wp P a w K Q:=by
 subst hn
 have hb:=H.boxAt i hi
 have ht:w.there b p cs.toArray.size:=fun j hj=>by
  have hj':j < cs.length:=by simpa using hj
  have hlt:p+j < vs.length:=by omega
  exact⟨by rw [hb.cell _ _ (List.getElem?_eq_getElem hlt)];rfl,hb.frozen _ _ (List.getElem?_eq_getElem hlt)⟩
 have hr:=run_storeVar_mid (P:=P) w b p t cs.toArray ht (by simpa using hs) (all_oneCell_toArray (fun v hv=>List.all_eq_true.1 h1 v hv))
 unfold Oper.wp execOp
 simp only [ho,hx,hy,Instr.storeAt,Instr.sureAddr,Sem.run_bind,Sem.run_pure,Result.andThen_ok,hr]
 exact k _ (H.put i hi hl)
theorem z8{t:TypeId}{x y:Operand}{b p:Nat}{vs:List Value}{v:Value}(H:Heap w0 its w)(ho:o.op= .store t x y)(hx:a.eval x= .pointer (some ⟨b,p,none⟩))(hy:a.eval y=v)(i:Nat)(hi:its[i]?=some (.box b vs))(hl:p < vs.length)
 (h1:v.oneCell'=true) (hs:(P.info? t).map (·.size)=some 1) (k: ∀w',Heap w0 (its.set i (.box b (vs.set p v))) w'→K (a.put o.dst undef) w'):o.wp P a w K Q:=by
 have hb:=H.boxAt i hi
 have hvc:v.cells= #[v]:=by cases v <;> first | rfl | cases h1
 have hc:=hb.cell p _ (List.getElem?_eq_getElem hl)
 have hf:=hb.frozen p _ (List.getElem?_eq_getElem hl)
 have hst:=run_storeCells_cells (P:=P) b p [v] 0 w (fun j hj=>by obtain rfl:j=0:=by simpa using hj
                                                                 show(w.cell? ⟨b,p,none⟩).isSome=true;rw [hc];rfl) (fun j hj=>by obtain rfl:j=0:=by simpa using hj
                                                                                                                                 exact hf) (fun u hu=>by obtain rfl:u=v:=by simpa using hu
                                                                                                                                                         exact h1)
 have hr:(storeVar t ⟨b,p,none⟩ v).run P w= .ok () (w.setCell ⟨b,p,none⟩ v):=by
  simp only [storeVar,hvc,Sem.run_bind,abc hs,Result.andThen_ok]
  simpa [World.setCells]using hst
 unfold Oper.wp execOp
 simp only [ho,hx,hy,Instr.storeAt,Instr.sureAddr,Sem.run_bind,Sem.run_pure,Result.andThen_ok,hr]
 exact k _ (H.put1 i hi)
theorem zO(s x:Operand)(t:TypeId)(ho:o.op= .call { callee:= .builtin .append,args:= #[s,x],argTypes:= #[t,t] })
 {e:TypeId} {inf:TypeInfo} {z:Value} {size bytes:Nat} (ht:P.underlying t=some (.slice e)) (hinf:P.info? e=some inf) (hz:inf.zero=some z)
 (hsize:inf.size=size) (hby:inf.bytes=bytes) (hzs:z.cells.size=size) (hsz:0 < size)
 {v:Value} {n:Nat} {xs:List Value} (H:Heap w0 its w) (i:Nat) (hi:its[i]?=some (.row e size v n xs)) (hs:a.eval s=v)
 {lo h':Nat} {A:Option Addr} {m c:Nat} {news:List Value} (hx:a.eval x= .slice A m c) (hl:news.length=m * size) (hr:Rd w lo h' A news) (h1: ∀u∈news,u.oneCell'=true)
 (h63:n+m≤maxLen) (hbytes:(n+m) * bytes≤140737488355328)
 (k: ∀v' w',Heap w0 (its.set i (.row e size v' (n+m) (xs++news))) w'→(∃A c,v'= .slice A (n+m) c)→K (a.put o.dst v') w'):o.wp P a w K Q:=
 adz w s x t ho w0.heap.size e inf z size bytes ht hinf hz hsize hby hzs hsz v n xs hs (H.rowAt i hi) lo h' A m c news hx hl hr h1 h63 hbytes H.ext.size fun v' w' h2 h3 h4=>
  k v' w' (H.upd hi ⟨h3.os,h3.tape,h3.output,h3.size,fun k hk ho=>h3.block k hk fun e=>ho e.symm⟩ h2 (fun k hk=>by
   rcases h4 with h4 | h4
   ·exact .inl (show v.ownBlock=some k from h4▸(show v'.ownBlock=some k from hk))
   ·right;have:v'.ownBlock=some k:=hk
    rw [h4]at this;cases this;exact Nat.le_refl _) (fun k hk=>by
   rcases h4 with h4 | h4
   ·exact .inl (show v.ownBlock=some k from h4▸(show v'.ownBlock=some k from hk))
   ·right;have:v'.ownBlock=some k:=hk
    rw [h4]at this;cases this;exact Nat.le_refl _) fun k hk=>(World.ownsRow.lt (H.rowAt i hi) k hk).1)
   (by obtain⟨A,c,h,_⟩:=zr h2;exact⟨A,c,h⟩)
end
section
variable {P:Program} {w0 w:World} {its:List It} {o:Oper} {a:Act} {ops:Array Oper} {rest:List Oper} {Q:Exit→Act→World→Prop}
theorem amG{t:TypeId}{x:Operand}{b p n:Nat}{vs:List Value}(H:Heap w0 its w)(hs:(P.info? t).map (·.size)=some n)(hk:qG P t=some true)(ho:o.op= .load t x)(hgd:o.guard=none)(hx:a.eval x= .pointer (some ⟨b,p,none⟩))(i:Nat)(hi:its[i]?=some (.box b vs))(hl:Nat.ble (p+n) vs.length=true)
 (k:wpList P ops Q rest (a.put o.dst (.agg ((vs.drop p).take n).toArray)) w):wpList P ops Q (o::rest) a w:=
 wpList_plain hgd fun _ hK=>aaB H hs hk ho hx i hi (Nat.le_of_ble_eq_true hl) (hK _ _ k)
theorem qM{t:TypeId}{x:Operand}{b p:Nat}{vs:List Value}{v:Value}(H:Heap w0 its w)(ho:o.op= .load t x)(hgd:o.guard=none)(hx:a.eval x= .pointer (some ⟨b,p,none⟩))(i:Nat)(hi:its[i]?=some (.box b vs))(hv:vs[p]?=some v)(hk:qG P t=some false)
 (k:wpList P ops Q rest (a.put o.dst v) w):wpList P ops Q (o::rest) a w:=
 wpList_plain hgd fun _ hK=>xG H ho hx i hi hv hk (hK _ _ k)
theorem aeh{t:TypeId}{x y:Operand}{b p n:Nat}{vs cs:List Value}(H:Heap w0 its w)(hs:(P.info? t).map (·.size)=some n)(ho:o.op= .store t x y)(hgd:o.guard=none)(hx:a.eval x= .pointer (some ⟨b,p,none⟩))(hy:a.eval y= .agg cs.toArray)(i:Nat)(hi:its[i]?=some (.box b vs))(hn:cs.length=n)(hl:Nat.ble (p+n) vs.length=true)
 (h1:cs.all (·.oneCell')=true) (k: ∀w',Heap w0 (its.set i (.box b (vs.take p++cs++vs.drop (p+n)))) w'→wpList P ops Q rest (a.put o.dst undef) w'):wpList P ops Q (o::rest) a w:=
 wpList_plain hgd fun _ hK=>yE H hs ho hx hy i hi hn (Nat.le_of_ble_eq_true hl) h1 fun w' h=>hK _ _ (k w' h)
theorem qa{t:TypeId}{x y:Operand}{b p:Nat}{vs:List Value}{v:Value}(H:Heap w0 its w)(ho:o.op= .store t x y)(hgd:o.guard=none)(hx:a.eval x= .pointer (some ⟨b,p,none⟩))(hy:a.eval y=v)(i:Nat)(hi:its[i]?=some (.box b vs))(hl:Nat.blt p vs.length=true)
 (h1:v.oneCell'=true) (hs:(P.info? t).map (·.size)=some 1) (k: ∀w',Heap w0 (its.set i (.box b (vs.set p v))) w'→wpList P ops Q rest (a.put o.dst undef) w'):wpList P ops Q (o::rest) a w:=
 wpList_plain hgd fun _ hK=>z8 H ho hx hy i hi (Nat.le_of_ble_eq_true hl) h1 hs fun w' h=>hK _ _ (k w' h)
end
section
variable {P:Program} {w0 w:World} {its:List It} {fn:Func} {R:Ending→World→Prop} {a:Act}
theorem abY{t:TypeId}{b p n:Nat}{vs:List Value}(H:Heap w0 its w)(hs:(P.info? t).map (·.size)=some n)(hk:qG P t=some true)(i:Nat)(hi:its[i]?=some (.box b vs))(hl:p+n≤vs.length):
 (loadVar t ⟨b,p,none⟩).run P w= .ok (.agg ((vs.drop p).take n).toArray) w:=by
 have hb:=H.boxAt i hi
 have hc:=run_loadCells_list (P:=P) w ⟨b,p,none⟩ ((vs.drop p).take n) (fun j u hu=>by rw [xS];exact hb.cell _ _ (adA hu))
 rw [show((vs.drop p).take n).length=n by simp;omega]at hc
 simp [loadVar,aay hk,abc hs,hc]
theorem aax{t:TypeId}{x b p n:Nat}{vs:List Value}(hs:(P.info? t).map (·.size)=some n)(hk:qG P t=some true)(H:Heap w0 its w)(hres:fn.results= #[.cell x t])(hx:a.tmps.getD x undef= .pointer (some ⟨b,p,none⟩))(i:Nat)(hi:its[i]?=some (.box b vs))(hl:Nat.ble (p+n) vs.length=true)
 (hd:a.defers= []) (hR:R (.returned (.agg ((vs.drop p).take n).toArray)) w):bodyPost P fn R .ret a w:=by
 refine⟨hd,_,?_,hR⟩
 have:=abY H hs hk i hi (Nat.le_of_ble_eq_true hl)
 have hx':a.tmps[x]?.getD undef= .pointer (some ⟨b,p,none⟩):=by simpa using hx
 simp only [results,hres]
 simp [asAddr,hx',this]
theorem yD{t:TypeId}{x b p n y:Nat}{vs:List Value}{v:Value}(hs:(P.info? t).map (·.size)=some n)(hk:qG P t=some true)(H:Heap w0 its w)(hres:fn.results= #[.cell x t,.tmp y])(hx:a.tmps.getD x undef= .pointer (some ⟨b,p,none⟩))(hy:a.tmps.getD y undef=v)(i:Nat)(hi:its[i]?=some (.box b vs))(hl:Nat.ble (p+n) vs.length=true)
 (hd:a.defers= []) (hR:R (.returned (.tuple #[.agg ((vs.drop p).take n).toArray,v])) w):bodyPost P fn R .ret a w:=by
 refine⟨hd,_,?_,hR⟩
 have:=abY H hs hk i hi (Nat.le_of_ble_eq_true hl)
 have hx':a.tmps[x]?.getD undef= .pointer (some ⟨b,p,none⟩):=by simpa using hx
 have hy':a.tmps[y]?.getD undef=v:=by simpa using hy
 simp only [results,hres]
 simp [asAddr,hx',hy',this]
end
section
variable {P:Program} {l rest rest':List Oper} {Q:Exit→Act→World→Prop} {md:Region.Mode} {S:World→Prop} {oi oj:Oper} {fuel:Nat} {listed:Array Bool} {a:Act} {w:World}
theorem aa2(i j:Nat)(hi:l.drop i=oi::rest)(hj:l.drop j=oj::rest')(hr:Region.ready md l.toArray listed= [i,j])(wi:Region.wanted oi (yielded l.toArray a.tmps)=true)(wj:Region.wanted oj (yielded l.toArray a.tmps)=true)
 (h1: ∀K':Act→World→Prop,Shut (∀a w,S w→(S w→wpAnyH P md l.toArray Q S fuel (listed.setIfInBounds i true) a w)→K' a w)→Oper.wp P oi a w K' Q)
 (h2: ∀K':Act→World→Prop,Shut (∀a w,S w→(S w→wpAnyH P md l.toArray Q S fuel (listed.setIfInBounds j true) a w)→K' a w)→Oper.wp P oj a w K' Q):wpAnyH P md l.toArray Q S (fuel+1) listed a w:=
 wpAnyH_ready hr (by simp) (AllReadyH.cons (xH hi) (fun K' hK=>by rw [if_pos wi];exact h1 K' hK) (AllReadyH.cons (xH hj) (fun K' hK=>by rw [if_pos wj];exact h2 K' hK) AllReadyH.nil))
end
theorem aox{w:World}{b:Nat}{v0 v1 v2 v3 v4 v5 v6 v7 v8 v9 v10 v11:Value}(h:Bx w b [v0,v1,v2,v3,v4,v5,v6,v7,v8,v9,v10,v11]): ∀w1,Ext w w1→w1.cell? ⟨b,0,none⟩=some v0∧w1.cell? ⟨b,1,none⟩=some v1∧w1.cell? ⟨b,2,none⟩=some v2∧w1.cell? ⟨b,3,none⟩=some v3∧w1.cell? ⟨b,4,none⟩=some v4∧w1.cell? ⟨b,5,none⟩=some v5∧w1.cell? ⟨b,6,none⟩=some v6∧w1.cell? ⟨b,7,none⟩=some v7∧w1.cell? ⟨b,8,none⟩=some v8∧w1.cell? ⟨b,9,none⟩=some v9∧w1.cell? ⟨b,10,none⟩=some v10∧w1.cell? ⟨b,11,none⟩=some v11:=fun w1 e=>⟨(h.ext e).cell 0 _ rfl,(h.ext e).cell 1 _ rfl,(h.ext e).cell 2 _ rfl,(h.ext e).cell 3 _ rfl,(h.ext e).cell 4 _ rfl,(h.ext e).cell 5 _ rfl,(h.ext e).cell 6 _ rfl,(h.ext e).cell 7 _ rfl,(h.ext e).cell 8 _ rfl,(h.ext e).cell 9 _ rfl,(h.ext e).cell 10 _ rfl,(h.ext e).cell 11 _ rfl⟩
theorem afT{w:World}{b:Nat}{v0 v1 v2 v3 v4 v5 v6 v7 v8 v9 v10 v11 v12 v13 v14 v15 v16 v17 v18 v19 v20:Value}(h:Bx w b [v0,v1,v2,v3,v4,v5,v6,v7,v8,v9,v10,v11,v12,v13,v14,v15,v16,v17,v18,v19,v20]): ∀w1,Ext w w1→w1.cell? ⟨b,0,none⟩=some v0∧w1.cell? ⟨b,1,none⟩=some v1∧w1.cell? ⟨b,2,none⟩=some v2∧w1.cell? ⟨b,3,none⟩=some v3∧w1.cell? ⟨b,4,none⟩=some v4∧w1.cell? ⟨b,5,none⟩=some v5∧w1.cell? ⟨b,6,none⟩=some v6∧w1.cell? ⟨b,7,none⟩=some v7∧w1.cell? ⟨b,8,none⟩=some v8∧w1.cell? ⟨b,9,none⟩=some v9∧w1.cell? ⟨b,10,none⟩=some v10∧w1.cell? ⟨b,11,none⟩=some v11∧w1.cell? ⟨b,12,none⟩=some v12∧w1.cell? ⟨b,13,none⟩=some v13∧w1.cell? ⟨b,14,none⟩=some v14∧w1.cell? ⟨b,15,none⟩=some v15∧w1.cell? ⟨b,16,none⟩=some v16∧w1.cell? ⟨b,17,none⟩=some v17∧w1.cell? ⟨b,18,none⟩=some v18∧w1.cell? ⟨b,19,none⟩=some v19∧w1.cell? ⟨b,20,none⟩=some v20:=fun w1 e=>⟨(h.ext e).cell 0 _ rfl,(h.ext e).cell 1 _ rfl,(h.ext e).cell 2 _ rfl,(h.ext e).cell 3 _ rfl,(h.ext e).cell 4 _ rfl,(h.ext e).cell 5 _ rfl,(h.ext e).cell 6 _ rfl,(h.ext e).cell 7 _ rfl,(h.ext e).cell 8 _ rfl,(h.ext e).cell 9 _ rfl,(h.ext e).cell 10 _ rfl,(h.ext e).cell 11 _ rfl,(h.ext e).cell 12 _ rfl,(h.ext e).cell 13 _ rfl,(h.ext e).cell 14 _ rfl,(h.ext e).cell 15 _ rfl,(h.ext e).cell 16 _ rfl,(h.ext e).cell 17 _ rfl,(h.ext e).cell 18 _ rfl,(h.ext e).cell 19 _ rfl,(h.ext e).cell 20 _ rfl⟩
theorem aoV{x z:It}{its:List It}{i:Nat}(h:its[i]?=some x):(its.set i z)[i]?=some z:=List.getElem?_set_self (List.getElem?_eq_some_iff.1 h).1
theorem set_set{x y:It}{its:List It}{i:Nat}:(its.set i x).set i y=its.set i y:=List.set_set ..
section
variable {w0 w w':World} {its:List It} {e:TypeId} {size n c g:Nat}
theorem ahb: ∀(cs:List Value) (p:Nat) (xs:List Value) (w:World) (base:Nat),w.ownsRow base e size (.slice (some ⟨g,0,none⟩) n c) n xs→p+cs.length≤xs.length→
 (w.setCells g p cs).ownsRow base e size (.slice (some ⟨g,0,none⟩) n c) n (xs.take p++cs++xs.drop (p+cs.length))
 | [],p,vs,w,base,h,_=>by simpa [World.setCells]using h
 | u::cs,p,vs,w,base,h,hl=>by
   have h1:=(h.stored p u).1
   rw [List.length_cons]at hl
   have h2:=ahb cs (p+1) (vs.set p u) (w.setCell ⟨g,p,none⟩ u) base h1 (by simp;omega)
   have e1:(vs.set p u).take (p+1)=vs.take p++ [u]:=by
    rw [List.take_set,List.take_succ_eq_append_getElem (by omega),List.set_append_right _ _ (by simp;omega)]
    simp [show p - min p vs.length=0 by omega]
   have e2:(vs.set p u).drop (p+1+cs.length)=vs.drop (p+(cs.length+1)):=by
    rw [List.drop_set_of_lt (by omega),show p+1+cs.length=p+(cs.length+1)by omega]
   rw [e1,e2]at h2
   simpa [World.setCells,List.append_assoc]using h2
theorem Heap.rowPut{p:Nat}{xs cs:List Value}(H:Heap w0 its w)(i:Nat)(hi:its[i]?=some (.row e size (.slice (some ⟨g,0,none⟩) n c) n xs))(hl:p+cs.length≤xs.length):
 Heap w0 (its.set i (.row e size (.slice (some ⟨g,0,none⟩) n c) n (xs.take p++cs++xs.drop (p+cs.length)))) (w.setCells g p cs):=
 H.upd hi ((adV cs p w).mono fun k hk e=>hk (by subst e;rfl)) (ahb cs p xs w _ (H.rowAt i hi) hl) (fun k hk=> .inl hk) (fun k hk=> .inl hk) fun k hk=>(World.ownsRow.lt (H.rowAt i hi) k hk).1
theorem Heap.rowForm{v:Value}{xs:List Value}(H:Heap w0 its w)(i:Nat)(hi:its[i]?=some (.row e size v n xs))(hn:0 < n): ∃g c,v= .slice (some ⟨g,0,none⟩) n c:=
 (World.ownsRow.form (H.rowAt i hi) hn).elim fun g h=>h.elim fun c h=>⟨g,c,h.1⟩
theorem Heap.rowRd{A:Option Addr}{xs:List Value}(H:Heap w0 its w)(i:Nat)(hi:its[i]?=some (.row e size (.slice A n c) n xs)):Rd w w0.heap.size w.heap.size A xs:=Rd.of_own (H.rowAt i hi)
theorem Heap.rowLen{v:Value}{xs:List Value}(H:Heap w0 its w)(i:Nat)(hi:its[i]?=some (.row e size v n xs)):xs.length=n * size:=(H.rowAt i hi).1
end
section
variable {P:Program} {w0 w:World} {its:List It} {o:Oper} {a:Act} {K:Act→World→Prop} {ops:Array Oper} {rest:List Oper} {Q:Exit→Act→World→Prop} {e:TypeId} {size n c g:Nat}
theorem ais{t:TypeId}{x y:Operand}{p:Nat}{xs:List Value}{v:Value}(H:Heap w0 its w)(ho:o.op= .store t x y)(hx:a.eval x= .pointer (some ⟨g,p,none⟩))(hy:a.eval y=v)(i:Nat)
 (hi:its[i]?=some (.row e size (.slice (some ⟨g,0,none⟩) n c) n xs)) (hl:p < n * size)
 (h1:v.oneCell'=true) (hs:(P.info? t).map (·.size)=some 1) (k: ∀w',Heap w0 (its.set i (.row e size (.slice (some ⟨g,0,none⟩) n c) n (xs.take p++ [v]++xs.drop (p+1)))) w'→K (a.put o.dst undef) w'):o.wp P a w K Q:=by
 have hb:=H.rowAt i hi
 have hxl:=hb.1
 have hvc:v.cells= #[v]:=by cases v <;> first | rfl | cases h1
 have hc:(w.cell? ⟨g,p,none⟩).isSome=true:=by rw [hb.cellAt p hl,List.getElem?_eq_getElem (by omega)];rfl
 have hst:=run_storeCells_cells (P:=P) g p [v] 0 w (fun j hj=>(by
  obtain rfl:j=0:=by simpa using hj
  exact hc)) (fun j hj=>hb.frozenAt (p+0+j)) (by simpa using h1)
 have hr:(storeVar t ⟨g,p,none⟩ v).run P w= .ok () (w.setCell ⟨g,p,none⟩ v):=by
  simp only [storeVar,hvc,Sem.run_bind,abc hs,Result.andThen_ok]
  simpa [World.setCells]using hst
 unfold Oper.wp execOp
 simp only [ho,hx,hy,Instr.storeAt,Instr.sureAddr,Sem.run_bind,Sem.run_pure,Result.andThen_ok,hr]
 have h2:=H.rowPut (p:=p) (cs:= [v]) i hi (by simp;omega)
 exact k _ (by simpa [World.setCells]using h2)
theorem ahF{t:TypeId}{x y:Operand}{p:Nat}{xs:List Value}{v:Value}(H:Heap w0 its w)(ho:o.op= .store t x y)(hgd:o.guard=none)(hx:a.eval x= .pointer (some ⟨g,p,none⟩))(hy:a.eval y=v)(i:Nat)
 (hi:its[i]?=some (.row e size (.slice (some ⟨g,0,none⟩) n c) n xs)) (hl:p < n * size)
 (h1:v.oneCell'=true) (hs:(P.info? t).map (·.size)=some 1) (k: ∀w',Heap w0 (its.set i (.row e size (.slice (some ⟨g,0,none⟩) n c) n (xs.take p++ [v]++xs.drop (p+1)))) w'→wpList P ops Q rest (a.put o.dst undef) w'):wpList P ops Q (o::rest) a w:=
 wpList_plain hgd fun _ hK=>ais H ho hx hy i hi hl h1 hs fun w' h=>hK _ _ (k w' h)
theorem qk(s x:Operand)(t:TypeId)(ho:o.op= .call { callee:= .builtin .append,args:= #[s,x],argTypes:= #[t,t] })(hgd:o.guard=none)
 {e:TypeId} {inf:TypeInfo} {z:Value} {size bytes:Nat} (ht:P.underlying t=some (.slice e)) (hinf:P.info? e=some inf) (hz:inf.zero=some z)
 (hsize:inf.size=size) (hby:inf.bytes=bytes) (hzs:z.cells.size=size) (hsz:0 < size)
 {v:Value} {n:Nat} {xs:List Value} (H:Heap w0 its w) (i:Nat) (hi:its[i]?=some (.row e size v n xs)) (hs:a.eval s=v)
 {lo h':Nat} {A:Option Addr} {m c:Nat} {news:List Value} (hx:a.eval x= .slice A m c) (hl:news.length=m * size) (hr:Rd w lo h' A news) (h1: ∀u∈news,u.oneCell'=true)
 (h63:n+m≤maxLen) (hbytes:(n+m) * bytes≤140737488355328)
 (k: ∀v' w',Heap w0 (its.set i (.row e size v' (n+m) (xs++news))) w'→(∃A c,v'= .slice A (n+m) c)→wpList P ops Q rest (a.put o.dst v') w'):wpList P ops Q (o::rest) a w:=
 wpList_plain hgd fun _ hK=>zO s x t ho ht hinf hz hsize hby hzs hsz H i hi hs hx hl hr h1 h63 hbytes fun v' w' h h2=>hK _ _ (k v' w' h h2)
theorem Heap.row0{e:TypeId}{size:Nat}(H:Heap w0 its w):Heap w0 (.row e size (.slice none 0 0) 0 []::its) w:=
 H.add (Ext.refl w) (World.ownsRow_nil w w0.heap.size e size) fun k hk=>by cases hk
end
structure Do (l:List Nat) (G:Prop):Prop where
 out:G
structure Hol (R:Prop):Prop where
 out:R
theorem aal{m:Nat→Bool}{listed:Array Bool}(hl:((List.range listed.size).all fun k=>!m k || listed.getD k true)=true): ¬acv m listed:=fun⟨k,hk,hm⟩=>by
 have hlt:k < listed.size:=by
  rcases Nat.lt_or_ge k listed.size with h' | h'
  ·exact h'
  ·simp [h']at hm
 have:=List.all_eq_true.1 hl k (List.mem_range.2 hlt)
 rw [hm,hk]at this
 cases this
theorem doE{G:Prop}(h:G):Do [] G:=⟨h⟩
section
variable {P:Program} {l rest:List Oper} {Q:Exit→Act→World→Prop} {md:Region.Mode} {S:World→Prop} {oi:Oper} {fuel i:Nat} {is:List Nat} {m:Nat→Bool} {listed:Array Bool} {a:Act} {w:World} {v:Value}
theorem doT(hn:l.drop i=oi::rest)(hc:(Region.noSelect l.toArray && Region.free md l.toArray listed i && (Region.ready md l.toArray listed).contains i && Region.wanted oi (yielded l.toArray a.tmps))=true)
 (hrun: ∀w,S w→(execOp a.eval oi).run P w= .ok (.value v) w) (hQ: ∀c a w,Q (.panic c) (a.put oi.dst v) w→Q (.panic c) a w) (hS:S w) (h:Do is (wpAnyH P md l.toArray Q S fuel (listed.setIfInBounds i true) (a.put oi.dst v) w)):Do (i::is) (wpAnyH P md l.toArray Q S (fuel+1) listed a w):=
 ⟨tG i hn hrun hS h.out hc hQ⟩
theorem doS(hn:l.drop i=oi::rest)(hc:(Region.noSelect l.toArray && Region.free md l.toArray listed i && (Region.ready md l.toArray listed).contains i && !Region.wanted oi (yielded l.toArray a.tmps))=true)
 (hQ: ∀c a w,Q (.panic c) (a.put oi.dst undef) w→Q (.panic c) a w) (hS:S w) (h:Do is (wpAnyH P md l.toArray Q S fuel (listed.setIfInBounds i true) (a.put oi.dst undef) w)):Do (i::is) (wpAnyH P md l.toArray Q S (fuel+1) listed a w):=
 ⟨sS i h.out hn hc hQ hS⟩
theorem doM(hn:l.drop i=oi::rest)(hc:(Region.noSelect l.toArray && Region.free md l.toArray listed i && (Region.ready md l.toArray listed).contains i && ab9 md l.toArray m listed i && Region.wanted oi (yielded l.toArray a.tmps))=true)
 (hrun: ∀w,S w→(execOp a.eval oi).run P w= .ok (.value v) w) (hQ: ∀c a w,Q (.panic c) (a.put oi.dst v) w→Q (.panic c) a w) (hS:S w) (h:Do is (zU P md l.toArray Q S m fuel (listed.setIfInBounds i true) (a.put oi.dst v) w)):Do (i::is) (zU P md l.toArray Q S m (fuel+1) listed a w):=
 ⟨mG i hn hrun hS h.out hc hQ⟩
end
theorem rgS(i n:Nat):List.range' i (n+1)=i::List.range' (i+1) n:=List.range'_succ ..
theorem rg0(i:Nat):List.range' i 0= []:=rfl
theorem tW{G R:Prop}(i n:Nat)(r:R)(k:Hol R→Do (List.range' i n) G:=by
 intro hR
 simp only [rgS,rg0,Nat.reduceAdd]
 repeat
  ((refine doT rfl (by kernel_rfl) (by intro w hSw;(try dsimp only at hSw);go_simp <;> with_reducible rfl) (fun _ _ _ h=>h) (by assumption) ?_)
   (try simp only [Act.put,lyA,lyB,lyC]))
 refine doE ?_
 exact hR.out):G:=(k ⟨r⟩).out
theorem sW{G R:Prop}(i n:Nat)(r:R)(k:Hol R→Do (List.range' i n) G:=by
 intro hR
 simp only [rgS,rg0,Nat.reduceAdd]
 repeat
  ((refine doS rfl (by kernel_rfl) (fun _ _ _ h=>h) (by assumption) ?_)
   (try simp only [Act.put,lyA,lyB,lyC]))
 refine doE ?_
 exact hR.out):G:=(k ⟨r⟩).out
theorem tM{G R:Prop}(i n:Nat)(r:R)(k:Hol R→Do (List.range' i n) G:=by
 intro hR
 simp only [rgS,rg0,Nat.reduceAdd]
 repeat
  ((refine doM rfl (by kernel_rfl) (by intro w hSw;(try dsimp only at hSw);(try have q0:=hSw.1);(try have q1:=hSw.2);(try have q2:=q1.1);(try have q3:=q1.2);(try have q4:=q3.1);(try have q5:=q3.2);(try have q6:=q5.1);(try have q7:=q5.2);(try have q8:=q7.1);(try have q9:=q7.2);go_simp <;> with_reducible rfl) (fun _ _ _ h=>h) (by assumption) ?_)
   (try simp only [Act.put,lyA,lyB,lyC]))
 refine doE ?_
 exact hR.out):G:=(k ⟨r⟩).out
section
variable {w:World} {b:Nat} {v0 v1 v2 v3 v4 v5 v6:Value}
theorem ach{vs:List Value}(h:Bx w b (v0::v1::v2::vs)):w.cell? ⟨b,0,none⟩=some v0∧w.cell? ⟨b,1,none⟩=some v1∧w.cell? ⟨b,2,none⟩=some v2∧True:=⟨h.cell 0 _ rfl,h.cell 1 _ rfl,h.cell 2 _ rfl,trivial⟩
theorem zY{vs:List Value}(h:Bx w b (v0::v1::v2::v3::vs)):w.cell? ⟨b,0,none⟩=some v0∧w.cell? ⟨b,1,none⟩=some v1∧w.cell? ⟨b,2,none⟩=some v2∧w.cell? ⟨b,3,none⟩=some v3∧True:=⟨h.cell 0 _ rfl,h.cell 1 _ rfl,h.cell 2 _ rfl,h.cell 3 _ rfl,trivial⟩
theorem zb{vs:List Value}(h:Bx w b (v0::v1::v2::v3::v4::vs)):w.cell? ⟨b,0,none⟩=some v0∧w.cell? ⟨b,1,none⟩=some v1∧w.cell? ⟨b,2,none⟩=some v2∧w.cell? ⟨b,3,none⟩=some v3∧w.cell? ⟨b,4,none⟩=some v4∧True:=⟨h.cell 0 _ rfl,h.cell 1 _ rfl,h.cell 2 _ rfl,h.cell 3 _ rfl,h.cell 4 _ rfl,trivial⟩
theorem za{vs:List Value}(h:Bx w b (v0::v1::v2::v3::v4::v5::v6::vs)):w.cell? ⟨b,0,none⟩=some v0∧w.cell? ⟨b,1,none⟩=some v1∧w.cell? ⟨b,2,none⟩=some v2∧w.cell? ⟨b,3,none⟩=some v3∧w.cell? ⟨b,4,none⟩=some v4∧w.cell? ⟨b,5,none⟩=some v5∧w.cell? ⟨b,6,none⟩=some v6∧True:=⟨h.cell 0 _ rfl,h.cell 1 _ rfl,h.cell 2 _ rfl,h.cell 3 _ rfl,h.cell 4 _ rfl,h.cell 5 _ rfl,h.cell 6 _ rfl,trivial⟩
end
theorem hiD{p:Prop}(h:p):Hid p:=Lib.hid h
theorem lyX{G R:Prop}(r:R)(k:Hol R→G:=by
 intro hR
 (try simp only [Act.put,lyA,lyB,lyC])
 exact hR.out):G:=k ⟨r⟩
theorem dnX{G R:Prop}(r:R)(k:Hol R→G:=by
 intro hR
 refine wpAnyH_done (by kernel_rfl) ?_ _
 exact hR.out):G:=k ⟨r⟩
structure Lo (i j:Nat) (G:Prop):Prop where
 out:G
section
variable {P:Program} {l rest:List Oper} {Q:Exit→Act→World→Prop} {md:Region.Mode} {S:World→Prop} {oi:Oper} {fuel i j:Nat} {listed:Array Bool} {a:Act} {w w0:World} {v:Value} {its:List It} {t:TypeId} {x:Operand} {b p:Nat} {vs:List Value}
theorem loH(hn:l.drop i=oi::rest)(hc:(Region.noSelect l.toArray && Region.free md l.toArray listed i && (Region.ready md l.toArray listed).contains i && Region.wanted oi (yielded l.toArray a.tmps))=true)(hH: ∀w,S w→Heap w0 its w)
 (ho:oi.op= .load t x) (hx:a.eval x= .pointer (some ⟨b,p,none⟩)) (hi:its[j]?=some (.box b vs)) (hv:vs[p]?=some v) (hk:qG P t=some false) (hQ: ∀c a w,Q (.panic c) (a.put oi.dst v) w→Q (.panic c) a w) (hS:S w)
 (h:wpAnyH P md l.toArray Q S fuel (listed.setIfInBounds i true) (a.put oi.dst v) w):Lo i j (wpAnyH P md l.toArray Q S (fuel+1) listed a w):=
 ⟨tG i hn (fun w hw=>zk (hH w hw) ho hx j hi hv hk) hS h hc hQ⟩
end
theorem tH{G R:Prop}(i j:Nat)(r:R)(k:Hol R→Lo i j G:=by
 intro hR
 refine loH rfl (by kernel_rfl) (fun _ h=>h) rfl rfl rfl rfl (by kernel_rfl) (fun _ _ _ h=>h) (by assumption) ?_
 (try simp only [Act.put,lyA,lyB,lyC])
 exact hR.out):G:=(k ⟨r⟩).out
section
variable {P:Program} {w0 w:World} {its:List It} {o:Oper} {a:Act} {ops:Array Oper} {rest:List Oper} {Q:Exit→Act→World→Prop}
theorem cX{f:FuncId}{args:Array Value}{v:Ending}{K:Ending→World→Prop}(HH:Hid (Heap w0 its w))(hC:Calls P f args w fun e w'=>e=v∧Ext w w')(k: ∀w',Hid (Heap w0 its w')→K v w'):Calls P f args w K:=
 hC.mono fun e w' h=>by
  obtain⟨rfl,h⟩:=h
  exact k w' (hiD (HH.out.later h))
theorem s1X{t:TypeId}{x y:Operand}{b p:Nat}{vs:List Value}{v:Value}(HH:Hid (Heap w0 its w))(i:Nat)(k: ∀w',Hid (Heap w0 (its.set i (.box b (vs.set p v))) w')→wpList P ops Q rest (a.put o.dst undef) w')
 (ho:o.op= .store t x y:=by exact rfl) (hgd:o.guard=none:=by exact rfl) (hx:a.eval x= .pointer (some ⟨b,p,none⟩):=by exact rfl) (hy:a.eval y=v:=by exact rfl) (hi:its[i]?=some (.box b vs):=by exact rfl) (hl:Nat.blt p vs.length=true:=by exact rfl)
 (h1:v.oneCell'=true:=by exact rfl) (hs:(P.info? t).map (·.size)=some 1:=by kernel_rfl):wpList P ops Q (o::rest) a w:=qa HH.out ho hgd hx hy i hi hl h1 hs k
theorem sSX{t:TypeId}{x y:Operand}{b p n:Nat}{vs cs:List Value}(HH:Hid (Heap w0 its w))(hs:(P.info? t).map (·.size)=some n)(i:Nat)(k: ∀w',Hid (Heap w0 (its.set i (.box b (vs.take p++cs++vs.drop (p+n)))) w')→wpList P ops Q rest (a.put o.dst undef) w')
 (ho:o.op= .store t x y:=by exact rfl) (hgd:o.guard=none:=by exact rfl) (hx:a.eval x= .pointer (some ⟨b,p,none⟩):=by exact rfl) (hy:a.eval y= .agg cs.toArray:=by exact rfl) (hi:its[i]?=some (.box b vs):=by exact rfl) (hn:cs.length=n:=by exact rfl) (hl:Nat.ble (p+n) vs.length=true:=by exact rfl)
 (h1:cs.all (·.oneCell')=true:=by exact rfl):wpList P ops Q (o::rest) a w:=aeh HH.out hs ho hgd hx hy i hi hn hl h1 k
theorem l1X{t:TypeId}{x:Operand}{b p:Nat}{vs:List Value}{v:Value}(HH:Hid (Heap w0 its w))(i:Nat)(k:wpList P ops Q rest (a.put o.dst v) w)
 (ho:o.op= .load t x:=by exact rfl) (hgd:o.guard=none:=by exact rfl) (hx:a.eval x= .pointer (some ⟨b,p,none⟩):=by exact rfl) (hi:its[i]?=some (.box b vs):=by exact rfl) (hv:vs[p]?=some v:=by exact rfl) (hk:qG P t=some false:=by decide+kernel):wpList P ops Q (o::rest) a w:=qM HH.out ho hgd hx i hi hv hk k
theorem lSX{t:TypeId}{x:Operand}{b p n:Nat}{vs:List Value}(HH:Hid (Heap w0 its w))(hs:(P.info? t).map (·.size)=some n)(i:Nat)(k:wpList P ops Q rest (a.put o.dst (.agg ((vs.drop p).take n).toArray)) w)
 (hk:qG P t=some true:=by kernel_rfl) (ho:o.op= .load t x:=by exact rfl) (hgd:o.guard=none:=by exact rfl) (hx:a.eval x= .pointer (some ⟨b,p,none⟩):=by exact rfl) (hi:its[i]?=some (.box b vs):=by exact rfl) (hl:Nat.ble (p+n) vs.length=true:=by exact rfl):wpList P ops Q (o::rest) a w:=amG HH.out hs hk ho hgd hx i hi hl k
end
section
variable {P:Program} {l rest:List Oper} {Q:Exit→Act→World→Prop} {md:Region.Mode} {S:World→Prop} {oi:Oper} {fuel:Nat} {m:Nat→Bool} {listed:Array Bool} {a:Act} {w:World}
theorem oMX(i:Nat)(h: ∀K':Act→World→Prop,Shut (∀a w,S w→(S w→zU P md l.toArray Q S m fuel (listed.setIfInBounds i true) a w)→K' a w)→Oper.wp P oi a w K' Q)
 (hn:l.drop i=oi::rest:=by exact rfl) (hr:Region.ready md l.toArray listed= [i]:=by kernel_rfl) (hw:Region.wanted oi (yielded l.toArray a.tmps)=true:=by kernel_rfl):zU P md l.toArray Q S m (fuel+1) listed a w:=adJ i hn hr hw h
theorem fMX(i:Nat)(h: ∀K':Act→World→Prop,Shut (∀a w,zU P md l.toArray Q S m fuel (listed.setIfInBounds i true) a w→K' a w)→Oper.wp P oi a w K' Q)
 (hn:l.drop i=oi::rest:=by exact rfl) (hr:Region.ready md l.toArray listed= [i]:=by kernel_rfl) (hl:((List.range listed.size).all fun k=>!m k || (listed.setIfInBounds i true).getD k true)=true:=by kernel_rfl) (hw:Region.wanted oi (yielded l.toArray a.tmps)=true:=by kernel_rfl):zU P md l.toArray Q S m (fuel+1) listed a w:=afr i hn hr hl hw h
end
end Go.Proofs.YtckaneapjpiocaaGreatDoor
