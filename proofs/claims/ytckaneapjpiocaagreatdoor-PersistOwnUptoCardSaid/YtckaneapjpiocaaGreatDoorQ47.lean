/- The texts Bulk, OpenB in one file. -/
import Derived.Test.YtckaneapjpiocaaGreatDoorQ3
set_option linter.unusedVariables false
set_option linter.unusedSimpArgs false
namespace Go.Proofs.YtckaneapjpiocaaGreatDoor.bulks
theorem aoN{H:Type}(d:DataW H):1≤Rows.uptoBulk d:=by
 cases d with
 | lit l=>cases l <;> simp [Rows.uptoBulk]
 | nil=>simp [Rows.uptoBulk]
 | ptr d=>simp [Rows.uptoBulk]
 | slice elems spare=>simp [Rows.uptoBulk]
 | agg xB=>simp [Rows.uptoBulk]
 | iface t d=>simp [Rows.uptoBulk]
 | map entries=>simp [Rows.uptoBulk]
 | held h=>simp [Rows.uptoBulk]
theorem part_le{H:Type}{d:DataW H}{l:List (DataW H)}(h:d∈l):Rows.uptoBulk d≤Rows.uptoBulkAll l:=by
 induction l with
 | nil=>cases h
 | cons x r ih=>
   simp only [Rows.uptoBulkAll]
   cases List.mem_cons.1 h with
   | inl e=>subst e;omega
   | inr e=>have:=ih e;omega
theorem append{H:Type}(l r:List (DataW H)):Rows.uptoBulkAll (l++r)=Rows.uptoBulkAll l+Rows.uptoBulkAll r:=by
 induction l with
 | nil=>simp [Rows.uptoBulkAll]
 | cons x l ih=>simp only [List.cons_append,Rows.uptoBulkAll,ih];omega
theorem length_le{H:Type}(l:List (DataW H)):l.length≤Rows.uptoBulkAll l:=by
 induction l with
 | nil=>simp [Rows.uptoBulkAll]
 | cons x r ih=>have:=aoN x;simp only [Rows.uptoBulkAll,List.length_cons];omega
theorem slice_le{H:Type}(elems spare:List (DataW H)):elems.length+spare.length+1≤Rows.uptoBulk (.slice elems spare):=by
 have h1:=length_le elems
 have h2:=length_le spare
 simp only [Rows.uptoBulk]
 omega
theorem slice_elems{H:Type}(elems spare:List (DataW H)):Rows.uptoBulkAll elems+1≤Rows.uptoBulk (.slice elems spare):=by
 simp only [Rows.uptoBulk]
 omega
theorem string_eq{H:Type}(bytes:List UInt8):Rows.uptoBulk (DataW.lit (H:=H) (.string bytes))=bytes.length+1:=by
 simp [Rows.uptoBulk]
theorem bound{H:Type}{l:List (DataW H)}(hk:Rows.uptoSmall H l=true):Rows.uptoBulkAll l≤1048576:=by
 simpa [Rows.uptoSmall]using hk
end Go.Proofs.YtckaneapjpiocaaGreatDoor.bulks
namespace Go.Proofs.YtckaneapjpiocaaGreatDoor.opb
open Go.RowKit Go.ChangeShapes Go.WideShapes Go.Deep Go.Joins
structure In {α:Type} (w:World) (cells:α→List Value) (I:α→Prop) (s:Sl α):Prop where
 len:s.n=s.xs.length
 le:s.n≤s.c
 cap:s.c≤maxLen
 small:s.n≤1048576
 rd:Rd w 0 w.heap.size s.A (s.xs.flatMap cells)
 all: ∀x∈s.xs,I x
section
variable {H:Type} {enc:TypeId×Value→H} {P:Program} {w:World} {t e:TypeId} {α β:Type}
def zz(enc:TypeId×Value→H)(P:Program)(w:World)(t:TypeId)(cells:α→List Value)(I:α→Prop):Prop:=
 ∀(spare:Nat→Bool) (held:Bool) (fuel:Nat) (cs:List Value) (x:DataW H×List MemPlace),DataW.trod enc P w 0 spare held fuel t cs=some x→Rows.uptoBulk x.1≤1048576→ ∃a,cs=cells a∧I a
theorem zS{k:IntKind}(ht:P.underlying t=some (.int k)):zz enc P w t (fun z:Int=> [.int k z]) (fun z=>k.min≤z∧z≤k.max):=fun _ _ _ _ _ h _=>by
 obtain⟨n,rfl,_,hw⟩:=DataW.trod_int ht h
 simp only [Lit.wf,Bool.and_eq_true,decide_eq_true_eq]at hw
 exact⟨n,rfl,hw⟩
theorem ae9(ht:P.underlying t=some .bool):zz enc P w t (fun z:Bool=> [.bool z]) (fun _=>True):=fun _ _ _ _ _ h _=>by
 obtain⟨n,rfl,_⟩:=DataW.trod_bool ht h
 exact⟨n,rfl,trivial⟩
theorem yq(ht:P.underlying t=some .string):zz enc P w t (fun s:ByteArray=> [.string s]) (fun s=>s.size≤1048576):=fun _ _ _ _ _ h hw=>by
 obtain⟨s,rfl,rfl,_⟩:=DataW.trod_string ht h
 refine⟨s,rfl,?_⟩
 rw [bulks.string_eq,Array.length_toList]at hw
 exact Nat.le_trans (Nat.le_succ _) hw
theorem zz.map{cells:α→List Value}{I:α→Prop}{cells':β→List Value}{I':β→Prop}(h:zz enc P w t cells I)(f:α→β)(hc: ∀a,I a→cells a=cells' (f a))(hi: ∀a,I a→I' (f a)):zz enc P w t cells' I':=fun _ _ _ _ _ h1 h2=>by
 obtain⟨a,rfl,ha⟩:=h _ _ _ _ _ h1 h2
 exact⟨f a,hc a ha,hi a ha⟩
theorem yz(size:Nat){cells:α→List Value}{I:α→Prop}(ht:P.underlying t=some (.slice e))(hC:P.cellsOf e=size)(h0:0 < size)(hs: ∀a,(cells a).length=size)(el:zz enc P w e cells I):
 zz enc P w t (fun s:Sl α=> [s.val]) (In w cells I):=fun spare held fuel cs x h hw=>by
 subst hC
 rcases open_slice ht h with⟨rfl,rfl⟩ | ⟨a,len,cap,m,n,D,Pl,rfl,_,hl,hm,hmm,rfl,hi⟩
 ·exact⟨⟨none,0,0, []⟩,rfl,⟨rfl,Nat.le_refl _,Nat.zero_le _,Nat.zero_le _,Rd.nil,fun _ h=>by simp at h⟩⟩
 ·have hb:=bulks.slice_le ((List.range len).map D) ((List.range (m - len)).map fun j=>D (len+j))
  have hb2:=bulks.slice_elems ((List.range len).map D) ((List.range (m - len)).map fun j=>D (len+j))
  have hw':Rows.uptoBulk (.slice ((List.range len).map D) ((List.range (m - len)).map fun j=>D (len+j)))≤1048576:=hw
  have hsm:len≤1048576:=by
   simp only [List.length_map,List.length_range]at hb
   omega
  rcases Nat.eq_zero_or_pos len with hlen | hlen
  ·subst hlen
   exact⟨⟨some a,0,cap, []⟩,rfl,⟨rfl,hl,hm,Nat.zero_le _,Rd.nil,fun _ h=>by simp at h⟩⟩
  ·have hml:len≤m:=by rw [hmm];split <;> omega
   have one: ∀i,i < len→ ∃y:α,I y∧ ∀j u,(cells y)[j]?=some u→w.cell? (a.add (i * P.cellsOf e+j))=some u:=by
    intro i hil
    obtain⟨cs',hc,ht'⟩:=hi i (by omega)
    obtain⟨y,rfl,hy⟩:=el _ _ _ _ _ ht' (by
     have h1:=bulks.part_le (d:=D i) (l:=(List.range len).map D) (List.mem_map_of_mem (List.mem_range.2 hil))
     show Rows.uptoBulk (D i)≤_
     omega)
    obtain⟨_,_,hat⟩:=World.cells?_some hc
    refine⟨y,hy,fun j u hu=>?_⟩
    have hj:j < P.cellsOf e:=by
     have:=(List.getElem?_eq_some_iff.1 hu).1
     rwa [hs]at this
    rw [←Go.Deep.add_add,hat j hj,hu]
   have key: ∀i,∃y:α,i < len→I y∧ ∀j u,(cells y)[j]?=some u→w.cell? (a.add (i * P.cellsOf e+j))=some u:=by
    intro i
    by_cases hil:i < len
    ·obtain⟨y,h1,h2⟩:=one i hil
     exact⟨y,fun _=>⟨h1,h2⟩⟩
    ·obtain⟨y,_⟩:=one 0 hlen
     exact⟨y,fun h=>absurd h hil⟩
   obtain⟨g,hg⟩:=Classical.axiomOfChoice key
   refine⟨⟨some a,len,cap,(List.range len).map g⟩,rfl,⟨by simp,hl,hm,hsm,acY fun i u hu=>?_,fun x hx=>?_⟩⟩
   ·have hil:i < len * P.cellsOf e:=by
     have:=(List.getElem?_eq_some_iff.1 hu).1
     rw [aan hs]at this
     simpa using this
    have hk:i / P.cellsOf e < len:=Nat.div_lt_of_lt_mul (by rw [Nat.mul_comm];exact hil)
    have hij:i / P.cellsOf e * P.cellsOf e+i % P.cellsOf e=i:=Nat.div_add_mod' i (P.cellsOf e)
    rw [←hij,adt hs _ _ _ (Nat.mod_lt _ h0) (by simpa using hk)]at hu
    simp only [List.getElem_map,List.getElem_range]at hu
    rw [←hij]
    exact(hg _ hk).2 _ u hu
   ·simp only [List.mem_map,List.mem_range]at hx
    obtain⟨i,hil,rfl⟩:=hx
    exact(hg i hil).1
def zi(enc:TypeId×Value→H)(P:Program)(w:World)(L:Nat)(fs:List Field)(off:Nat)(cells:α→List Value)(I:α→Prop):Prop:=
 ∀(spare:Nat→Bool) (held:Bool) (fuel:Nat) (cs:List Value) (ys:List (DataW H×List MemPlace)),cs.length=L→ys.length=fs.length→
  (∀(i:Nat) (f:Field),fs[i]?=some f→DataW.trod enc P w 0 spare held fuel f.type ((cs.drop f.offset).take (P.cellsOf f.type))=ys[i]?)→
  Rows.uptoBulkAll (ys.map (·.1))≤1048576→ ∃a,cs.drop off=cells a∧I a
theorem zi.nil{L:Nat}:zi enc P w L [] L (fun _:Unit=> []) (fun _=>True):=fun _ _ _ cs _ hl _ _ _=>⟨(),List.drop_eq_nil_of_le (by omega),trivial⟩
theorem zi.cons(size:Nat){L off:Nat}{f:Field}{fs:List Field}{cells:α→List Value}{I:α→Prop}{cells':β→List Value}{I':β→Prop}(h:zz enc P w f.type cells I)(ho:f.offset=off)(hc:P.cellsOf f.type=size)
 (r:zi enc P w L fs (off+size) cells' I'):zi enc P w L (f::fs) off (fun x:α×β=>cells x.1++cells' x.2) (fun x=>I x.1∧I' x.2):=fun spare held fuel cs ys hl hy hf hw=>by
 subst ho hc
 cases ys with
 | nil=>simp at hy
 | cons y ys=>
   simp only [List.map_cons,Rows.uptoBulkAll]at hw
   obtain⟨a,ha,hi⟩:=h _ _ _ _ y (hf 0 f rfl) (by omega)
   obtain⟨b,hb,hj⟩:=r spare held fuel cs ys hl (by simpa using hy) (fun i g hg=>hf (i+1) g hg) (by omega)
   refine⟨(a,b),?_,hi,hj⟩
   show _=cells a++cells' b
   rw [←ha,←hb,←List.drop_drop,List.take_append_drop]
theorem yj{L:Nat}{fs:Array Field}{cells:α→List Value}{I:α→Prop}(hu:P.underlying t=some (.struct fs))(hL:P.cellsOf t=L)(hF:zi enc P w L fs.toList 0 cells I):zz enc P w t cells I:=fun spare held fuel cs x h hw=>by
 obtain⟨ys,n,_,rfl,hlen,hyl,hf⟩:=DataW.trod_struct hu h
 obtain⟨a,ha,hi⟩:=hF spare held n cs ys (hlen.trans hL) (by simpa using hyl) (fun i f hif=>hf i f (by simpa using hif)) (by
  have h1:Rows.uptoBulk (DataW.agg (ys.map (·.1)))≤1048576:=hw
  simp only [Rows.uptoBulk]at h1
  omega)
 exact⟨a,by simpa using ha,hi⟩
theorem zz.param_struct{fs:Array Field}{cells:α→List Value}{I:α→Prop}(h:zz enc P w t cells I)(hu:P.underlying t=some (.struct fs)){r:Reach}{b0:Nat}{spare:Nat→Bool}{held:Bool}{v:Value}{d:DataW H}{p:List MemPlace}
 (hv:Value.okWide P w r b0 t v) (ht:DataW.Trod enc P w 0 spare held t v d p) (hw:Rows.uptoBulk d≤1048576): ∃a,v= .agg (cells a).toArray∧I a:=by
 obtain⟨cs,rfl,_⟩:=okWide_struct hu hv
 obtain⟨fuel,hf⟩:=ht
 obtain⟨a,ha,hi⟩:=h _ _ _ _ _ hf hw
 exact⟨a,by rw [←ha];rfl,hi⟩
theorem zz.param_slice{I:Sl α→Prop}(h:zz enc P w t (fun s:Sl α=> [s.val]) I)(ht:P.underlying t=some (.slice e)){r:Reach}{b0:Nat}{spare:Nat→Bool}{held:Bool}{v:Value}{d:DataW H}{p:List MemPlace}
 (hv:Value.okWide P w r b0 t v) (htr:DataW.Trod enc P w 0 spare held t v d p) (hw:Rows.uptoBulk d≤1048576): ∃s:Sl α,v=s.val∧I s:=by
 obtain⟨A,n,c,rfl⟩:=okWide_slice ht hv
 obtain⟨fuel,hf⟩:=htr
 obtain⟨a,ha,hi⟩:=h _ _ _ _ _ hf hw
 exact⟨a,by simpa [Value.cells]using ha,hi⟩
theorem arg_le{ds:List (DataW H)}{d:DataW H}(h:Rows.uptoBulkAll ds≤1048576)(hd:d∈ds):Rows.uptoBulk d≤1048576:=Nat.le_trans (bulks.part_le hd) h
end
end Go.Proofs.YtckaneapjpiocaaGreatDoor.opb
