/- The texts Srt, Oso, Pa, Pob in one file. -/
import Derived.Shelf.SlSortCmp.WholeK
import Derived.Test.YtckaneapjpiocaaGreatDoorQ32
import Derived.Test.YtckaneapjpiocaaGreatDoorQ34
set_option linter.unusedVariables false
set_option linter.unusedSimpArgs false
set_option maxHeartbeats 8000000
set_option maxRecDepth 100000
namespace Go.Proofs
open Go.Shelf
def Tryz.sortObj_ren:Go.Shelf.Ren:=⟨fun | 6=>60 | 15=>122 | 14=>121 | 28=>170 | 29=>171 | 20=>162 | 21=>163 | 22=>164 | 23=>165 | 24=>166 | 25=>167 | 26=>168 | 27=>169 | 46=>200 | 47=>201 | 48=>202 | 49=>203 | 50=>204 | 57=>224 | n=>n,fun | 22=>33 | 24=>56 | 25=>106 | 3=>3 | 39=>168 | 0=>0 | 53=>214 | 55=>42 | 4=>4 | 46=>207 | 45=>206 | 50=>211 | 5=>5 | 9=>9 | 66=>253 | 70=>257 | 76=>278 | 77=>161 | n=>n,fun | n=>n⟩
theorem Tryz.sortObj:Go.Proofs.SlLaysF0.n6 Tryz.prog Tryz.sortObj_ren:={
 mixed:=by kernel_rfl
 f6:=⟨Tryz.f60.name,by decide,Tryz.func60.trans (congrArg some (by kernel_rfl))⟩
 f14:=⟨Tryz.f121.name,by decide,Tryz.func121.trans (congrArg some (by kernel_rfl))⟩
 f15:=Tryz.func122.trans (congrArg some (by kernel_rfl))
 f20:=⟨Tryz.f162.name,by decide,Tryz.func162.trans (congrArg some (by kernel_rfl))⟩
 f21:=⟨Tryz.f163.name,by decide,Tryz.func163.trans (congrArg some (by kernel_rfl))⟩
 f22:=⟨Tryz.f164.name,by decide,Tryz.func164.trans (congrArg some (by kernel_rfl))⟩
 f23:=⟨Tryz.f165.name,by decide,Tryz.func165.trans (congrArg some (by kernel_rfl))⟩
 f24:=⟨Tryz.f166.name,by decide,Tryz.func166.trans (congrArg some (by kernel_rfl))⟩
 f25:=⟨Tryz.f167.name,by decide,Tryz.func167.trans (congrArg some (by kernel_rfl))⟩
 f26:=⟨Tryz.f168.name,by decide,Tryz.func168.trans (congrArg some (by kernel_rfl))⟩
 f27:=⟨Tryz.f169.name,by decide,Tryz.func169.trans (congrArg some (by kernel_rfl))⟩
 f28:=Tryz.func170.trans (congrArg some (by kernel_rfl))
 f29:=Tryz.func171.trans (congrArg some (by kernel_rfl))
 f46:=⟨Tryz.f200.name,by decide,Tryz.func200.trans (congrArg some (by kernel_rfl))⟩
 f47:=Tryz.func201.trans (congrArg some (by kernel_rfl))
 f48:=Tryz.func202.trans (congrArg some (by kernel_rfl))
 f49:=⟨Tryz.f203.name,by decide,Tryz.func203.trans (congrArg some (by kernel_rfl))⟩
 f50:=⟨Tryz.f204.name,by decide,Tryz.func204.trans (congrArg some (by kernel_rfl))⟩
 f57:=⟨Tryz.f224.name,by decide,Tryz.func224.trans (congrArg some (by kernel_rfl))⟩
 t0:=Tryz.underlying0
 a0:=Tryz.isAgg0
 z0:=Tryz.sizeOf0
 v0:=Tryz.zeroValue0
 t3:=Tryz.underlying3
 a3:=Tryz.isAgg3
 z3:=Tryz.sizeOf3
 v3:=Tryz.zeroValue3
 t4:=Tryz.underlying4
 a4:=Tryz.isAgg4
 z4:=Tryz.sizeOf4
 v4:=Tryz.zeroValue4
 t5:=Tryz.underlying5
 a5:=Tryz.isAgg5
 z5:=Tryz.sizeOf5
 v5:=Tryz.zeroValue5
 t9:=Tryz.underlying9
 a9:=Tryz.isAgg9
 z9:=Tryz.sizeOf9
 v9:=Tryz.zeroValue9
 t22:=Tryz.underlying33
 a22:=Tryz.isAgg33
 z22:=Tryz.sizeOf33
 v22:=Tryz.zeroValue33
 t25:=Tryz.underlying106
 a25:=Tryz.isAgg106
 z25:=Tryz.sizeOf106
 v25:=Tryz.zeroValue106
 t39:=Tryz.underlying168
 a39:=Tryz.isAgg168
 z39:=Tryz.sizeOf168
 v39:=Tryz.zeroValue168
 t45:=Tryz.underlying206
 a45:=Tryz.isAgg206
 z45:=Tryz.sizeOf206
 v45:=Tryz.zeroValue206
 t46:=Tryz.underlying207
 a46:=Tryz.isAgg207
 z46:=Tryz.sizeOf207
 v46:=Tryz.zeroValue207
 t50:=Tryz.underlying211
 a50:=Tryz.isAgg211
 z50:=Tryz.sizeOf211
 v50:=Tryz.zeroValue211
 t53:=Tryz.underlying214
 a53:=Tryz.isAgg214
 z53:=Tryz.sizeOf214
 v53:=Tryz.zeroValue214
 t55:=Tryz.underlying42
 a55:=Tryz.isAgg42
 z55:=Tryz.sizeOf42
 v55:=Tryz.zeroValue42
 t66:=Tryz.underlying253
 a66:=Tryz.isAgg253
 z66:=Tryz.sizeOf253
 v66:=Tryz.zeroValue253
 t70:=Tryz.underlying257
 a70:=Tryz.isAgg257
 z70:=Tryz.sizeOf257
 v70:=Tryz.zeroValue257
 t76:=Tryz.underlying278
 a76:=Tryz.isAgg278
 z76:=Tryz.sizeOf278
 v76:=Tryz.zeroValue278
 t77:=Tryz.underlying161
 a77:=Tryz.isAgg161
 z77:=Tryz.sizeOf161
 v77:=Tryz.zeroValue161 }
end Go.Proofs
namespace Go.Proofs.YtckaneapjpiocaaGreatDoor
open Go.RowKit Go.Maps Go.Sort Go.Shelf
def aeN(a b:ByteArray):Int:=if lessB a b=true then -1 else if lessB b a=true then 1 else 0
theorem alm(w:World)(a:ByteArray):Calls Tryz.prog 123 #[.string a] w fun e w'=>e= .returned (.bool false)∧w'=w:=by
 go_enter Tryz.func123,Tryz.ntmps123
 go_wp2_with fail
 go_ret
 exact⟨rfl,rfl⟩
theorem ana(w:World)(a b:ByteArray):Calls Tryz.prog 62 #[.string a,.string b] w fun e w'=>e= .returned (.int .i64 (aeN a b))∧w'=w:=by
 have HN:=hiD (alm)
 have HV:=hiD (show aeN a b=if lessB a b=true then -1 else if lessB b a=true then 1 else 0 from rfl)
 generalize aeN a b=V at *
 cases h1:lessB a b with
 | true=>
   have hq:Op.bytesLess a.toList b.toList=true:=h1
   obtain rfl:V= -1:=by rw [HV.out,if_pos h1]
   clear HV h1
   go_enter Tryz.func62,Tryz.ntmps62
   go_wp2_with ((refine(HN.out _ _).mono ?_);rintro e w2 ⟨rfl,rfl⟩)
   go_ret
   exact⟨rfl,rfl⟩
 | false=>
   have hq:Op.bytesLess a.toList b.toList=false:=h1
   have q:=xP b a
   cases h2:lessB b a with
   | true=>
     obtain rfl:V=1:=by rw [HV.out,if_neg (by rw [h1];decide),if_pos h2]
     rw [h2]at q
     rw [h1,Bool.false_or]at q
     have q2:(a.toList == b.toList)=false:=q
     clear HV h1 h2 q
     go_enter Tryz.func62,Tryz.ntmps62
     go_wp2_with ((refine(HN.out _ _).mono ?_);rintro e w2 ⟨rfl,rfl⟩)
     go_ret
     exact⟨rfl,rfl⟩
   | false=>
     obtain rfl:V=0:=by rw [HV.out,if_neg (by rw [h1];decide),if_neg (by rw [h2];decide)]
     rw [h2]at q
     rw [h1,Bool.false_or]at q
     have q2:(a.toList == b.toList)=true:=q
     clear HV h1 h2 q
     go_enter Tryz.func62,Tryz.ntmps62
     go_wp2_with ((refine(HN.out _ _).mono ?_);rintro e w2 ⟨rfl,rfl⟩)
     go_ret
     exact⟨rfl,rfl⟩
def afz(x y:Ob):Int:=aeN x.key y.key
theorem anS(x y:Ob)(W:World):Calls Tryz.prog 61 #[.agg x.cells.toArray,.agg y.cells.toArray] W fun e w'=>e= .returned (.int .i64 (afz x y))∧ ∃q os',w'=grow (W.drewN q) os':=by
 have HC:=hiD (fun W=>ana W x.key y.key)
 rw [show afz x y=aeN x.key y.key from rfl]
 generalize aeN x.key y.key=V at *
 obtain⟨k1,⟨dA,dn,dc,dx⟩,⟨qA,qn,qc,qx⟩⟩:=x
 obtain⟨k2,⟨eA,en,ec,ex⟩,⟨rA,rn,rc,rx⟩⟩:=y
 simp only [Ob.cells,Sl.val]
 go_enter Tryz.func61,Tryz.ntmps61
 go_wp2_with ((refine(HC.out _).mono ?_);rintro e w2 ⟨rfl,rfl⟩)
 go_ret
 exact⟨rfl,0,_,by rw [alloc_eq_grow,alloc_eq_grow,grow_grow];rfl⟩
theorem ltO(x y:Ob):ltOf afz x y=lessB x.key y.key:=by
 unfold ltOf afz aeN
 cases h1:lessB x.key y.key <;> cases h2:lessB y.key x.key <;> simp
theorem toList_inj{a b:ByteArray}(h:(a.toList == b.toList)=true):a=b:=by
 have:=yW a b
 rw [h]at this
 exact of_decide_eq_true this.symm
instance:Inhabited Ob:=⟨⟨.empty,⟨none,0,0, []⟩,⟨none,0,0, []⟩⟩⟩
theorem apf:SWO (ltOf afz) where
 irrefl x:=by rw [ltO];exact aa7 _
 trans x y z h1 h2:=by rw [ltO]at *;exact abH h1 h2
 ntrans x y z h1 h2:=by
  rw [ltO]at *
  cases h:lessB x.key z.key with
  | false=>rfl
  | true=>
    have q:=xP x.key y.key
    rw [h1]at q
    rcases Bool.or_eq_true _ _ |>.mp q with q | q
    ·have:=abH q h
     rw [h2]at this;cases this
    ·rw [toList_inj q]at h2
     rw [h2]at h;cases h
theorem afP(l:List Ob):(l.flatMap Ob.cells).length=l.length * 3:=aan (cells:=Ob.cells) (fun _=>rfl) l
theorem ag2(d:Array Ob):(flatK Ob.cells 3 d).toList=d.toList.flatMap Ob.cells:=by
 apply List.ext_getElem?
 intro i
 have hs:(flatK Ob.cells 3 d).size=d.size * 3:=size_flatK ..
 by_cases hi:i < d.size * 3
 ·have hk:i / 3 < d.size:=Nat.div_lt_of_lt_mul (by rw [Nat.mul_comm];exact hi)
  have h1:=get_flatK Ob.cells 3 d i hi
  have hij:i / 3 * 3+i % 3=i:=Nat.div_add_mod' i 3
  have h2:(d.toList.flatMap Ob.cells)[i]?=(Ob.cells (d.toList[i / 3]'(by rw [Array.length_toList];exact hk)))[i % 3]?:=by
   conv=>lhs;rw [←hij]
   exact adt (cells:=Ob.cells) (size:=3) (fun _=>rfl) _ _ _ (Nat.mod_lt _ (by decide)) (by rw [Array.length_toList];exact hk)
  rw [h2,Array.getElem?_toList,Array.getElem?_eq_getElem (by rw [hs];exact hi)]
  rw [getElem!_pos _ i (by rw [hs];exact hi),getElem!_pos d (i / 3) hk]at h1
  have h3:i % 3 < (Ob.cells d[i / 3]).length:=Nat.mod_lt _ (by decide)
  have h4:(Ob.cells d[i / 3])[i % 3]! =(Ob.cells d[i / 3])[i % 3]'h3:=getElem!_pos (Ob.cells d[i / 3]) (i % 3) h3
  rw [h1,h4]
  have h5:d.toList[i / 3]'(by rw [Array.length_toList];exact hk)=d[i / 3]:=Array.getElem_toList _
  rw [h5]
  exact(List.getElem?_eq_getElem h3).symm
 ·rw [List.getElem?_eq_none (by rw [Array.length_toList,hs];omega),List.getElem?_eq_none (by rw [afP];simpa using hi)]
theorem ajh{w:World}{base g cap n:Nat}{e:TypeId}{xs:List Value}(m:Nat)(os2:Array Obj)(d':Array Ob)(h:w.ownsRow base e 3 (.slice (some ⟨g,0,none⟩) n cap) n xs)(hn:d'.size=n):
 (sortWorldK Ob.cells 3 w g 0 m d' os2).ownsRow base e 3 (.slice (some ⟨g,0,none⟩) n cap) n (d'.toList.flatMap Ob.cells)∧Keep (fun b=>b≠g) w (sortWorldK Ob.cells 3 w g 0 m d' os2):=by
 obtain⟨h0,h1⟩:=h
 rcases h1 with⟨h1,_⟩ | ⟨g',cap',cur,hv,hb,hh,hc,hm,hz,hx⟩
 ·cases h1
 ·obtain⟨rfl,rfl⟩:g=g'∧cap=cap':=by simpa using hv
  have hlt:g < w.heap.size:=(Array.getElem?_eq_some_iff.1 hh).1
  have hheap:(sortWorldK Ob.cells 3 w g 0 m d' os2).heap=w.heap.modify g (onCells (putCells id 0 (flatK Ob.cells 3 d')))++os2:=rfl
  have hsz:(w.heap.modify g (onCells (putCells id 0 (flatK Ob.cells 3 d')))).size=w.heap.size:=by simp
  have hget: ∀k,k < w.heap.size→(sortWorldK Ob.cells 3 w g 0 m d' os2).heap[k]?=if g=k then(w.heap[k]?).map (onCells (putCells id 0 (flatK Ob.cells 3 d')))else w.heap[k]?:=fun k hk=>by
   rw [hheap,Array.getElem?_append_left (by rw [hsz];exact hk),Array.getElem?_modify]
  refine⟨⟨by rw [afP];simp [hn],.inr ⟨g,cap,putCells id 0 (flatK Ob.cells 3 d') cur,rfl,hb,?_,hc,hm,by simp [putCells,hz],?_⟩⟩,rfl,rfl,rfl,?_,fun k hk ho=>?_⟩
  ·rw [hget g hlt,if_pos rfl,hh];rfl
  ·have hs:(flatK Ob.cells 3 d').size=n * 3:=by rw [size_flatK,hn]
   rw [←ag2]
   apply List.ext_getElem?
   intro i
   by_cases hi:i < n * 3
   ·have hic:i < cur.size:=by rw [hz];exact Nat.lt_of_lt_of_le hi (Nat.mul_le_mul_right 3 hc)
    have hif:i < (flatK Ob.cells 3 d').size:=by rw [hs];exact hi
    have a1:(flatK Ob.cells 3 d')[i]?=some ((flatK Ob.cells 3 d')[i]'hif):=Array.getElem?_eq_getElem hif
    have hip:i < (putCells id 0 (flatK Ob.cells 3 d') cur).size:=by simp only [putCells,Array.size_mapIdx];exact hic
    have a2:(putCells id 0 (flatK Ob.cells 3 d') cur)[i]?=some ((putCells id 0 (flatK Ob.cells 3 d') cur)[i]'hip):=Array.getElem?_eq_getElem hip
    have a3:(putCells id 0 (flatK Ob.cells 3 d') cur)[i]'hip=(flatK Ob.cells 3 d')[i]'hif:=by
     simp only [putCells,Array.getElem_mapIdx,Nat.zero_le,Nat.zero_add,true_and,Nat.sub_zero,id]
     rw [if_pos hif,getElem!_pos _ i hif]
    rw [List.getElem?_take_of_lt hi,Array.getElem?_toList,Array.getElem?_toList,a1,a2,a3]
   ·rw [List.getElem?_eq_none (by rw [List.length_take];omega),List.getElem?_eq_none (by rw [Array.length_toList,hs];omega)]
  ·rw [hheap,Array.size_append,hsz];omega
  ·rw [hget k hk,if_neg (fun e=>ho e.symm)]
theorem Heap.sorted{w0 w:World}{its:List It}{j g c n:Nat}{e:TypeId}{xs:List Value}(H:Heap w0 its w)(hj:its[j]?=some (.row e 3 (.slice (some ⟨g,0,none⟩) n c) n xs))(m:Nat)(os2:Array Obj)(d':Array Ob)(hn:d'.size=n):
 Heap w0 (its.set j (.row e 3 (.slice (some ⟨g,0,none⟩) n c) n (d'.toList.flatMap Ob.cells))) (sortWorldK Ob.cells 3 w g 0 m d' os2):=by
 obtain⟨h1,h2⟩:=ajh m os2 d' (H.rowAt j hj) hn
 exact H.upd hj (h2.mono fun k hk e=>hk (by subst e;rfl)) h1 (fun k hk=> .inl hk) (fun k hk=> .inl hk) fun k hk=>(World.ownsRow.lt (H.rowAt j hj) k hk).1
def aa9(l:List Ob):Prop:= ∀i j (hi:i < l.length) (hj:j < l.length),i < j→lessB l[j].key l[i].key=false
theorem akD{w0 w:World}{its:List It}{j g c n:Nat}(os:List Ob)(H:Heap w0 its w)(hj:its[j]?=some (.row 56 3 (.slice (some ⟨g,0,none⟩) n c) n (os.flatMap Ob.cells)))(hn:n=os.length)(hN:n≤1000000):
 Calls Tryz.prog 60 #[.slice (some ⟨g,0,none⟩) n c,.func (.func 61) #[] #[]] w fun e w'=>
  e= .returned (.tuple #[])∧ ∃os':List Ob,os'.Perm os∧aa9 os'∧Heap w0 (its.set j (.row 56 3 (.slice (some ⟨g,0,none⟩) n c) n (os'.flatMap Ob.cells))) w':=by
 have hown:=H.rowAt j hj
 have hlt:g < w.heap.size:=by
  have:=hown
  obtain⟨_,⟨h1,_⟩ | ⟨g',cap',cur,hv,hb,hh,_⟩⟩:=this
  ·cases h1
  ·obtain⟨rfl,rfl⟩:g=g'∧c=cap':=by simpa using hv
   exact(Array.getElem?_eq_some_iff.1 hh).1
 have hH:HoldsK Ob.cells 3 w g 0 os.toArray:=fun t ht=>by
  have ht':t < n * 3:=by rw [size_flatK]at ht;simpa [hn]using ht
  have e1:=hown.cellAt t ht'
  have e2:(os.flatMap Ob.cells)[t]?=some ((flatK Ob.cells 3 os.toArray)[t]!):=by
   have:=ag2 os.toArray
   rw [show os.toArray.toList=os from rfl]at this
   rw [←this,Array.getElem?_toList,Array.getElem?_eq_getElem ht,getElem!_pos _ t ht]
  refine⟨by rw [Nat.zero_add,e1,e2];rfl,?_⟩
  obtain⟨_,⟨h1,_⟩ | ⟨g',cap',cur,hv,hb,hh,_⟩⟩:=hown
  ·cases h1
  ·obtain⟨rfl,rfl⟩:g=g'∧c=cap':=by simpa using hv
   simp [World.frozen?,hh]
 have eg: ∀args w,(callFunc 61 args).run Tryz.prog w= .ok (.enter 61 args) w:=afd Tryz.func61 (by kernel_rfl) rfl
 have hcon:=AnyQ.slices_SortFunc Tryz.sortObj 3 Tryz.isAgg56 Tryz.sizeOf56 Ob.cells (fun _=>rfl) (fun x v hv=>by simp [Ob.cells,Sl.val]at hv;rcases hv with rfl | rfl | rfl <;> rfl) afz apf 61 #[] g 0 c os.toArray w eg (fun _ _ _ _ x y=>anS x y _) hH hlt (by simp;omega)
 have hsz:os.toArray.size=n:=by simp [hn]
 rw [hsz]at hcon
 refine hcon.mono ?_
 rintro e w' ⟨rfl,d',m,os2,hp,hs,rfl⟩
 obtain⟨p1,_,p2⟩:=hp
 rw [hsz]at p1
 have hx:d'.extract 0 n=d':=by rw [←p1];exact Array.extract_size
 have hx2:os.toArray.extract 0 n=os.toArray:=by rw [←hsz];exact Array.extract_size
 rw [hx,hx2]at p2
 refine⟨rfl,d'.toList,p2,fun i k hi hk hik=>?_,H.sorted hj m os2 d' p1⟩
 rw [Array.length_toList]at hi hk
 have:=hs i k (Nat.zero_le _) hik (by omega)
 rw [ltO,getElem!_pos d' i hi,getElem!_pos d' k hk]at this
 simpa using this
theorem age(t:Tnt)(h:zH t=true): ∀p∈qF t,p.1.size≤200:=by
 simp only [zH,Bool.and_eq_true,decide_eq_true_eq]at h
 obtain⟨hn,_,_,hs,hg,hst,hl,hl2⟩:=h
 have hn:=xe hn
 simp only [yV,Bool.and_eq_true,List.all_eq_true]at hs
 simp only [xM,Bool.and_eq_true,List.all_eq_true]at hst
 have k1:kT.size=1:=rfl
 have k2:kS.size=1:=rfl
 have k3:kG.size=1:=rfl
 intro x hx
 simp only [qF,List.mem_cons,List.mem_append,List.mem_map]at hx
 rcases hx with rfl | ⟨s,hs',rfl⟩ | ⟨s,hs',rfl⟩
 ·have:=abt [kT,t.name]
  simp only [List.map_cons,List.map_nil,List.sum_cons,List.sum_nil]at this
  show(zJ [kT,t.name]).size≤200
  omega
 ·obtain⟨_,_,_,d1⟩:=adQ _ s (hs.2.2.1 s hs')
  have:=abt [kS,t.name,s.path]
  simp only [List.map_cons,List.map_nil,List.sum_cons,List.sum_nil]at this
  show(zJ [kS,t.name,s.path]).size≤200
  omega
 ·obtain⟨_,_,_,d1⟩:=ad4 s (hst.2.1 s hs')
  have:=abt [kG,t.name,s.into]
  simp only [List.map_cons,List.map_nil,List.sum_cons,List.sum_nil]at this
  show(zJ [kG,t.name,s.into]).size≤200
  omega
theorem Heap.perm{w0 w:World}{its its2:List It}(H:Heap w0 its w)(hp:its2.Perm its):Heap w0 its2 w:=by
 have h1:its.Pairwise (fun x y=> ∀k,(x.own k→ ¬y.at' k)∧(y.own k→ ¬x.at' k)):=List.pairwise_iff_getElem.2 fun i j hi hj hij k=>
  ⟨fun h=>H.apart i j _ _ k (by omega) (List.getElem?_eq_getElem hi) (List.getElem?_eq_getElem hj) h,fun h=>H.apart j i _ _ k (by omega) (List.getElem?_eq_getElem hj) (List.getElem?_eq_getElem hi) h⟩
 have h2:=(List.Perm.pairwise_iff (R:=fun x y:It=> ∀k,(x.own k→ ¬y.at' k)∧(y.own k→ ¬x.at' k)) (fun h k=>⟨(h k).2,(h k).1⟩) hp).2 h1
 have h3:=List.pairwise_iff_getElem.1 h2
 refine⟨H.ext,fun i x hx=>?_,fun i j x y k hij hx hy ho=>?_⟩
 ·have hm:x∈its:=hp.mem_iff.1 (List.mem_of_getElem? hx)
  obtain⟨m,hm2,rfl⟩:=List.getElem_of_mem hm
  exact H.all m _ (List.getElem?_eq_getElem hm2)
 ·obtain⟨hi,rfl⟩:=List.getElem?_eq_some_iff.1 hx
  obtain⟨hj,rfl⟩:=List.getElem?_eq_some_iff.1 hy
  rcases Nat.lt_or_ge i j with h | h
  ·exact(h3 i j hi hj h k).1 ho
  ·exact(h3 j i hj hi (by omega) k).2 ho
def kP:ByteArray:=⟨#[112]⟩
def obP(p:Pol):List (ByteArray×List UInt8×Loc):=(kP,zu (yY p),zL)::p.ten.xs.flatMap obL
def apk(w:World)(p:Pol)(e:Ending)(w':World):Prop:=
 (yf p=false∧e= .returned (.tuple #[.slice none 0 0,.int .i64 9])∧Ext w w')∨
 (yf p=true∧ ∃(A:Option Addr) (c:Nat) (os:List Ob),e= .returned (.tuple #[.slice A os.length c,.int .i64 0])∧(os.map obk).Perm (obP p)∧aa9 os∧Heap w (.row 56 3 (.slice A os.length c) os.length (os.flatMap Ob.cells)::os.map yg) w')
theorem ajS{t:Tnt}(ht:zH t=true):(obL t).length≤37:=by
 simp only [zH,yV,xM,Bool.and_eq_true,decide_eq_true_eq]at ht
 rw [obL,qF]
 simp only [List.length_map,List.length_cons,List.length_append]
 have:=ht.2.2.2.1.1
 have:=ht.2.2.2.2.2.1.1
 omega
theorem agl(p:Pol)(h:yf p=true):wE (yY p)=0:=by
 simp only [yf,Bool.and_eq_true,decide_eq_true_eq,List.all_eq_true]at h
 obtain⟨h1,h2,h3,h4,h5,h6,h7,h8⟩:=h
 obtain⟨o1,o2,o3⟩:=abI _ h3
 have e1:(yU p.forced.xs).length=1+(zW p.forced.xs).length:=by simp [yU];omega
 refine ade ?_ ?_
 ·have e2:(p.log.xs.flatMap zR).length≤p.log.xs.length * 4:=aaY zR _ 4 fun x _=>by simp [zR]
  simp only [yY,List.length_cons,List.length_append,List.length_map]
  omega
 ·intro s hs
  simp only [yY,List.mem_cons,List.mem_append,List.mem_flatMap,List.mem_map]at hs
  rcases hs with rfl | rfl | hs | rfl | ⟨x,hx,hs⟩ | ⟨t,ht,rfl⟩
  ·rw [zN];decide
  ·rw [zN];decide
  ·exact Nat.le_trans (o3 s (by rw [yU];exact List.mem_cons_of_mem _ hs)) (by decide)
  ·rw [zN];decide
  ·have hl:=h5 x hx
   simp only [liB,Bool.and_eq_true,Bool.or_eq_true,decide_eq_true_eq]at hl
   simp only [zR,List.mem_cons,List.not_mem_nil,or_false]at hs
   rcases hs with rfl | rfl | rfl | rfl
   ·rcases hl.1 with h | h
    ·omega
    ·exact Nat.le_trans (xe h) (by decide)
   ·rw [zN];decide
   ·exact Nat.le_trans (aau hl.2.1) (by decide)
   ·rw [zN];decide
  ·have:=h6 t ht
   simp only [zH,Bool.and_eq_true]at this
   exact Nat.le_trans (xe this.1) (by decide)
theorem adl(w:World)(p:Pol)(hM:xf w)(h:Pol.At w 0 w.heap.size p):
 Calls Tryz.prog 23 #[.agg p.cells.toArray] w (apk w p):=by
 obtain⟨i0,hi0,hz0,hz1,hz2⟩:=info_parts aco
 have HCk:=hiD (fun W (hW:Ext w W)=>aez W p (hM.ext hW) (h.on hW (Nat.le_refl _)))
 cases hb:yf p with
 | false=>
   rw [abe hb]at HCk
   refine Calls.mono (R:=fun e w'=>e= .returned (.tuple #[.slice none 0 0,.int .i64 9])∧Ext w w') ?_ fun e W q=> .inl ⟨hb,q⟩
   clear h hM hb
   obtain⟨cap,⟨tA,tn,tc,tx⟩,⟨fA,fn,fc,fx⟩,⟨lA,ln,lc,lx⟩⟩:=p
   simp only [Pol.cells,Sl.val]at *
   go_enter Tryz.func23,Tryz.ntmps23
   go_upto_region 1 with fail
   generalize hwH:World.alloc w _=w1;have HH:=hiD (Heap.one hwH);clear hwH
   go_wp2_with (refine lSX HH zD 0 ?_)
   refine(HCk.out _ HH.out.ext).mono ?_
   rintro e w2 ⟨rfl,e2⟩
   go_wp2_with fail
   go_ret2
   exact⟨rfl,HH.out.ext.trans e2⟩
 | true=>
   refine Calls.mono (R:=fun e w'=> ∃(A:Option Addr) (c:Nat) (os:List Ob),e= .returned (.tuple #[.slice A os.length c,.int .i64 0])∧(os.map obk).Perm (obP p)∧aa9 os∧Heap w (.row 56 3 (.slice A os.length c) os.length (os.flatMap Ob.cells)::os.map yg) w') ?_ fun e W q=> .inr ⟨hb,q⟩
   have hb0:=hb
   simp only [yf,Bool.and_eq_true,decide_eq_true_eq,List.all_eq_true]at hb0
   obtain⟨q1,_,q3,q4,_,q6,_,_⟩:=hb0
   have hFs:p.forced.n≤16:=by
    obtain⟨o1,_,_⟩:=abI _ q3
    have e1:(yU p.forced.xs).length=1+(zW p.forced.xs).length:=by simp [yU];omega
    rw [xR]at e1
    rw [h.forced.len];omega
   have HPh:=hiD (fun W (hW:Ext w W)=>akb W p (h.on hW (Nat.le_refl _)) hFs (by rw [h.log.len];exact q4) (by rw [h.ten.len];exact q1) (agl p hb))
   rw [show xW p=0 by rw [xW,if_pos hb]]at HCk
   have HTo:=hiD (fun k (hk:k < p.ten.xs.length) W (hW:Ext w W)=>(ahl W p.ten.xs[k] (Tnt.At.on (h.ten.all _ (List.getElem_mem hk)) hW (Nat.le_refl _)) (fun W' hW'=>adv W' p.ten.xs[k] (hM.ext (hW.trans hW')) (Tnt.At.on (h.ten.all _ (List.getElem_mem hk)) (hW.trans hW') (Nat.le_refl _)))).mono (R':=fun e w'=> ∃(A:Option Addr) (c:Nat) (os:List Ob),e= .returned (.tuple #[.slice A os.length c,.int .i64 0])∧os.map obk=obL p.ten.xs[k]∧Heap W (.row 56 3 (.slice A os.length c) os.length (os.flatMap Ob.cells)::os.map yg) w') fun e w' q=>by
    rcases q with⟨q,_⟩ | ⟨_,q⟩
    ·rw [q6 _ (List.getElem_mem hk)]at q;cases q
    ·exact q)
   have HBl:=hiD (fun k (hk:k < p.ten.xs.length)=>ajS (q6 _ (List.getElem_mem hk)))
   have HTn:=hiD h.ten
   have hT4:p.ten.n≤4:=by rw [h.ten.len];exact q1
   have HOb:=hiD (show obP p=(kP,zu (yY p),zL)::p.ten.xs.flatMap obL from rfl)
   generalize zu (yY p)=hd at *
   generalize obP p=OB at *
   clear h hM hb q1 q3 q4 q6 hFs
   obtain⟨cap,⟨tA,tn,tc,tx⟩,⟨fA,fn,fc,fx⟩,⟨lA,ln,lc,lx⟩⟩:=p
   have hTn:=hiD (show tn=tx.length from HTn.out.len)
   simp only [Pol.cells,Sl.val]at *
   go_enter Tryz.func23,Tryz.ntmps23
   go_upto_region 1 with fail
   generalize hwH:World.alloc w _=w1;have HH:=hiD (Heap.one hwH);clear hwH
   go_wp2_with (refine lSX HH zD 0 ?_)
   refine cX HH (HCk.out _ HH.out.ext) ?_
   clear HH
   intro w2 HH
   clear HCk
   go_wp2_with (refine lSX HH zD 0 ?_)
   refine(HPh.out _ HH.out.ext).mono ?_
   rintro e w3 ⟨A3,m3,c3,rfl,hown,hm3,e3⟩
   replace HH:=hiD (HH.out.addRow e3 hown)
   clear hown e3 HPh
   have HM3:=hiD hm3
   clear hm3
   go_upto_region 8 with fail
   generalize hwA:World.alloc w3 _=w4
   have HH2:=hiD (HH.out.allocRow hwA (n:=1) (size:=3) rfl (by simp [maxLen]))
   clear hwA HH
   generalize w3.heap.size=rb at *
   obtain⟨pv,hpv⟩: ∃pv:List Value,pv= [.int .i64 cap,.slice tA tn tc,.slice fA fn fc,.slice lA ln lc]:=⟨_,rfl⟩
   rw [←hpv]at HH2
   have HPV:=hiD hpv
   clear hpv
   have HH3:=hiD (show Heap w [.row 56 3 (.slice (some ⟨rb,0,none⟩) 1 1) 1 ([(⟨kP,⟨A3,m3,c3,hd⟩,zL⟩:Ob)].flatMap Ob.cells),yg ⟨kP,⟨A3,m3,c3,hd⟩,zL⟩,.box w.heap.size pv] w4 from HH2.out)
   have HH0:=hiD (show Heap w (.row 56 3 (.slice (some ⟨rb,0,none⟩) 1 1) 1 ([(⟨kP,⟨A3,m3,c3,hd⟩,zL⟩:Ob)].flatMap Ob.cells):: .box w.heap.size pv:: [(⟨kP,⟨A3,m3,c3,hd⟩,zL⟩:Ob)].map yg) w4 from
    HH3.out.perm (List.Perm.cons _ (List.Perm.swap _ _ [])))
   clear HH3
   clear HH2
   have c1:=(HH0.out.boxAt 1 rfl).cell 1 (.slice tA tn tc) (by rw [HPV.out];rfl)
   go_wp2_with fail
   clear c1
   go_loopw [7,31] (fun v i wr=> ∃(k:Nat) (A:Option Addr) (c:Nat) (os:List Ob),k≤tn∧i= .int .i64 (k:Int)∧v= .slice A os.length c∧os.length≤1+k * 37∧0 < os.length∧Hid (os.map obk=(kP,hd,zL)::(tx.take k).flatMap obL)∧Hid (Heap w (.row 56 3 (.slice A os.length c) os.length (os.flatMap Ob.cells):: .box w.heap.size pv::os.map yg) wr)) (fun _ i _=>tn - (intOf i).toNat)
   case atStart=>exact⟨0,_,_, [⟨kP,⟨A3,m3,c3,hd⟩,zL⟩],Nat.zero_le _,rfl,rfl,Nat.le_refl _,Nat.zero_lt_one,hiD rfl,HH0⟩
   case round=>
    clear HH0
    obtain⟨k,A,c,os,hk,rfl,rfl,hol,hop,HM,HH⟩:=hrel
    by_cases hlt:k < tn
    ·have l1:k < tx.length:=by rw [←hTn.out];exact hlt
     obtain⟨b1,o1,hA1,_,hb1,G⟩:=zh (size:=7) (fun _=>rfl) (by omega) HTn.out.rd l1
     dsimp only at hA1
     subst hA1
     have HS:=hiD (show(tx.take (k+1)).flatMap obL=(tx.take k).flatMap obL++obL tx[k]by rw [List.take_succ_eq_append_getElem l1,List.flatMap_append];simp)
     have HGw:=hiD (fun i u hu=>(Below.cell HH.out.ext hb1).trans (G i u hu))
     have HTk:=hiD (HTo.out k l1)
     have hbl:=HBl.out k l1
     clear G
     generalize tx[k]=x at *
     generalize obL x=ox at *
     obtain⟨name,quota,next,⟨sA,sn,sc,ss⟩,⟨gA,gn,gc,gs⟩,⟨aA,an,ac,ax⟩,⟨mA,mn,mc,ms⟩⟩:=x
     simp only [Tnt.cells,Sl.val]at HGw HTk
     have hkn:(k:Int) < (tn:Int):=by omega
     generalize hosl:os.length=on at *
     have Hosl:=hiD hosl
     clear hosl
     go_upto_region 11 with(first | (refine yF HGw.out rfl zt (by kernel_rfl) rfl rfl rfl ?_) | (refine sSX (hiD (HH.out.alloc _ _)) zt 0 ?_;clear HH;intro wS HH))
     generalize wr.heap.size=xb at *
     clear HGw
     go_wp2_with (refine lSX HH zt 0 ?_)
     refine(HTk.out _ HH.out.ext).mono ?_
     rintro e w5 ⟨A5,c5,os5,rfl,ho5,h5⟩
     have HJ:=hiD ((HH.out.joinR h5).swap)
     have HO5:=hiD ho5
     have hl5:os5.length≤37:=by rw [←ho5,List.length_map]at hbl;exact hbl
     clear HH h5 ho5 hbl HTk
     have HH:=hiD (Heap.perm HJ.out (List.Perm.cons _ List.perm_append_comm))
     clear HJ
     generalize hol5:os5.length=on5 at *
     have Hol5:=hiD hol5
     clear hol5
     go_wp2_with (refine qk (e:=56) (size:=3) (bytes:=64) (news:=os5.flatMap Ob.cells) (lo:=w.heap.size) (.tmp 43) (.tmp 44) _ rfl rfl Tryz.underlying33 hi0 hz0 hz1 hz2 rfl (by omega) HH.out 2 rfl rfl (m:=on5) rfl (by rw [afP,Hol5.out]) (HH.out.rowRd 0 rfl) (by intro u hu;obtain⟨o,_,ho⟩:=List.mem_flatMap.1 hu;simp only [Ob.cells,Sl.val,List.mem_cons,List.not_mem_nil,or_false]at ho;rcases ho with rfl | rfl | rfl <;> rfl) (by simp only [maxLen];omega) (by omega) ?_;rintro v' w' h' ⟨A',c',rfl⟩)
     have HH2:=hiD (show Heap w (.row 56 3 (.slice A' (on+on5) c') (os++os5).length ((os++os5).flatMap Ob.cells):: .box w.heap.size pv::(os++os5).map yg) w' from by
      rw [List.length_append,Hosl.out,Hol5.out,List.flatMap_append,List.map_append]
      exact h'.tail.tail)
     clear h' HH
     have HM2:=hiD (show(os++os5).map obk=(kP,hd,zL)::(tx.take (k+1)).flatMap obL from by rw [List.map_append,HM.out,HO5.out,HS.out];rfl)
     have Hl:=hiD (show(os++os5).length=on+on5 by rw [List.length_append,Hosl.out,Hol5.out])
     go_roundw
     case rel=>exact⟨k+1,A',c',os++os5,by omega,by go_num,by rw [Hl.out],by rw [Hl.out];omega,by rw [Hl.out];omega,HM2,by rw [Hl.out]at HH2 ⊢;exact HH2⟩
     case measure=>(first | (simp [intOf];done) | (simp [intOf];omega))
    ·obtain rfl:k=tn:=by omega
     have ht:tx.take k=tx:=List.take_of_length_le (by rw [←hTn.out];exact Nat.le_refl _)
     rw [ht,←HOb.out]at HM
     clear ht hlt hk
     obtain⟨g,c',hA⟩:=HH.out.rowForm 0 rfl hop
     simp only [Value.slice.injEq,true_and]at hA
     obtain⟨rfl,rfl⟩:=hA
     go_wp2_with fail
     refine(akD (j:=0) os HH.out rfl rfl (by omega)).mono ?_
     rintro e w6 ⟨rfl,os',hp,hso,h6⟩
     have HF:=hiD (show Heap w (.row 56 3 (.slice (some ⟨g,0,none⟩) os.length c) os'.length (os'.flatMap Ob.cells)::os'.map yg) w6 from by
      have e1:=hp.length_eq
      have h7:Heap w (.row 56 3 (.slice (some ⟨g,0,none⟩) os.length c) os.length (os'.flatMap Ob.cells)::os.map yg) w6:=(h6.perm (List.Perm.swap _ _ _)).tail
      rw [e1]
      exact h7.perm ((hp.map yg).cons _))
     have HPr:=hiD (show(os'.map obk).Perm OB from by rw [←HM.out];exact hp.map obk)
     have he:=hp.length_eq
     clear HH h6 hp
     go_wp2_with fail
     go_ret2
     exact⟨some ⟨g,0,none⟩,c,os',by rw [he];rfl,HPr.out,hso,by rw [he];rw [he]at HF;exact HF.out⟩
end Go.Proofs.YtckaneapjpiocaaGreatDoor
