/- The texts Srt, Oso, Pa, Pob, Ppn, Rf3 in one file. -/
import Derived.Shelf.SlSortCmp.WholeK
import Derived.Test.YtckaneapjpiocaaGreatDoorP32
import Derived.Test.YtckaneapjpiocaaGreatDoorP34
set_option linter.unusedVariables false
set_option linter.unusedSimpArgs false
set_option maxHeartbeats 8000000
set_option maxRecDepth 100000
namespace Go.Proofs
open Go.Shelf
def Tryz.sortObj_ren:Go.Shelf.Ren:=⟨fun | 6=>60 | 15=>122 | 14=>121 | 28=>170 | 29=>171 | 20=>162 | 21=>163 | 22=>164 | 23=>165 | 24=>166 | 25=>167 | 26=>168 | 27=>169 | 46=>200 | 47=>201 | 48=>202 | 49=>203 | 50=>204 | 57=>224 | n=>n,fun | 22=>33 | 24=>56 | 25=>106 | 3=>3 | 39=>168 | 0=>0 | 53=>214 | 55=>42 | 4=>4 | 46=>207 | 45=>206 | 50=>211 | 5=>5 | 9=>9 | 66=>253 | 70=>257 | 76=>278 | 77=>161 | n=>n,fun | n=>n⟩
theorem Tryz.sortObj:Go.Proofs.SlLaysF0.n6 Tryz.prog Tryz.sortObj_ren:={
 mixed:=by kernel_rfl
 f6:=⟨Tryz.f60.name,by decide,Tryz.func60.trans (congrArg some (by kernel_rfl))⟩
 f14:=⟨Tryz.f121.name,by decide,Tryz.func121.trans (congrArg some (by kernel_rfl))⟩
 f15:=Tryz.func122.trans (congrArg some (by kernel_rfl))
 f20:=⟨Tryz.f162.name,by decide,Tryz.func162.trans (congrArg some (by kernel_rfl))⟩
 f21:=⟨Tryz.f163.name,by decide,Tryz.func163.trans (congrArg some (by kernel_rfl))⟩
 f22:=⟨Tryz.f164.name,by decide,Tryz.func164.trans (congrArg some (by kernel_rfl))⟩
 f23:=⟨Tryz.f165.name,by decide,Tryz.func165.trans (congrArg some (by kernel_rfl))⟩
 f24:=⟨Tryz.f166.name,by decide,Tryz.func166.trans (congrArg some (by kernel_rfl))⟩
 f25:=⟨Tryz.f167.name,by decide,Tryz.func167.trans (congrArg some (by kernel_rfl))⟩
 f26:=⟨Tryz.f168.name,by decide,Tryz.func168.trans (congrArg some (by kernel_rfl))⟩
 f27:=⟨Tryz.f169.name,by decide,Tryz.func169.trans (congrArg some (by kernel_rfl))⟩
 f28:=Tryz.func170.trans (congrArg some (by kernel_rfl))
 f29:=Tryz.func171.trans (congrArg some (by kernel_rfl))
 f46:=⟨Tryz.f200.name,by decide,Tryz.func200.trans (congrArg some (by kernel_rfl))⟩
 f47:=Tryz.func201.trans (congrArg some (by kernel_rfl))
 f48:=Tryz.func202.trans (congrArg some (by kernel_rfl))
 f49:=⟨Tryz.f203.name,by decide,Tryz.func203.trans (congrArg some (by kernel_rfl))⟩
 f50:=⟨Tryz.f204.name,by decide,Tryz.func204.trans (congrArg some (by kernel_rfl))⟩
 f57:=⟨Tryz.f224.name,by decide,Tryz.func224.trans (congrArg some (by kernel_rfl))⟩
 t0:=Tryz.underlying0
 a0:=Tryz.isAgg0
 z0:=Tryz.sizeOf0
 v0:=Tryz.zeroValue0
 t3:=Tryz.underlying3
 a3:=Tryz.isAgg3
 z3:=Tryz.sizeOf3
 v3:=Tryz.zeroValue3
 t4:=Tryz.underlying4
 a4:=Tryz.isAgg4
 z4:=Tryz.sizeOf4
 v4:=Tryz.zeroValue4
 t5:=Tryz.underlying5
 a5:=Tryz.isAgg5
 z5:=Tryz.sizeOf5
 v5:=Tryz.zeroValue5
 t9:=Tryz.underlying9
 a9:=Tryz.isAgg9
 z9:=Tryz.sizeOf9
 v9:=Tryz.zeroValue9
 t22:=Tryz.underlying33
 a22:=Tryz.isAgg33
 z22:=Tryz.sizeOf33
 v22:=Tryz.zeroValue33
 t25:=Tryz.underlying106
 a25:=Tryz.isAgg106
 z25:=Tryz.sizeOf106
 v25:=Tryz.zeroValue106
 t39:=Tryz.underlying168
 a39:=Tryz.isAgg168
 z39:=Tryz.sizeOf168
 v39:=Tryz.zeroValue168
 t45:=Tryz.underlying206
 a45:=Tryz.isAgg206
 z45:=Tryz.sizeOf206
 v45:=Tryz.zeroValue206
 t46:=Tryz.underlying207
 a46:=Tryz.isAgg207
 z46:=Tryz.sizeOf207
 v46:=Tryz.zeroValue207
 t50:=Tryz.underlying211
 a50:=Tryz.isAgg211
 z50:=Tryz.sizeOf211
 v50:=Tryz.zeroValue211
 t53:=Tryz.underlying214
 a53:=Tryz.isAgg214
 z53:=Tryz.sizeOf214
 v53:=Tryz.zeroValue214
 t55:=Tryz.underlying42
 a55:=Tryz.isAgg42
 z55:=Tryz.sizeOf42
 v55:=Tryz.zeroValue42
 t66:=Tryz.underlying253
 a66:=Tryz.isAgg253
 z66:=Tryz.sizeOf253
 v66:=Tryz.zeroValue253
 t70:=Tryz.underlying257
 a70:=Tryz.isAgg257
 z70:=Tryz.sizeOf257
 v70:=Tryz.zeroValue257
 t76:=Tryz.underlying278
 a76:=Tryz.isAgg278
 z76:=Tryz.sizeOf278
 v76:=Tryz.zeroValue278
 t77:=Tryz.underlying161
 a77:=Tryz.isAgg161
 z77:=Tryz.sizeOf161
 v77:=Tryz.zeroValue161 }
end Go.Proofs
namespace Go.Proofs.YtckaneapjpiocaaGreatDoor
open Go.RowKit Go.Maps Go.Sort Go.Shelf
def abu(a b:ByteArray):Int:=if zd a b=true then -1 else if zd b a=true then 1 else 0
theorem ae2(w:World)(a:ByteArray):Calls Tryz.prog 123 #[.string a] w fun e w'=>e= .returned (.bool false)∧w'=w:=by
 go_enter Tryz.func123,Tryz.ntmps123
 go_wp2_with fail
 go_ret
 exact⟨rfl,rfl⟩
theorem af4(w:World)(a b:ByteArray):Calls Tryz.prog 62 #[.string a,.string b] w fun e w'=>e= .returned (.int .i64 (abu a b))∧w'=w:=by
 have HN:=Lib.hid (ae2)
 have HV:=Lib.hid (show abu a b=if zd a b=true then -1 else if zd b a=true then 1 else 0 from rfl)
 generalize abu a b=V at *
 cases h1:zd a b with
 | true=>
   have hq:Op.bytesLess a.toList b.toList=true:=h1
   obtain rfl:V= -1:=by rw [HV.out,if_pos h1]
   clear HV h1
   go_enter Tryz.func62,Tryz.ntmps62
   go_wp2_with ((refine(HN.out _ _).mono ?_);rintro e w2 ⟨rfl,rfl⟩)
   go_ret
   exact⟨rfl,rfl⟩
 | false=>
   have hq:Op.bytesLess a.toList b.toList=false:=h1
   have q:=yq b a
   cases h2:zd b a with
   | true=>
     obtain rfl:V=1:=by rw [HV.out,if_neg (by rw [h1];decide),if_pos h2]
     rw [h2]at q
     rw [h1,Bool.false_or]at q
     have q2:(a.toList == b.toList)=false:=q
     clear HV h1 h2 q
     go_enter Tryz.func62,Tryz.ntmps62
     go_wp2_with ((refine(HN.out _ _).mono ?_);rintro e w2 ⟨rfl,rfl⟩)
     go_ret
     exact⟨rfl,rfl⟩
   | false=>
     obtain rfl:V=0:=by rw [HV.out,if_neg (by rw [h1];decide),if_neg (by rw [h2];decide)]
     rw [h2]at q
     rw [h1,Bool.false_or]at q
     have q2:(a.toList == b.toList)=true:=q
     clear HV h1 h2 q
     go_enter Tryz.func62,Tryz.ntmps62
     go_wp2_with ((refine(HN.out _ _).mono ?_);rintro e w2 ⟨rfl,rfl⟩)
     go_ret
     exact⟨rfl,rfl⟩
def ab2(x y:Ob):Int:=abu x.key y.key
theorem agU(x y:Ob)(W:World):Calls Tryz.prog 61 #[.agg x.cells.toArray,.agg y.cells.toArray] W fun e w'=>e= .returned (.int .i64 (ab2 x y))∧ ∃q os',w'=grow (W.drewN q) os':=by
 have HC:=Lib.hid (fun W=>af4 W x.key y.key)
 rw [show ab2 x y=abu x.key y.key from rfl]
 generalize abu x.key y.key=V at *
 obtain⟨k1,⟨dA,dn,dc,dx⟩,⟨qA,qn,qc,qx⟩⟩:=x
 obtain⟨k2,⟨eA,en,ec,ex⟩,⟨rA,rn,rc,rx⟩⟩:=y
 simp only [Ob.cells,Sl.val]
 go_enter Tryz.func61,Tryz.ntmps61
 go_wp2_with ((refine(HC.out _).mono ?_);rintro e w2 ⟨rfl,rfl⟩)
 go_ret
 exact⟨rfl,0,_,by rw [alloc_eq_grow,alloc_eq_grow,grow_grow];rfl⟩
theorem ltO(x y:Ob):ltOf ab2 x y=zd x.key y.key:=by
 unfold ltOf ab2 abu
 cases h1:zd x.key y.key <;> cases h2:zd y.key x.key <;> simp
theorem toList_inj{a b:ByteArray}(h:(a.toList == b.toList)=true):a=b:=by
 have:=yh a b
 rw [h]at this
 exact of_decide_eq_true this.symm
instance:Inhabited Ob:=⟨⟨.empty,⟨none,0,0, []⟩,⟨none,0,0, []⟩⟩⟩
theorem ahI:SWO (ltOf ab2) where
 irrefl x:=by rw [ltO];exact xY _
 trans x y z h1 h2:=by rw [ltO]at *;exact qu h1 h2
 ntrans x y z h1 h2:=by
  rw [ltO]at *
  cases h:zd x.key z.key with
  | false=>rfl
  | true=>
    have q:=yq x.key y.key
    rw [h1]at q
    rcases Bool.or_eq_true _ _ |>.mp q with q | q
    ·have:=qu q h
     rw [h2]at this;cases this
    ·rw [toList_inj q]at h2
     rw [h2]at h;cases h
theorem abY(l:List Ob):(l.flatMap Ob.cells).length=l.length * 3:=qB (cells:=Ob.cells) (fun _=>rfl) l
theorem acF(d:Array Ob):(flatK Ob.cells 3 d).toList=d.toList.flatMap Ob.cells:=by
 apply List.ext_getElem?
 intro i
 have hs:(flatK Ob.cells 3 d).size=d.size * 3:=size_flatK ..
 by_cases hi:i < d.size * 3
 ·have hk:i / 3 < d.size:=Nat.div_lt_of_lt_mul (by rw [Nat.mul_comm];exact hi)
  have h1:=get_flatK Ob.cells 3 d i hi
  have hij:i / 3 * 3+i % 3=i:=Nat.div_add_mod' i 3
  have h2:(d.toList.flatMap Ob.cells)[i]?=(Ob.cells (d.toList[i / 3]'(by rw [Array.length_toList];exact hk)))[i % 3]?:=by
   conv=>lhs;rw [←hij]
   exact aaF (cells:=Ob.cells) (size:=3) (fun _=>rfl) _ _ _ (Nat.mod_lt _ (by decide)) (by rw [Array.length_toList];exact hk)
  rw [h2,Array.getElem?_toList,Array.getElem?_eq_getElem (by rw [hs];exact hi)]
  rw [getElem!_pos _ i (by rw [hs];exact hi),getElem!_pos d (i / 3) hk]at h1
  have h3:i % 3 < (Ob.cells d[i / 3]).length:=Nat.mod_lt _ (by decide)
  have h4:(Ob.cells d[i / 3])[i % 3]! =(Ob.cells d[i / 3])[i % 3]'h3:=getElem!_pos (Ob.cells d[i / 3]) (i % 3) h3
  rw [h1,h4]
  have h5:d.toList[i / 3]'(by rw [Array.length_toList];exact hk)=d[i / 3]:=Array.getElem_toList _
  rw [h5]
  exact(List.getElem?_eq_getElem h3).symm
 ·rw [List.getElem?_eq_none (by rw [Array.length_toList,hs];omega),List.getElem?_eq_none (by rw [abY];simpa using hi)]
theorem aef{w:World}{base g cap n:Nat}{e:TypeId}{xs:List Value}(m:Nat)(os2:Array Obj)(d':Array Ob)(h:w.ownsRow base e 3 (.slice (some ⟨g,0,none⟩) n cap) n xs)(hn:d'.size=n):
 (sortWorldK Ob.cells 3 w g 0 m d' os2).ownsRow base e 3 (.slice (some ⟨g,0,none⟩) n cap) n (d'.toList.flatMap Ob.cells)∧Keep (fun b=>b≠g) w (sortWorldK Ob.cells 3 w g 0 m d' os2):=by
 obtain⟨h0,h1⟩:=h
 rcases h1 with⟨h1,_⟩ | ⟨g',cap',cur,hv,hb,hh,hc,hm,hz,hx⟩
 ·cases h1
 ·obtain⟨rfl,rfl⟩:g=g'∧cap=cap':=by simpa using hv
  have hlt:g < w.heap.size:=(Array.getElem?_eq_some_iff.1 hh).1
  have hheap:(sortWorldK Ob.cells 3 w g 0 m d' os2).heap=w.heap.modify g (onCells (putCells id 0 (flatK Ob.cells 3 d')))++os2:=rfl
  have hsz:(w.heap.modify g (onCells (putCells id 0 (flatK Ob.cells 3 d')))).size=w.heap.size:=by simp
  have hget: ∀k,k < w.heap.size→(sortWorldK Ob.cells 3 w g 0 m d' os2).heap[k]?=if g=k then(w.heap[k]?).map (onCells (putCells id 0 (flatK Ob.cells 3 d')))else w.heap[k]?:=fun k hk=>by
   rw [hheap,Array.getElem?_append_left (by rw [hsz];exact hk),Array.getElem?_modify]
  refine⟨⟨by rw [abY];simp [hn],.inr ⟨g,cap,putCells id 0 (flatK Ob.cells 3 d') cur,rfl,hb,?_,hc,hm,by simp [putCells,hz],?_⟩⟩,rfl,rfl,rfl,?_,fun k hk ho=>?_⟩
  ·rw [hget g hlt,if_pos rfl,hh];rfl
  ·have hs:(flatK Ob.cells 3 d').size=n * 3:=by rw [size_flatK,hn]
   rw [←acF]
   apply List.ext_getElem?
   intro i
   by_cases hi:i < n * 3
   ·have hic:i < cur.size:=by rw [hz];exact Nat.lt_of_lt_of_le hi (Nat.mul_le_mul_right 3 hc)
    have hif:i < (flatK Ob.cells 3 d').size:=by rw [hs];exact hi
    have a1:(flatK Ob.cells 3 d')[i]?=some ((flatK Ob.cells 3 d')[i]'hif):=Array.getElem?_eq_getElem hif
    have hip:i < (putCells id 0 (flatK Ob.cells 3 d') cur).size:=by simp only [putCells,Array.size_mapIdx];exact hic
    have a2:(putCells id 0 (flatK Ob.cells 3 d') cur)[i]?=some ((putCells id 0 (flatK Ob.cells 3 d') cur)[i]'hip):=Array.getElem?_eq_getElem hip
    have a3:(putCells id 0 (flatK Ob.cells 3 d') cur)[i]'hip=(flatK Ob.cells 3 d')[i]'hif:=by
     simp only [putCells,Array.getElem_mapIdx,Nat.zero_le,Nat.zero_add,true_and,Nat.sub_zero,id]
     rw [if_pos hif,getElem!_pos _ i hif]
    rw [List.getElem?_take_of_lt hi,Array.getElem?_toList,Array.getElem?_toList,a1,a2,a3]
   ·rw [List.getElem?_eq_none (by rw [List.length_take];omega),List.getElem?_eq_none (by rw [Array.length_toList,hs];omega)]
  ·rw [hheap,Array.size_append,hsz];omega
  ·rw [hget k hk,if_neg (fun e=>ho e.symm)]
theorem Heap.sorted{w0 w:World}{its:List It}{j g c n:Nat}{e:TypeId}{xs:List Value}(H:Heap w0 its w)(hj:its[j]?=some (.row e 3 (.slice (some ⟨g,0,none⟩) n c) n xs))(m:Nat)(os2:Array Obj)(d':Array Ob)(hn:d'.size=n):
 Heap w0 (its.set j (.row e 3 (.slice (some ⟨g,0,none⟩) n c) n (d'.toList.flatMap Ob.cells))) (sortWorldK Ob.cells 3 w g 0 m d' os2):=by
 obtain⟨h1,h2⟩:=aef m os2 d' (H.rowAt j hj) hn
 exact H.upd hj (h2.mono fun k hk e=>hk (by subst e;rfl)) h1 (fun k hk=> .inl hk) (fun k hk=> .inl hk) fun k hk=>(World.ownsRow.lt (H.rowAt j hj) k hk).1
def abR(l:List Ob):Prop:= ∀i j (hi:i < l.length) (hj:j < l.length),i < j→zd l[j].key l[i].key=false
theorem afi{w0 w:World}{its:List It}{j g c n:Nat}(os:List Ob)(H:Heap w0 its w)(hj:its[j]?=some (.row 56 3 (.slice (some ⟨g,0,none⟩) n c) n (os.flatMap Ob.cells)))(hn:n=os.length)(hN:n≤1000000):
 Calls Tryz.prog 60 #[.slice (some ⟨g,0,none⟩) n c,.func (.func 61) #[] #[]] w fun e w'=>
  e= .returned (.tuple #[])∧ ∃os':List Ob,os'.Perm os∧abR os'∧Heap w0 (its.set j (.row 56 3 (.slice (some ⟨g,0,none⟩) n c) n (os'.flatMap Ob.cells))) w':=by
 have hown:=H.rowAt j hj
 have hlt:g < w.heap.size:=by
  have:=hown
  obtain⟨_,⟨h1,_⟩ | ⟨g',cap',cur,hv,hb,hh,_⟩⟩:=this
  ·cases h1
  ·obtain⟨rfl,rfl⟩:g=g'∧c=cap':=by simpa using hv
   exact(Array.getElem?_eq_some_iff.1 hh).1
 have hH:HoldsK Ob.cells 3 w g 0 os.toArray:=fun t ht=>by
  have ht':t < n * 3:=by rw [size_flatK]at ht;simpa [hn]using ht
  have e1:=hown.cellAt t ht'
  have e2:(os.flatMap Ob.cells)[t]?=some ((flatK Ob.cells 3 os.toArray)[t]!):=by
   have:=acF os.toArray
   rw [show os.toArray.toList=os from rfl]at this
   rw [←this,Array.getElem?_toList,Array.getElem?_eq_getElem ht,getElem!_pos _ t ht]
  refine⟨by rw [Nat.zero_add,e1,e2];rfl,?_⟩
  obtain⟨_,⟨h1,_⟩ | ⟨g',cap',cur,hv,hb,hh,_⟩⟩:=hown
  ·cases h1
  ·obtain⟨rfl,rfl⟩:g=g'∧c=cap':=by simpa using hv
   simp [World.frozen?,hh]
 have eg: ∀args w,(callFunc 61 args).run Tryz.prog w= .ok (.enter 61 args) w:=abN Tryz.func61 (by kernel_rfl) rfl
 have hcon:=AnyQ.slices_SortFunc Tryz.sortObj 3 Tryz.isAgg56 Tryz.sizeOf56 Ob.cells (fun _=>rfl) (fun x v hv=>by simp [Ob.cells,Sl.val]at hv;rcases hv with rfl | rfl | rfl <;> rfl) ab2 ahI 61 #[] g 0 c os.toArray w eg (fun _ _ _ _ x y=>agU x y _) hH hlt (by simp;omega)
 have hsz:os.toArray.size=n:=by simp [hn]
 rw [hsz]at hcon
 refine hcon.mono ?_
 rintro e w' ⟨rfl,d',m,os2,hp,hs,rfl⟩
 obtain⟨p1,_,p2⟩:=hp
 rw [hsz]at p1
 have hx:d'.extract 0 n=d':=by rw [←p1];exact Array.extract_size
 have hx2:os.toArray.extract 0 n=os.toArray:=by rw [←hsz];exact Array.extract_size
 rw [hx,hx2]at p2
 refine⟨rfl,d'.toList,p2,fun i k hi hk hik=>?_,H.sorted hj m os2 d' p1⟩
 rw [Array.length_toList]at hi hk
 have:=hs i k (Nat.zero_le _) hik (by omega)
 rw [ltO,getElem!_pos d' i hi,getElem!_pos d' k hk]at this
 simpa using this
theorem aff(t:Tnt)(h:yi t=true): ∀p∈xE t,p.1.size≤200:=by
 simp only [yi,Bool.and_eq_true,decide_eq_true_eq]at h
 obtain⟨hn,_,_,hs,hg,hst,hl,hl2⟩:=h
 have hn:=z7 hn
 simp only [yv,Bool.and_eq_true,List.all_eq_true]at hs
 simp only [xo,Bool.and_eq_true,List.all_eq_true]at hst
 have k1:kT.size=1:=rfl
 have k2:kS.size=1:=rfl
 have k3:kG.size=1:=rfl
 intro x hx
 simp only [xE,List.mem_cons,List.mem_append,List.mem_map]at hx
 rcases hx with rfl | ⟨s,hs',rfl⟩ | ⟨s,hs',rfl⟩
 ·have:=xr [kT,t.name]
  simp only [List.map_cons,List.map_nil,List.sum_cons,List.sum_nil]at this
  show(zF [kT,t.name]).size≤200
  omega
 ·obtain⟨_,_,_,d1⟩:=aaX _ s (hs.2.2.1 s hs')
  have:=xr [kS,t.name,s.path]
  simp only [List.map_cons,List.map_nil,List.sum_cons,List.sum_nil]at this
  show(zF [kS,t.name,s.path]).size≤200
  omega
 ·obtain⟨_,_,_,d1⟩:=aaV s (hst.2.1 s hs')
  have:=xr [kG,t.name,s.into]
  simp only [List.map_cons,List.map_nil,List.sum_cons,List.sum_nil]at this
  show(zF [kG,t.name,s.into]).size≤200
  omega
theorem Heap.perm{w0 w:World}{its its2:List It}(H:Heap w0 its w)(hp:its2.Perm its):Heap w0 its2 w:=by
 have h1:its.Pairwise (fun x y=> ∀k,(x.own k→ ¬y.at' k)∧(y.own k→ ¬x.at' k)):=List.pairwise_iff_getElem.2 fun i j hi hj hij k=>
  ⟨fun h=>H.apart i j _ _ k (by omega) (List.getElem?_eq_getElem hi) (List.getElem?_eq_getElem hj) h,fun h=>H.apart j i _ _ k (by omega) (List.getElem?_eq_getElem hj) (List.getElem?_eq_getElem hi) h⟩
 have h2:=(List.Perm.pairwise_iff (R:=fun x y:It=> ∀k,(x.own k→ ¬y.at' k)∧(y.own k→ ¬x.at' k)) (fun h k=>⟨(h k).2,(h k).1⟩) hp).2 h1
 have h3:=List.pairwise_iff_getElem.1 h2
 refine⟨H.ext,fun i x hx=>?_,fun i j x y k hij hx hy ho=>?_⟩
 ·have hm:x∈its:=hp.mem_iff.1 (List.mem_of_getElem? hx)
  obtain⟨m,hm2,rfl⟩:=List.getElem_of_mem hm
  exact H.all m _ (List.getElem?_eq_getElem hm2)
 ·obtain⟨hi,rfl⟩:=List.getElem?_eq_some_iff.1 hx
  obtain⟨hj,rfl⟩:=List.getElem?_eq_some_iff.1 hy
  rcases Nat.lt_or_ge i j with h | h
  ·exact(h3 i j hi hj h k).1 ho
  ·exact(h3 j i hj hi (by omega) k).2 ho
def kP:ByteArray:=⟨#[112]⟩
def obP(p:Pol):List (ByteArray×List UInt8×Loc):=(kP,zM (yQ p),zL)::p.ten.xs.flatMap obL
def ahL(w:World)(p:Pol)(e:Ending)(w':World):Prop:=
 (yr p=false∧e= .returned (.tuple #[.slice none 0 0,.int .i64 9])∧Ext w w')∨
 (yr p=true∧ ∃(A:Option Addr) (c:Nat) (os:List Ob),e= .returned (.tuple #[.slice A os.length c,.int .i64 0])∧(os.map obk).Perm (obP p)∧abR os∧Heap w (.row 56 3 (.slice A os.length c) os.length (os.flatMap Ob.cells)::os.map yw) w')
theorem ae3{t:Tnt}(ht:yi t=true):(obL t).length≤37:=by
 simp only [yi,yv,xo,Bool.and_eq_true,decide_eq_true_eq]at ht
 rw [obL,xE]
 simp only [List.length_map,List.length_cons,List.length_append]
 have:=ht.2.2.2.1.1
 have:=ht.2.2.2.2.2.1.1
 omega
theorem aex(p:Pol)(h:yr p=true):wE (yQ p)=0:=by
 simp only [yr,Bool.and_eq_true,decide_eq_true_eq,List.all_eq_true]at h
 obtain⟨h1,h2,h3,h4,h5,h6,h7,h8⟩:=h
 obtain⟨o1,o2,o3⟩:=qE _ h3
 have e1:(yC p.forced.xs).length=1+(yf p.forced.xs).length:=by simp [yC];omega
 refine aaH ?_ ?_
 ·have e2:(p.log.xs.flatMap zO).length≤p.log.xs.length * 4:=xV zO _ 4 fun x _=>by simp [zO]
  simp only [yQ,List.length_cons,List.length_append,List.length_map]
  omega
 ·intro s hs
  simp only [yQ,List.mem_cons,List.mem_append,List.mem_flatMap,List.mem_map]at hs
  rcases hs with rfl | rfl | hs | rfl | ⟨x,hx,hs⟩ | ⟨t,ht,rfl⟩
  ·rw [zA];decide
  ·rw [zA];decide
  ·exact Nat.le_trans (o3 s (by rw [yC];exact List.mem_cons_of_mem _ hs)) (by decide)
  ·rw [zA];decide
  ·have hl:=h5 x hx
   simp only [liB,Bool.and_eq_true,Bool.or_eq_true,decide_eq_true_eq]at hl
   simp only [zO,List.mem_cons,List.not_mem_nil,or_false]at hs
   rcases hs with rfl | rfl | rfl | rfl
   ·rcases hl.1 with h | h
    ·omega
    ·exact Nat.le_trans (z7 h) (by decide)
   ·rw [zA];decide
   ·exact Nat.le_trans (xC hl.2.1) (by decide)
   ·rw [zA];decide
  ·have:=h6 t ht
   simp only [yi,Bool.and_eq_true]at this
   exact Nat.le_trans (z7 this.1) (by decide)
theorem abm(w:World)(p:Pol)(hM:yJ w)(h:Pol.At w 0 w.heap.size p):
 Calls Tryz.prog 23 #[.agg p.cells.toArray] w (ahL w p):=by
 obtain⟨i0,hi0,hz0,hz1,hz2⟩:=info_parts aeG
 have HCk:=Lib.hid (fun W (hW:Ext w W)=>ac4 W p (hM.ext hW) (h.on hW (Nat.le_refl _)))
 cases hb:yr p with
 | false=>
   rw [xD hb]at HCk
   refine Calls.mono (R:=fun e w'=>e= .returned (.tuple #[.slice none 0 0,.int .i64 9])∧Ext w w') ?_ fun e W q=> .inl ⟨hb,q⟩
   clear h hM hb
   obtain⟨cap,⟨tA,tn,tc,tx⟩,⟨fA,fn,fc,fx⟩,⟨lA,ln,lc,lx⟩⟩:=p
   simp only [Pol.cells,Sl.val]at *
   go_enter Tryz.func23,Tryz.ntmps23
   go_upto_region 1 with fail
   generalize hwH:World.alloc w _=w1;have HH:=Lib.hid (Heap.one hwH);clear hwH
   go_wp2_with (refine zp HH.out zS (by kernel_rfl) rfl rfl rfl 0 rfl rfl ?_)
   refine(HCk.out _ HH.out.ext).mono ?_
   rintro e w2 ⟨rfl,e2⟩
   go_wp2_with fail
   go_ret2
   exact⟨rfl,HH.out.ext.trans e2⟩
 | true=>
   refine Calls.mono (R:=fun e w'=> ∃(A:Option Addr) (c:Nat) (os:List Ob),e= .returned (.tuple #[.slice A os.length c,.int .i64 0])∧(os.map obk).Perm (obP p)∧abR os∧Heap w (.row 56 3 (.slice A os.length c) os.length (os.flatMap Ob.cells)::os.map yw) w') ?_ fun e W q=> .inr ⟨hb,q⟩
   have hb0:=hb
   simp only [yr,Bool.and_eq_true,decide_eq_true_eq,List.all_eq_true]at hb0
   obtain⟨q1,_,q3,q4,_,q6,_,_⟩:=hb0
   have hFs:p.forced.n≤16:=by
    obtain⟨o1,_,_⟩:=qE _ q3
    have e1:(yC p.forced.xs).length=1+(yf p.forced.xs).length:=by simp [yC];omega
    rw [yK]at e1
    rw [h.forced.len];omega
   have HPh:=Lib.hid (fun W (hW:Ext w W)=>aeS W p (h.on hW (Nat.le_refl _)) hFs (by rw [h.log.len];exact q4) (by rw [h.ten.len];exact q1) (aex p hb))
   rw [show yU p=0 by rw [yU,if_pos hb]]at HCk
   have HTo:=Lib.hid (fun k (hk:k < p.ten.xs.length) W (hW:Ext w W)=>(ac5 W p.ten.xs[k] (Tnt.At.on (h.ten.all _ (List.getElem_mem hk)) hW (Nat.le_refl _)) (fun W' hW'=>abF W' p.ten.xs[k] (hM.ext (hW.trans hW')) (Tnt.At.on (h.ten.all _ (List.getElem_mem hk)) (hW.trans hW') (Nat.le_refl _)))).mono (R':=fun e w'=> ∃(A:Option Addr) (c:Nat) (os:List Ob),e= .returned (.tuple #[.slice A os.length c,.int .i64 0])∧os.map obk=obL p.ten.xs[k]∧Heap W (.row 56 3 (.slice A os.length c) os.length (os.flatMap Ob.cells)::os.map yw) w') fun e w' q=>by
    rcases q with⟨q,_⟩ | ⟨_,q⟩
    ·rw [q6 _ (List.getElem_mem hk)]at q;cases q
    ·exact q)
   have HBl:=Lib.hid (fun k (hk:k < p.ten.xs.length)=>ae3 (q6 _ (List.getElem_mem hk)))
   have HTn:=Lib.hid h.ten
   have hT4:p.ten.n≤4:=by rw [h.ten.len];exact q1
   have HOb:=Lib.hid (show obP p=(kP,zM (yQ p),zL)::p.ten.xs.flatMap obL from rfl)
   generalize zM (yQ p)=hd at *
   generalize obP p=OB at *
   clear h hM hb q1 q3 q4 q6 hFs
   obtain⟨cap,⟨tA,tn,tc,tx⟩,⟨fA,fn,fc,fx⟩,⟨lA,ln,lc,lx⟩⟩:=p
   have hTn:=Lib.hid (show tn=tx.length from HTn.out.len)
   simp only [Pol.cells,Sl.val]at *
   go_enter Tryz.func23,Tryz.ntmps23
   go_upto_region 1 with fail
   generalize hwH:World.alloc w _=w1;have HH:=Lib.hid (Heap.one hwH);clear hwH
   go_wp2_with (refine zp HH.out zS (by kernel_rfl) rfl rfl rfl 0 rfl rfl ?_)
   refine(HCk.out _ HH.out.ext).mono ?_
   rintro e w2 ⟨rfl,e2⟩
   replace HH:=Lib.hid (HH.out.later e2)
   clear e2 HCk
   go_wp2_with (refine zp HH.out zS (by kernel_rfl) rfl rfl rfl 0 rfl rfl ?_)
   refine(HPh.out _ HH.out.ext).mono ?_
   rintro e w3 ⟨A3,m3,c3,rfl,hown,hm3,e3⟩
   replace HH:=Lib.hid (HH.out.addRow e3 hown)
   clear hown e3 HPh
   have HM3:=Lib.hid hm3
   clear hm3
   go_upto_region 8 with fail
   generalize hwA:World.alloc w3 _=w4
   have HH2:=Lib.hid (HH.out.allocRow hwA (n:=1) (size:=3) rfl (by simp [maxLen]))
   clear hwA HH
   generalize w3.heap.size=rb at *
   obtain⟨pv,hpv⟩: ∃pv:List Value,pv= [.int .i64 cap,.slice tA tn tc,.slice fA fn fc,.slice lA ln lc]:=⟨_,rfl⟩
   rw [←hpv]at HH2
   have HPV:=Lib.hid hpv
   clear hpv
   have HH3:=Lib.hid (show Heap w [.row 56 3 (.slice (some ⟨rb,0,none⟩) 1 1) 1 ([(⟨kP,⟨A3,m3,c3,hd⟩,zL⟩:Ob)].flatMap Ob.cells),yw ⟨kP,⟨A3,m3,c3,hd⟩,zL⟩,.box w.heap.size pv] w4 from HH2.out)
   have HH0:=Lib.hid (show Heap w (.row 56 3 (.slice (some ⟨rb,0,none⟩) 1 1) 1 ([(⟨kP,⟨A3,m3,c3,hd⟩,zL⟩:Ob)].flatMap Ob.cells):: .box w.heap.size pv:: [(⟨kP,⟨A3,m3,c3,hd⟩,zL⟩:Ob)].map yw) w4 from
    HH3.out.perm (List.Perm.cons _ (List.Perm.swap _ _ [])))
   clear HH3
   clear HH2
   have c1:=(HH0.out.boxAt 1 rfl).cell 1 (.slice tA tn tc) (by rw [HPV.out];rfl)
   go_wp2_with fail
   clear c1
   go_loopw [7,31] (fun v i wr=> ∃(k:Nat) (A:Option Addr) (c:Nat) (os:List Ob),k≤tn∧i= .int .i64 (k:Int)∧v= .slice A os.length c∧os.length≤1+k * 37∧0 < os.length∧Hid (os.map obk=(kP,hd,zL)::(tx.take k).flatMap obL)∧Hid (Heap w (.row 56 3 (.slice A os.length c) os.length (os.flatMap Ob.cells):: .box w.heap.size pv::os.map yw) wr)) (fun _ i _=>tn - (intOf i).toNat)
   case atStart=>exact⟨0,_,_, [⟨kP,⟨A3,m3,c3,hd⟩,zL⟩],Nat.zero_le _,rfl,rfl,Nat.le_refl _,Nat.zero_lt_one,Lib.hid rfl,HH0⟩
   case round=>
    clear HH0
    obtain⟨k,A,c,os,hk,rfl,rfl,hol,hop,HM,HH⟩:=hrel
    by_cases hlt:k < tn
    ·have l1:k < tx.length:=by rw [←hTn.out];exact hlt
     obtain⟨b1,o1,hA1,_,hb1,G⟩:=zk (size:=7) (fun _=>rfl) (by omega) HTn.out.rd l1
     dsimp only at hA1
     subst hA1
     have HS:=Lib.hid (show(tx.take (k+1)).flatMap obL=(tx.take k).flatMap obL++obL tx[k]by rw [List.take_succ_eq_append_getElem l1,List.flatMap_append];simp)
     have HGw:=Lib.hid (fun i u hu=>(Below.cell HH.out.ext hb1).trans (G i u hu))
     have HTk:=Lib.hid (HTo.out k l1)
     have hbl:=HBl.out k l1
     clear G
     generalize tx[k]=x at *
     generalize obL x=ox at *
     obtain⟨name,quota,next,⟨sA,sn,sc,ss⟩,⟨gA,gn,gc,gs⟩,⟨aA,an,ac,ax⟩,⟨mA,mn,mc,ms⟩⟩:=x
     simp only [Tnt.cells,Sl.val]at HGw HTk
     have hkn:(k:Int) < (tn:Int):=by omega
     generalize hosl:os.length=on at *
     have Hosl:=Lib.hid hosl
     clear hosl
     go_upto_region 11 with(first | (refine zV HGw.out rfl zE (by kernel_rfl) rfl rfl rfl ?_) | (refine zt (HH.out.alloc _ _) zE rfl rfl rfl rfl 0 rfl rfl rfl rfl ?_;clear HH;intro wS HHS;have HH:=Lib.hid HHS;clear HHS))
     generalize wr.heap.size=xb at *
     clear HGw
     go_wp2_with (refine zp HH.out zE (by kernel_rfl) rfl rfl rfl 0 rfl rfl ?_)
     refine(HTk.out _ HH.out.ext).mono ?_
     rintro e w5 ⟨A5,c5,os5,rfl,ho5,h5⟩
     have HJ:=Lib.hid ((HH.out.joinR h5).swap)
     have HO5:=Lib.hid ho5
     have hl5:os5.length≤37:=by rw [←ho5,List.length_map]at hbl;exact hbl
     clear HH h5 ho5 hbl HTk
     have HH:=Lib.hid (Heap.perm HJ.out (List.Perm.cons _ List.perm_append_comm))
     clear HJ
     generalize hol5:os5.length=on5 at *
     have Hol5:=Lib.hid hol5
     clear hol5
     go_wp2_with (refine xI (e:=56) (size:=3) (bytes:=64) (news:=os5.flatMap Ob.cells) (lo:=w.heap.size) (.tmp 43) (.tmp 44) _ rfl rfl Tryz.underlying33 hi0 hz0 hz1 hz2 rfl (by omega) HH.out 2 rfl rfl (m:=on5) rfl (by rw [abY,Hol5.out]) (HH.out.rowRd 0 rfl) (by intro u hu;obtain⟨o,_,ho⟩:=List.mem_flatMap.1 hu;simp only [Ob.cells,Sl.val,List.mem_cons,List.not_mem_nil,or_false]at ho;rcases ho with rfl | rfl | rfl <;> rfl) (by simp only [maxLen];omega) (by omega) ?_;rintro v' w' h' ⟨A',c',rfl⟩)
     have HH2:=Lib.hid (show Heap w (.row 56 3 (.slice A' (on+on5) c') (os++os5).length ((os++os5).flatMap Ob.cells):: .box w.heap.size pv::(os++os5).map yw) w' from by
      rw [List.length_append,Hosl.out,Hol5.out,List.flatMap_append,List.map_append]
      exact h'.tail.tail)
     clear h' HH
     have HM2:=Lib.hid (show(os++os5).map obk=(kP,hd,zL)::(tx.take (k+1)).flatMap obL from by rw [List.map_append,HM.out,HO5.out,HS.out];rfl)
     have Hl:=Lib.hid (show(os++os5).length=on+on5 by rw [List.length_append,Hosl.out,Hol5.out])
     go_roundw
     case rel=>exact⟨k+1,A',c',os++os5,by omega,by go_num,by rw [Hl.out],by rw [Hl.out];omega,by rw [Hl.out];omega,HM2,by rw [Hl.out]at HH2 ⊢;exact HH2⟩
     case measure=>(first | (simp [intOf];done) | (simp [intOf];omega))
    ·obtain rfl:k=tn:=by omega
     have ht:tx.take k=tx:=List.take_of_length_le (by rw [←hTn.out];exact Nat.le_refl _)
     rw [ht,←HOb.out]at HM
     clear ht hlt hk
     obtain⟨g,c',hA⟩:=HH.out.rowForm 0 rfl hop
     simp only [Value.slice.injEq,true_and]at hA
     obtain⟨rfl,rfl⟩:=hA
     go_wp2_with fail
     refine(afi (j:=0) os HH.out rfl rfl (by omega)).mono ?_
     rintro e w6 ⟨rfl,os',hp,hso,h6⟩
     have HF:=Lib.hid (show Heap w (.row 56 3 (.slice (some ⟨g,0,none⟩) os.length c) os'.length (os'.flatMap Ob.cells)::os'.map yw) w6 from by
      have e1:=hp.length_eq
      have h7:Heap w (.row 56 3 (.slice (some ⟨g,0,none⟩) os.length c) os.length (os'.flatMap Ob.cells)::os.map yw) w6:=(h6.perm (List.Perm.swap _ _ _)).tail
      rw [e1]
      exact h7.perm ((hp.map yw).cons _))
     have HPr:=Lib.hid (show(os'.map obk).Perm OB from by rw [←HM.out];exact hp.map obk)
     have he:=hp.length_eq
     clear HH h6 hp
     go_wp2_with fail
     go_ret2
     exact⟨some ⟨g,0,none⟩,c,os',by rw [he];rfl,HPr.out,hso,by rw [he];rw [he]at HF;exact HF.out⟩
theorem acS{l m:List Nat}(h:l.Perm m):l.sum=m.sum:=by
 induction h with
 | nil=>rfl
 | cons x _ ih=>simp [ih]
 | swap x y l=>simp;omega
 | trans _ _ h1 h2=>exact h1.trans h2
theorem agk{α:Type}(p:α→Bool){l m:List α}(h:l.Perm m):l.any p=m.any p:=by
 rw [Bool.eq_iff_iff,List.any_eq_true,List.any_eq_true]
 exact⟨fun⟨x,h1,h2⟩=>⟨x,h.mem_iff.1 h1,h2⟩,fun⟨x,h1,h2⟩=>⟨x,h.mem_iff.2 h1,h2⟩⟩
theorem agS{l m:List ByteArray}(h:l.Perm m):(wB l).length=(wB m).length:=by
 have h1:wE l=wE m:=by rw [wE,wE,h.length_eq,agk _ h]
 have h2:tln l=tln m:=acS (h.map _)
 rw [wB,wB,h1]
 split
 ·rw [qY,qY,h2]
 ·rfl
theorem abz{l m:List (ByteArray×Nat)}(h:l.Perm m):yS l=yS m:=by
 have h1:l.isEmpty=m.isEmpty:=by
  have:=h.length_eq
  cases l <;> cases m <;> simp_all
 rw [yS,yS,h1,acS (h.map _),agS (l:=ixT l) (m:=ixT m) (h.flatMap_right _)]
def cst(x:ByteArray×Nat):Nat:=60 * zN x.2+17+x.1.size
theorem afe(l:List (ByteArray×Nat)):52 * yS l≤(l.map cst).sum+53:=by
 rw [yS]
 split
 ·omega
 ·have e2:=aaR (ixT l)
  rw [ag6]at e2
  have e3:(l.map cst).sum=52 * (l.map fun x=>zN x.2).sum+(l.map fun x=>17+x.1.size+8 * zN x.2).sum:=by
   clear e2
   induction l with
   | nil=>rfl
   | cons x l ih=>
     simp only [List.map_cons,List.sum_cons]at ih ⊢
     rename_i hne
     by_cases hl:l.isEmpty=true
     ·cases l with
      | nil=>simp [cst];omega
      | cons y r=>cases hl
     ·have:=ih hl
      rw [this,cst];omega
  have e7:zN (wB (ixT l)).length=((wB (ixT l)).length+51) / 52:=rfl
  rw [e7,e3]
  omega
theorem afF{α:Type}(f:α→List (ByteArray×Nat))(g:α→Nat)(c:Nat)(l:List α)(h: ∀x∈l,((f x).map cst).sum≤c+1248 * g x):((l.flatMap f).map cst).sum≤c * l.length+1248 * (l.map g).sum:=by
 induction l with
 | nil=>simp
 | cons x l ih=>
   have h1:=h x (by simp)
   have h2:=ih fun y hy=>h y (by simp [hy])
   simp only [List.flatMap_cons,List.map_append,List.sum_append,List.map_cons,List.sum_cons,List.length_cons,Nat.mul_add,Nat.mul_one]
   omega
theorem adk{α:Type}(f:α→ByteArray×Nat)(g:α→Nat)(l:List α)(h: ∀x∈l,cst (f x)≤1248 * g x):((l.map f).map cst).sum≤1248 * (l.map g).sum:=by
 induction l with
 | nil=>simp
 | cons x l ih=>
   have h1:=h x (by simp)
   have h2:=ih fun y hy=>h y (by simp [hy])
   simp only [List.map_cons,List.sum_cons]
   omega
theorem agC(t:Tnt)(h:yi t=true):(((xE t).map dat).map cst).sum≤3996+1248 * chT t:=by
 simp only [yi,Bool.and_eq_true,decide_eq_true_eq]at h
 obtain⟨hn,_,_,hs,hg,hst,hl,hl2⟩:=h
 have hn:=z7 hn
 obtain⟨h1,h2,_⟩:=abG t hg hl hl2
 simp only [yv,Bool.and_eq_true,List.all_eq_true]at hs
 simp only [xo,Bool.and_eq_true,List.all_eq_true]at hst
 have k1:kT.size=1:=rfl
 have k2:kS.size=1:=rfl
 have k3:kG.size=1:=rfl
 have c1:=adk (fun s:Dst=>dat (zF [kS,t.name,s.path],yI s)) chS t.sets.xs fun x hx=>by
  obtain⟨_,d1,_,d2⟩:=aaX _ x (hs.2.2.1 x hx)
  have d3:=aaR (yI x)
  have d4:=xr [kS,t.name,x.path]
  simp only [List.map_cons,List.map_nil,List.sum_cons,List.sum_nil]at d4
  have d5:1≤chS x:=by rw [chS];omega
  show 60 * ((((wB (yI x)).length+51) / 52))+17+(zF [kS,t.name,x.path]).size≤1248 * chS x
  omega
 have c2:=adk (fun s:Stg=>dat (zF [kG,t.name,s.into],yV s)) chG t.stages.xs fun x hx=>by
  obtain⟨_,d1,_,d2⟩:=aaV x (hst.2.1 x hx)
  have d3:=aaR (yV x)
  have d4:=xr [kG,t.name,x.into]
  simp only [List.map_cons,List.map_nil,List.sum_cons,List.sum_nil]at d4
  have d5:1≤chG x:=by rw [chG];omega
  show 60 * ((((wB (yV x)).length+51) / 52))+17+(zF [kG,t.name,x.into]).size≤1248 * chG x
  omega
 have e1:(xE t).map dat=dat (zF [kT,t.name],yZ t)::(t.sets.xs.map (fun s:Dst=>dat (zF [kS,t.name,s.path],yI s))++t.stages.xs.map (fun s:Stg=>dat (zF [kG,t.name,s.into],yV s))):=by
  simp only [xE,List.map_cons,List.map_append,List.map_map];rfl
 have e3:=xr [kT,t.name]
 simp only [List.map_cons,List.map_nil,List.sum_cons,List.sum_nil]at e3
 have e4:=aaR (yZ t)
 rw [e1]
 simp only [List.map_cons,List.map_append,List.sum_cons,List.sum_append]
 have e5:cst (dat (zF [kT,t.name],yZ t))=60 * (((wB (yZ t)).length+51) / 52)+17+(zF [kT,t.name]).size:=rfl
 rw [e5,chT]
 omega
def aad(p:Pol):List (ByteArray×Nat):=(kP,(zM (yQ p)).length)::p.ten.xs.flatMap fun t=>(xE t).map dat
theorem afw(x:Lin)(h:liB x=true):tln (zO x)≤111:=by
 simp only [liB,Bool.and_eq_true,Bool.or_eq_true,decide_eq_true_eq]at h
 have h1:x.user.size≤16:=by
  rcases h.1 with h | h
  ·omega
  ·exact z7 h
 have h2:=xC h.2.1
 simp only [zO,zK,xu,zA]
 omega
theorem abh(p:Pol)(h:yr p=true):tln (yQ p)≤2317:=by
 simp only [yr,Bool.and_eq_true,decide_eq_true_eq,List.all_eq_true]at h
 obtain⟨h1,h2,h3,h4,h5,h6,h7,h8⟩:=h
 obtain⟨_,o2,_⟩:=qE _ h3
 have e1:tln (yC p.forced.xs)=11+tln (yf p.forced.xs):=by rw [yC,zK,zA]
 have e2:=qm zO p.log.xs 111 fun x hx=>afw x (h5 x hx)
 have e3:tln (p.ten.xs.map Tnt.name)≤p.ten.xs.length * 19:=by
  have:=qm (fun t:Tnt=> [t.name]) p.ten.xs 19 fun t ht=>by
   have:=h6 t ht
   simp only [yi,Bool.and_eq_true]at this
   have:=z7 this.1
   simp only [zK,xu];omega
  have e:p.ten.xs.flatMap (fun t:Tnt=> [t.name])=p.ten.xs.map Tnt.name:=by rw [List.map_eq_flatMap]
  rwa [e]at this
 rw [yQ,zK,zK,xJ,zK,xJ,zA,zA,zA]
 have e4:p.log.xs.length * 111≤16 * 111:=Nat.mul_le_mul_right _ h4
 have e5:p.ten.xs.length * 19≤4 * 19:=Nat.mul_le_mul_right _ h1
 omega
theorem ahc(l:List Tnt)(h: ∀t∈l,xj t=true):(((l.map chT).sum:Nat):Int)≤(l.map Tnt.quota).sum:=by
 induction l with
 | nil=>simp
 | cons t l ih=>
   have h1:=h t (by simp)
   have h2:=ih fun y hy=>h y (by simp [hy])
   simp only [xj,Bool.not_eq_true',decide_eq_false_iff_not]at h1
   simp only [List.map_cons,List.sum_cons]
   omega
theorem aev(p:Pol)(h:yr p=true):zY (quo p)=0∧((yS (aad p):Nat):Int)≤abQ p:=by
 have hs:=abh p h
 simp only [yr,Bool.and_eq_true,decide_eq_true_eq,List.all_eq_true]at h
 obtain⟨h1,h2,h3,h4,h5,h6,h7,h8⟩:=h
 have hE:zY (quo p)=0:=by
  rw [qN]at h8
  split at h8
  ·rename_i hn;exact absurd h8 hn
  ·rename_i hn;exact Decidable.not_not.1 hn
 rw [qN,if_neg (by simpa using hE)]at h8
 split at h8
 ·exact absurd h8 (by decide)
 ·split at h8
  ·rename_i hf
   have hq:=ahc p.ten.xs (List.all_eq_true.1 hf)
   have hv:yl (quo p)=(quo p).sum:=by rw [yl,if_pos hE]
   have hc:=afe (aad p)
   have hf:=afF (fun t:Tnt=>(xE t).map dat) chT 3996 p.ten.xs fun t ht=>agC t (h6 t ht)
   have e1:(aad p).map cst=cst (kP,(zM (yQ p)).length)::(p.ten.xs.flatMap fun t=>(xE t).map dat).map cst:=rfl
   rw [e1,List.sum_cons]at hc
   have e2:cst (kP,(zM (yQ p)).length)=60 * (((zM (yQ p)).length+51) / 52)+17+1:=rfl
   rw [e2,qY]at hc
   have e3:3996 * p.ten.xs.length≤3996 * 4:=Nat.mul_le_mul_left _ h1
   refine⟨hE,?_⟩
   rw [abQ,if_pos hE,hv]
   have e4:(p.ten.xs.map Tnt.quota).sum=(quo p).sum:=rfl
   omega
  ·exact absurd h8 (by decide)
theorem adj{w w':World}{p:Pol}(hb:yr p=true){A:Option Addr}{c:Nat}{os:List Ob}(ho:(os.map obk).Perm (obP p))(H:Heap w (.row 56 3 (.slice A os.length c) os.length (os.flatMap Ob.cells)::os.map yw) w'):
 Sl.At w' 0 w'.heap.size Ob.cells (Ob.At w' 0 w'.heap.size) ⟨A,os.length,c,os⟩∧(∀o∈os,o.data.n≤100000000)∧(os.map kd).Perm (aad p)∧os.length≤149:=by
 have hb0:=hb
 simp only [yr,Bool.and_eq_true,decide_eq_true_eq,List.all_eq_true]at hb0
 obtain⟨q1,_,_,_,_,q6,_,_⟩:=hb0
 have hr:=qI (H.rowAt 0 rfl)
 have hrow: ∀k (hk:k < os.length),w'.ownsRow w.heap.size 5 1 (.slice os[k].data.A os[k].data.n os[k].data.c) os[k].data.n (bytes os[k].data.xs):=fun k hk=>
  H.rowAt (k+1) (by rw [List.getElem?_cons_succ,List.getElem?_map,List.getElem?_eq_getElem hk];rfl)
 have hlen: ∀o∈os,o.data.n=o.data.xs.length:=fun o hm=>by
  obtain⟨k,hk,rfl⟩:=List.getElem_of_mem hm
  have:=(hrow k hk).1
  rw [show(bytes os[k].data.xs).length=os[k].data.xs.length by simp [bytes]]at this
  omega
 have hmem: ∀o∈os,∃q∈obP p,o.key=q.1∧o.data.xs=q.2.1∧o.locs=q.2.2:=fun o hm=>⟨obk o,ho.mem_iff.1 (List.mem_map_of_mem (f:=obk) hm),rfl,rfl,rfl⟩
 have hsm: ∀q∈obP p,q.1.size≤200∧q.2.1.length≤67111938∧q.2.2=zL:=fun q hq=>by
  rw [obP,List.mem_cons,List.mem_flatMap]at hq
  rcases hq with rfl | ⟨t,ht,hq⟩
  ·exact⟨show kP.size≤200 by decide,by rw [qY];have:=abh p hb;omega,rfl⟩
  ·rw [obL]at hq
   obtain⟨x,hx,rfl⟩:=List.mem_map.1 hq
   refine⟨aff t (q6 t ht) x hx,?_,rfl⟩
   have:=aeH x.2
   rwa [wB,if_pos (ab5 t (q6 t ht) x hx)]at this
 refine⟨⟨rfl,hr.1,hr.2,(H.rowRd 0 rfl).m0,fun o hm=>?_⟩,fun o hm=>?_,?_,?_⟩
 ·obtain⟨q,hq,h1,h2,h3⟩:=hmem o hm
  obtain⟨s1,s2,s3⟩:=hsm q hq
  have hl:=hlen o hm
  refine⟨?_,?_,?_⟩
  ·rw [h1];exact Nat.le_trans s1 (by decide)
  ·obtain⟨k,hk,rfl⟩:=List.getElem_of_mem hm
   have q:=qI (hrow k hk)
   exact⟨hl,q.1,q.2,by rw [aeu];exact(Rd.of_own (hrow k hk)).m0,fun _ _=>trivial⟩
  ·rw [h3,s3]
   exact⟨rfl,Nat.le_refl _,Nat.zero_le _,fun hn=>absurd rfl hn,fun y hy=>by cases hy⟩
 ·obtain⟨q,hq,h1,h2,h3⟩:=hmem o hm
  rw [hlen o hm,h2]
  exact Nat.le_trans (hsm q hq).2.1 (by decide)
 ·have e:os.map kd=(os.map obk).map fun q=>(q.1,q.2.1.length):=by
   rw [List.map_map]
   refine List.map_congr_left fun o hm=>?_
   show(o.key,o.data.n)=(o.key,o.data.xs.length)
   rw [hlen o hm]
  have e2:(obP p).map (fun q=>(q.1,q.2.1.length))=aad p:=by
   rw [obP,aad,List.map_cons,List.map_flatMap]
   have e3: ∀l:List Tnt,(∀t∈l,yi t=true)→(l.flatMap fun t=>(obL t).map fun q=>(q.1,q.2.1.length))=l.flatMap fun t=>(xE t).map dat:=fun l=>by
    induction l with
    | nil=>intro;rfl
    | cons t l ih=>
      intro h
      rw [List.flatMap_cons,List.flatMap_cons,ih fun y hy=>h y (by simp [hy])]
      congr 1
      rw [obL,List.map_map]
      refine List.map_congr_left fun x hx=>?_
      show(x.1,(zM x.2).length)=(x.1,(wB x.2).length)
      rw [wB,if_pos (ab5 t (h t (by simp)) x hx)]
   rw [e3 _ q6]
  rw [e,←e2]
  exact ho.map _
 ·have e1:=ho.length_eq
  rw [List.length_map]at e1
  rw [e1,obP,List.length_cons]
  have e2: ∀l:List Tnt,(∀t∈l,yi t=true)→(l.flatMap obL).length≤l.length * 37:=fun l=>by
   induction l with
   | nil=>intro;simp
   | cons t l ih=>
     intro h
     have a1:=ae3 (h t (by simp))
     have a2:=ih fun y hy=>h y (by simp [hy])
     rw [List.flatMap_cons,List.length_append,List.length_cons]
     omega
  have:=e2 p.ten.xs q6
  omega
theorem ahk(l:List ByteArray)(k:Nat)(h:k < l.length)(hp:zi l[k]=false):xy l=false:=by
 rw [xy,xt zi l k h hp];simp
theorem agN(l:List ByteArray)(j:Nat)(h:j+1 < l.length)(hp:zd l[j] l[j+1]=false):xy l=false:=by
 rw [xy,aaw l j h hp];simp
theorem agR(l:List ByteArray)(h1: ∀k (h:k < l.length),zi l[k]=true)(h2: ∀j (h:j+1 < l.length),zd l[j] l[j+1]=true):xy l=decide (l.length≤4):=by
 have a:l.all zi=true:=List.all_eq_true.2 fun x hx=>by
  obtain⟨k,hk,rfl⟩:=List.getElem_of_mem hx
  exact h1 k hk
 rw [xy,a,qX l h2];simp
theorem afj(w:World)(s:Txs)(h:Txs.At w 0 w.heap.size s):
 Calls Tryz.prog 135 #[s.val] w fun e w'=>e= .returned (.bool (xy s.xs))∧Ext w w':=by
 have HA:=Lib.hid h
 obtain⟨A,n,c,xs⟩:=s
 have Hn:=Lib.hid (show n=xs.length from h.len)
 have hm:n≤9223372036854775807:=Nat.le_trans (Nat.le_trans h.le h.cap) (by decide)
 have H1:=Lib.hid (ahk xs)
 have H2:=Lib.hid (agN xs)
 have HY:=Lib.hid (agR xs)
 dsimp only
 generalize xy xs=V at *
 clear h
 simp only [Sl.val]
 go_enter Tryz.func135,Tryz.ntmps135
 go_wp2_with fail
 go_loopw [3] (fun v wr=> ∃k:Nat,k≤n∧v= .int .i64 (k:Int)∧Hid ((∀j (h:j < xs.length),j < k→zi xs[j]=true)∧ ∀j (h:j+1 < xs.length),j+1 < k→zd xs[j] xs[j+1]=true)∧Ext w wr) (fun v _=>n - (intOf v).toNat)
 case atStart=>exact⟨0,Nat.zero_le _,rfl,Lib.hid ⟨fun j h hj=>absurd hj (Nat.not_lt_zero _),fun j h hj=>absurd hj (Nat.not_lt_zero _)⟩,Ext.refl _⟩
 case round=>
  obtain⟨k,hk,rfl,HK,e1⟩:=hrel
  by_cases hlt:k < n
  ·have l1:k < xs.length:=by rw [←Hn.out];exact hlt
   obtain⟨b1,o1,hA1,_,hb1,G⟩:=zk (size:=1) (fun _=>rfl) (by omega) HA.out.rd l1
   dsimp only at hA1
   subst hA1
   have HB1:=Lib.hid (fun hp=>H1.out k l1 hp)
   have HR0:=Lib.hid (fun(j:Nat) (hj:k=j+1) (hp:zd (xs[j]'(by omega)) xs[k]=false)=>show V=false by subst hj;exact H2.out j l1 hp)
   have HT:=Lib.hid (fun(h1:zi xs[k]=true) (h2: ∀j (hj:k=j+1),zd (xs[j]'(by omega)) xs[k]=true)=>show(∀j (h:j < xs.length),j < k+1→zi xs[j]=true)∧ ∀j (h:j+1 < xs.length),j+1 < k+1→zd xs[j] xs[j+1]=true from
    ⟨fun j h hj=>by
      rcases Nat.lt_or_ge j k with h3 | h3
      ·exact HK.out.1 j h h3
      ·obtain rfl:j=k:=by omega
       exact h1,fun j h hj=>by
      rcases Nat.lt_or_ge (j+1) k with h3 | h3
      ·exact HK.out.2 j h h3
      ·obtain rfl:k=j+1:=by omega
       exact h2 j rfl⟩)
   have HPv:=Lib.hid (fun(j:Nat) (hj:k=j+1)=>show∃y:ByteArray,(xs[j]'(by omega))=y∧w.cell? ⟨b1,o1+j,none⟩=some (.string y)by
    obtain⟨b2,o2,hh,_,_,G2⟩:=zk (size:=1) (fun _=>rfl) (by omega) HA.out.rd (k:=j) (show j < xs.length by omega)
    obtain⟨rfl,rfl⟩:b1=b2∧o1=o2:=by simpa using hh
    have q:=G2 0 _ rfl
    rw [Nat.mul_one,Nat.add_zero]at q
    exact⟨_,rfl,q⟩)
   have HNm:=Lib.hid (fun W=>y0 xs[k] W (Nat.le_trans (HA.out.all _ (List.getElem_mem l1)) (by decide)))
   have g0:=G 0 _ rfl
   rw [Nat.mul_one,Nat.add_zero]at g0
   clear G
   generalize xs[k]=x at *
   have g0W: ∀W,Heap w [] W→W.cell? ⟨b1,o1+k,none⟩=some (.string x):=fun W hW=>(Below.cell hW.ext (World.block_lt_of_cell? w _ g0)).trans g0
   clear g0
   generalize zi x=nb at *
   have hkn:(k:Int) < (n:Int):=by omega
   go_upto_region 4 with fail
   have HHd:=Lib.hid (show Heap w [] (World.drew wr)from((Heap.start w).later e1).drew)
   refine wp_region_held_drew (S:=Heap w []) (by kernel_rfl) HHd.out (fun hHeld=>?_)
   generalize World.drew _=wd at *
   refine tW 0 4 ?_
   clear hHeld
   refine oS 4 (fun K hK=>?_)
   go_simp
   refine(HNm.out _).mono ?_
   rintro e w3 ⟨rfl,e3⟩
   have HH3:=Lib.hid (HHd.out.later e3)
   clear HHd e3
   go_wp2_with fail
   refine hK.out _ _ (HH3).out (fun hHeld=>?_);clear hK K;(try simp only [Act.put,lyA,lyB,lyC])
   cases nb with
   | false=>
     obtain rfl:V=false:=HB1.out rfl
     clear HT HR0 HB1
     refine zj [(5,some 15,.bool true),(6,some 16,.bool true),(7,some 17,undef),(8,some 18,undef),(9,some 19,undef),(10,some 20,undef),(11,some 21,undef),(12,some 22,undef),(13,some 23,undef),(14,some 24,undef),(15,some 25,undef),(16,some 26,undef),(17,some 27,undef),(18,some 28,undef),(19,some 29,undef),(20,some 30,undef),(21,some 31,.bool true)] rfl (fun _ _ _ _ _ h=>h) (by kernel_rfl) (by assumption) ?_;(try simp only [zf,zg,Act.put,lyA,lyB,lyC])
     refine wpAnyH_done (by kernel_rfl) ?_ _
     clear hHeld
     go_wp2_with fail
     go_ret
     exact⟨rfl,HH3.out.ext⟩
   | true=>
     refine tW 5 3 ?_
     by_cases hk0:k=0
     ·subst hk0
      have HR:=Lib.hid (show∀j (hj:0=j+1),zd (xs[j]'(by omega)) x=true from fun j hj=>by omega)
      refine tW 8 1 ?_
      have HK2:=Lib.hid (HT.out rfl HR.out)
      clear HT HR0 HB1 HR
      refine zj [(9,some 19,.bool false),(10,some 20,undef),(11,some 21,undef),(12,some 22,undef),(13,some 23,undef),(14,some 24,undef),(15,some 25,undef),(16,some 26,undef),(17,some 27,undef),(18,some 28,undef),(19,some 29,undef),(20,some 30,.bool false),(21,some 31,.bool false)] rfl (fun _ _ _ _ _ h=>h) (by kernel_rfl) (by assumption) ?_;(try simp only [zf,zg,Act.put,lyA,lyB,lyC])
      refine wpAnyH_done (by kernel_rfl) ?_ _
      clear hHeld
      go_wp2_with fail
      go_roundw
      case rel=>(first | exact⟨_,by omega,by go_num,HK2,HH3.out.ext⟩ | exact⟨1,by omega,rfl,HK2,HH3.out.ext⟩)
      case measure=>(first | (simp [intOf];done) | (simp [intOf];omega))
     ·obtain⟨j,rfl⟩: ∃j,k=j+1:=⟨k - 1,by omega⟩
      obtain⟨y,hy,d0⟩:=HPv.out j rfl
      have HRy:=Lib.hid (fun hp=>HR0.out j rfl (by rw [hy];exact hp))
      have HRz:=Lib.hid (fun(hp:zd y x=true) (i:Nat) (hi:j+1=i+1)=>show zd (xs[i]'(by omega)) x=true from by obtain rfl:i=j:=(by omega);rw [hy];exact hp)
      have p0: ∀W,Heap w [] W→W.cell? ⟨b1,o1+j,none⟩=some (.string y):=fun W hW=>(Below.cell hW.ext (World.block_lt_of_cell? w _ d0)).trans d0
      clear hy d0
      have q3:IntKind.i64.wrap (j:Int)=(j:Int):=IntWalk.i64_in _ (by omega)
      have q4:(0:Int) < (j:Int)+1:=by omega
      have q5:(j:Int) < (n:Int):=by omega
      have q6:(j:Int)+1 < (n:Int):=by omega
      have q7:(0:Int)≤(j:Int)+1:=by omega
      refine tW 8 11 ?_
      clear p0
      cases hl:zd y x with
      | false=>
        have hq:(Op.bytesLess x.toList y.toList || x.toList == y.toList)=true:=by have q:=yq y x;rw [hl]at q;exact q
        refine tW 19 1 ?_
        obtain rfl:V=false:=HRy.out hl
        clear HT HR0 HB1
        refine zj [(20,some 30,.bool true),(21,some 31,.bool true)] rfl (fun _ _ _ _ _ h=>h) (by kernel_rfl) (by assumption) ?_;(try simp only [zf,zg,Act.put,lyA,lyB,lyC])
        refine wpAnyH_done (by kernel_rfl) ?_ _
        clear hHeld
        go_wp2_with fail
        go_ret
        exact⟨rfl,HH3.out.ext⟩
      | true=>
        have hq:(Op.bytesLess x.toList y.toList || x.toList == y.toList)=false:=by have q:=yq y x;rw [hl]at q;exact q
        have HR:=Lib.hid (HRz.out hl)
        clear HRy HRz
        refine tW 19 1 ?_
        have HK2:=Lib.hid (HT.out rfl HR.out)
        clear HT HR0 HB1 HR
        refine zj [(20,some 30,.bool false),(21,some 31,.bool false)] rfl (fun _ _ _ _ _ h=>h) (by kernel_rfl) (by assumption) ?_;(try simp only [zf,zg,Act.put,lyA,lyB,lyC])
        refine wpAnyH_done (by kernel_rfl) ?_ _
        clear hHeld
        go_wp2_with fail
        go_roundw
        case rel=>(first | exact⟨_,by omega,by go_num,HK2,HH3.out.ext⟩ | exact⟨1,by omega,rfl,HK2,HH3.out.ext⟩)
        case measure=>(first | (simp [intOf];done) | (simp [intOf];omega))
  ·obtain rfl:k=n:=by omega
   have HV:V=decide ((k:Int)≤4):=by
    have q:=HY.out (fun j h=>HK.out.1 j h (by rw [Hn.out];exact h)) (fun j h=>HK.out.2 j h (by rw [Hn.out];exact h))
    rw [←Hn.out]at q
    rw [q,decide_eq_decide];omega
   clear HY H1 H2 HK
   go_wp2_with fail
   go_ret
   exact⟨by rw [HV];rfl,e1⟩
end Go.Proofs.YtckaneapjpiocaaGreatDoor
