/- The texts Clr, Pix, Bgh, Slu, Rr1, Rng in one file. -/
import Derived.Test.YtckaneapjpiocaaGreatDoorQ13
set_option linter.unusedVariables false
set_option linter.unusedSimpArgs false
set_option maxHeartbeats 4000000
set_option maxRecDepth 100000
namespace Go.Proofs.YtckaneapjpiocaaGreatDoor
open Go.RowKit
theorem ac5(b:Nat)(q:Addr): ∀(vs:List Value) (o:Nat) (w:World),(q.block=b→q.off < o)→(w.setCells b o vs).cell? q=w.cell? q
 | [],_,_,_=>rfl
 | v::r,o,w,h=>by
   rw [show w.setCells b o (v::r)=(w.setCell ⟨b,o,none⟩ v).setCells b (o+1) r from rfl,ac5 b q r (o+1) _ (fun e=>by have:=h e;omega)]
   refine World.cell?_setCell_other w _ q v (fun e=>?_)
   have h1:=h (by rw [←e])
   rw [←e]at h1
   simp at h1
section
variable {P:Program} (w:World)
theorem ahJ{ops:Array Oper}{rest:List Oper}{o:Oper}{a:Act}{Q:Exit→Act→World→Prop}(hgd:o.guard=none)(x:Operand)(t:TypeId)
 (ho:o.op= .call { callee:= .builtin .clear,args:= #[x],argTypes:= #[t] }) (e:TypeId) (z:Value) (ht:P.underlying t=some (.slice e)) (hv: ∀w,(zeroValue e).run P w= .ok z w)
 (h1: ∀u∈z.cells.toList,u.oneCell'=true) (hz:0 < z.cells.size) (A:Option Addr) (n c:Nat) (hx:a.eval x= .slice A n c) (hc:0 < n→ ∃b k,A=some ⟨b,k,none⟩∧Can w b k (n * z.cells.size))
 (h: ∀w',(∀B a',Below B a' w→(∀b k,A=some ⟨b,k,none⟩→B≤b)→Below B a' w')→(∀q:Addr,(∀b k,A=some ⟨b,k,none⟩→q.block=b→q.off < k)→w'.cell? q=w.cell? q)→wpList P ops Q rest (a.put o.dst (.tuple #[])) w'):wpList P ops Q (o::rest) a w:=by
 have hrun: ∃w',(Builtin.clear_ #[t] o.type #[.slice A n c]).run P w= .ok (.tuple #[]) w'∧(∀B a',Below B a' w→(∀b k,A=some ⟨b,k,none⟩→B≤b)→Below B a' w')∧(∀q:Addr,(∀b k,A=some ⟨b,k,none⟩→q.block=b→q.off < k)→w'.cell? q=w.cell? q):=by
  cases n with
  | zero=>
    refine⟨w,?_,fun B a' hb _=>hb,fun _ _=>rfl⟩
    cases A <;> simp [Builtin.clear_,run_underlying ht]
  | succ n=>
    obtain⟨b,k,rfl,hcan⟩:=hc (by omega)
    have hl:(Builtin.zeroCells z.cells (n+1)).toList.length=(n+1) * z.cells.size:=by simp [Builtin.zeroCells]
    have hst:=run_storeCells_cells (P:=P) b k (Builtin.zeroCells z.cells (n+1)).toList 0 w (fun j hj=>by
     obtain⟨⟨u,hu⟩,_⟩:=hcan j (by rw [←hl];exact hj)
     rw [Nat.add_zero,hu]
     rfl) (fun j hj=>by rw [Nat.add_zero];exact(hcan j (by rw [←hl];exact hj)).2) (fun v hv'=>by
     simp only [Builtin.zeroCells,Array.toList_map,List.mem_map]at hv'
     obtain⟨i,_,rfl⟩:=hv'
     refine h1 _ ?_
     rw [getElem!_pos z.cells (i % z.cells.size) (Nat.mod_lt _ hz)]
     exact Array.getElem_mem_toList _)
    refine⟨w.setCells b (k+0) (Builtin.zeroCells z.cells (n+1)).toList,?_,fun B a' hb hlt=>acV b _ _ _ hb (hlt b k rfl),fun q hq=>ac5 b q _ _ _ (fun e=>by have:=hq b k rfl e;omega)⟩
    simp [Builtin.clear_,run_underlying ht,hv,hst]
 obtain⟨w',hr,hb,hf⟩:=hrun
 refine wpList_plain hgd fun K hK=>?_
 unfold Oper.wp execOp
 simp only [ho,resolve,invoke,builtin,Sem.run_bind,Sem.run_pure,Result.andThen_ok,List.map_toArray,List.map_cons,List.map_nil,hx,hr]
 exact hK _ _ (h w' hb hf)
end
theorem Rd.put_end{w:World}{lo hi g o:Nat}{cs:List Value}(h:Rd w lo hi (some ⟨g,o,none⟩) cs)(hg:lo≤g∧g < hi)(u:Value)(hc: ∃u0,w.cell? ⟨g,o+cs.length,none⟩=some u0):Rd (w.setCell ⟨g,o+cs.length,none⟩ u) lo hi (some ⟨g,o,none⟩) (cs++ [u]):=fun _=>by
 refine⟨g,o,rfl,hg.1,hg.2,fun j v hj=>?_⟩
 rw [List.getElem?_append]at hj
 split at hj
 ·rename_i hl
  obtain⟨b',o',e,_,_,h3⟩:=h (fun e=>by rw [e]at hl;simp at hl)
  simp only [Option.some.injEq,Addr.mk.injEq,and_true]at e
  obtain⟨rfl,rfl⟩:=e
  rw [World.cell?_setCell_other w _ _ u (fun e=>by have h9:o+cs.length=o+j:=congrArg Addr.off e;omega)]
  exact h3 j v hj
 ·rename_i hl
  have hj0:j=cs.length:=by
   rcases Nat.lt_or_ge (j - cs.length) 1 with q | q
   ·omega
   ·rw [List.getElem?_eq_none (by simpa using q)]at hj
    cases hj
  subst hj0
  simp only [Nat.sub_self,List.getElem?_cons_zero,Option.some.injEq]at hj
  subst hj
  obtain⟨u0,hu⟩:=hc
  exact World.cell?_setCell_same w _ u hu
open Go.Maps Go.Sort Go.Shelf
abbrev obC(os:List Ob):List Value:=os.flatMap Ob.cells
theorem acZ(os:List Ob):(obC os).length=os.length * 3:=aan (size:=3) (fun _=>rfl) os
theorem aij(os:List Ob): ∀u∈obC os,u.oneCell'=true:=fun u hu=>by
 obtain⟨x,_,hx⟩:=List.mem_flatMap.1 hu
 simp only [Ob.cells,Sl.val,List.mem_cons,List.not_mem_nil,or_false]at hx
 rcases hx with rfl | rfl | rfl <;> rfl
theorem abZ(a b:List Ob):obC (a++b)=obC a++obC b:=List.flatMap_append
theorem aeI(xs:List Ob)(k:Nat):(obC xs).drop (k * 3)=obC (xs.drop k):=by
 induction k generalizing xs with
 | zero=>simp
 | succ k ih=>
   cases xs with
   | nil=>simp [obC]
   | cons x l=>rw [show obC (x::l)=x.cells++obC l from rfl,List.drop_succ_cons,←ih l,List.drop_append,List.drop_of_length_le (by simp [Ob.cells];omega),show(k+1) * 3 - x.cells.length=k * 3 by simp [Ob.cells];omega,List.nil_append]
theorem alQ(xs:List Ob)(k:Nat):(obC xs).take (k * 3)=obC (xs.take k):=by
 induction k generalizing xs with
 | zero=>simp [obC]
 | succ k ih=>
   cases xs with
   | nil=>simp [obC]
   | cons x l=>
     rw [List.take_succ_cons,show obC (x::l)=x.cells++obC l from rfl,show obC (x::l.take k)=x.cells++obC (l.take k)from rfl,←ih l,List.take_append,show(k+1) * 3 - x.cells.length=k * 3 by simp [Ob.cells];omega,List.take_of_length_le (by simp [Ob.cells];omega)]
theorem ad3{α:Type}(f:α→Bool)(xs:List α)(k:Nat)(h:k < xs.length):(xs.take (k+1)).filter f=(xs.take k).filter f++(if f xs[k]then [xs[k]]else []):=by
 rw [List.take_succ_eq_append_getElem h,List.filter_append]
 congr 1
 simp [List.filter_cons]
theorem ai8(w:World)(A:Option Addr)(n c:Nat)(xs:List Ob)(hn:n=xs.length)(hr:Rd w 0 w.heap.size A (obC xs))(hb:n≤1000000000):
 Calls Tryz.prog 130 #[.slice A n c] w fun e w'=> ∃v,e= .returned v∧w'.ownsRow w.heap.size 56 3 v n (obC xs)∧Ext w w':=by
 have qT: ∀(w:World) (a:Option Addr) (n c n' c':Nat),(binOp .eql 33 (.slice a n c) (.slice none n' c')).run Tryz.prog w= .ok (.bool a.isNone) w:=fun w a n c n' c'=>Lib.run_eql_slice_nil w _ _ a n c n' c' Tryz.underlying33
 obtain⟨i0,hi0,hz0,hz1,hz2⟩:=info_parts aco
 have hmx:n≤maxLen:=by simp only [maxLen];omega
 have hl:(obC xs).length=n * 3:=by rw [acZ,hn]
 have Hn:=hiD hn
 clear hn
 cases A with
 | none=>
   have:n=0:=by
    rcases Nat.eq_zero_or_pos n with h | h
    ·exact h
    ·obtain⟨b,o,hh,_⟩:=hr (fun e=>by rw [e]at hl;simp at hl;omega)
     cases hh
   subst this
   have:obC xs= []:=List.eq_nil_of_length_eq_zero (by simpa using hl)
   rw [this]
   clear hl
   go_enter Tryz.func130,Tryz.ntmps130
   go_wp2
   go_ret
   exact⟨_,rfl,World.ownsRow_nil _ _ _ _,Ext.refl _⟩
 | some ad=>
   go_enter Tryz.func130,Tryz.ntmps130
   go_wp2_with
    (at_builtin
     refine qR _ rfl (.tmp 5) (.tmp 6) _ rfl 56 i0 _ 3 64 Tryz.underlying33 hi0 hz0 hz1 hz2 rfl (by omega) w.heap.size (.slice (some ⟨w.heap.size,0,none⟩) 0 0) 0 [] rfl
      (World.ownsRow_lit w #[] 0 (Nat.le_refl _) (Nat.zero_le _) rfl) 0 w.heap.size (some ad) n c (obC xs) rfl hl (hr.alloc (Nat.le_refl _) _) (aij _) (by simpa using hmx) (by omega) (by simp) ?_
     intro v1 w1 hown1 he1 _ hg1)
   go_ret
   refine⟨v1,rfl,by simpa using hown1,aev ((Below.refl _ _).alloc (Nat.le_refl _) _) hg1 (by simp) (.inr ⟨_,rfl,Nat.le_refl _⟩)⟩
def ao3(f:Ob→Bool)(os:List Ob)(w:World)(e:Ending)(w':World):Prop:=
 ∃r:Int,e= .returned (.int .i64 r)∧((r= -1∧os.all (fun x=>!f x)=true)∨ ∃k:Nat,r=k∧ ∃h:k < os.length,f os[k]=true∧(os.take k).all (fun x=>!f x)=true)∧Ext w w'
theorem ail(F:FuncId)(caps:Array Value)(f:Ob→Bool)(w:World)(A:Option Addr)(n c lo hi:Nat)(xs:List Ob)(hn:n=xs.length)(hm:n≤100000000000)(hr:Rd w lo hi A (obC xs))(hh:hi≤w.heap.size)
 (hcf: ∀args W,(callFunc F args).run Tryz.prog W= .ok (.enter F args) W) (HF: ∀W,Ext w W→ ∀x∈xs,Calls Tryz.prog F (#[.agg x.cells.toArray]++caps) W fun e w'=>e= .returned (.bool (f x))∧Ext W w'):
 Calls Tryz.prog 65 #[.slice A n c,.func (.func F) #[] caps] w (ao3 f xs w):=by
 have Hn:=hiD hn
 have HF:=hiD HF
 have HCf:=hiD hcf
 clear hn hcf
 go_enter Tryz.func65,Tryz.ntmps65
 go_wp2_with fail
 go_loopw [8] (fun a wr=> ∃k:Nat,k≤n∧a= .int .i64 k∧Hid ((xs.take k).all (fun x=>!f x)=true)∧Ext w wr) (fun a _=>n - (intOf a).toNat)
 case atStart=>exact⟨0,Nat.zero_le _,rfl,hiD rfl,Ext.refl _⟩
 case round=>
  obtain⟨k,hk,rfl,HK,e1⟩:=hrel
  by_cases hlt:k < n
  ·have l1:k < xs.length:=by rw [←Hn.out];exact hlt
   obtain⟨b1,o1,rfl,_,f0,f1,f2⟩:=aaJ (hr.ext e1 hh) l1
   have HT:=hiD (List.take_succ_eq_append_getElem l1)
   have HFx:=hiD (HF.out wr e1 _ (List.getElem_mem l1))
   obtain⟨y,hy⟩: ∃y,y=xs[k]'l1:=⟨_,rfl⟩
   rw [←hy]at f0 f1 f2 HT HFx
   have HY:=hiD hy
   clear hy
   obtain⟨yk,⟨dA,dn,dc,dx⟩,⟨lA,ln,lc,lx⟩⟩:=y
   simp only [Sl.val]at f0 f1 f2
   go_wp2_with fail
   rw [HCf.out,Oper.upon_enter]
   refine HFx.out.mono ?_
   rintro e w2 ⟨rfl,e2⟩
   cases ho:f ⟨yk,⟨dA,dn,dc,dx⟩,⟨lA,ln,lc,lx⟩⟩
   ·go_wp2_with fail
    go_roundw
    case rel=>exact⟨k+1,by omega,by go_num,hiD (by rw [HT.out,List.all_append,HK.out];simp [ho]),e1.trans e2⟩
    case measure=>simp [intOf];omega
   ·go_wp2_with fail
    go_ret
    exact⟨k,rfl,.inr ⟨k,rfl,l1,by rw [←HY.out];exact ho,HK.out⟩,e1.trans e2⟩
  ·obtain rfl:k=n:=by omega
   have h1:=HK.out
   rw [List.take_of_length_le (by rw [←Hn.out];exact Nat.le_refl _)]at h1
   have HA:=hiD h1
   clear h1
   go_wp2_with fail
   go_ret
   exact⟨-1,rfl,.inl ⟨rfl,HA.out⟩,e1⟩
theorem aoH(w:World):(zeroValue 56).run Tryz.prog w= .ok (.agg #[.string .empty,.slice none 0 0,.slice none 0 0]) w:=by kernel_rfl
def akX(f:Ob→Bool)(xs:List Ob)(lo:Nat)(w:World)(e:Ending)(w':World):Prop:=
 ∃(A:Option Addr) (c:Nat),e= .returned (.slice A (xs.filter fun x=>!f x).length c)∧(xs.filter fun x=>!f x).length≤c∧c≤9223372036854775807∧Rd w' lo w'.heap.size A (obC (xs.filter fun x=>!f x))∧Below lo w w'
theorem amy(F:FuncId)(caps:Array Value)(f:Ob→Bool)(w:World)(A:Option Addr)(n c lo hi:Nat)(xs:List Ob)(hn:n=xs.length)(hm:n≤c)(hm2:c≤9223372036854775807)(hN:n≤100000000000)(hr:Wr w lo hi A (obC xs))(hh:hi≤w.heap.size)(hlo:lo≤w.heap.size)
 (hcf: ∀args W,(callFunc F args).run Tryz.prog W= .ok (.enter F args) W) (HF: ∀W,Below lo w W→ ∀x∈xs,Calls Tryz.prog F (#[.agg x.cells.toArray]++caps) W fun e w'=>e= .returned (.bool (f x))∧Ext W w'):
 Calls Tryz.prog 129 #[.slice A n c,.func (.func F) #[] caps] w (akX f xs lo w):=by
 have hlen:(obC xs).length=n * 3:=by rw [acZ,hn]
 have Hn:=hiD hn
 have HF:=hiD HF
 obtain⟨g,hg⟩: ∃g:Ob→Bool,g=fun x=>!f x:=⟨_,rfl⟩
 have HG:=hiD (show∀x,g x=!f x from fun x=>by rw [hg])
 have HOd:=hiD (show∀e w',(∃(A:Option Addr) (c:Nat),e= .returned (.slice A (xs.filter g).length c)∧(xs.filter g).length≤c∧c≤9223372036854775807∧Rd w' lo w'.heap.size A (obC (xs.filter g))∧Below lo w w')→akX f xs lo w e w' from fun e w' h=>by rw [hg]at h;exact h)
 clear hn
 have HCf:=hiD hcf
 have HIx:=hiD (ail F caps f w A n c lo hi xs Hn.out hN hr.rd hh hcf fun W hW=>HF.out W (Below.mono hW hlo))
 refine Calls.mono (R:=fun e w'=> ∃(A:Option Addr) (c:Nat),e= .returned (.slice A (xs.filter g).length c)∧(xs.filter g).length≤c∧c≤9223372036854775807∧Rd w' lo w'.heap.size A (obC (xs.filter g))∧Below lo w w') ?_ fun e w' h=>HOd.out e w' h
 clear HOd hcf
 go_enter Tryz.func129,Tryz.ntmps129
 go_wp2_with fail
 refine HIx.out.mono ?_
 rintro e w1 ⟨r,rfl,hor,e1⟩
 clear HIx
 rw [←hg]at hor
 clear hg
 rcases hor with⟨rfl,hall⟩ | ⟨k0,rfl,hk0,ho,hkept⟩
 ·have HA:=hiD (show xs.filter g=xs from List.filter_eq_self.2 (List.all_eq_true.1 hall))
  have HR:=hiD ((hr.rd.ext e1 hh).more (Nat.le_refl _) (Nat.le_trans hh e1.size))
  clear hall
  go_wp2_with fail
  go_ret
  exact⟨A,c,by rw [HA.out,←Hn.out];rfl,by rw [HA.out,←Hn.out];exact hm,hm2,by rw [HA.out];exact HR.out,Below.mono e1 hlo⟩
 ·have hkn:k0 < n:=by rw [Hn.out];exact hk0
  have hks:(xs.take (k0+1)).filter g=xs.take k0:=by
   rw [ad3 g xs k0 hk0,HG.out,ho,List.filter_eq_self.2 (List.all_eq_true.1 hkept)]
   simp
  have HK:=hiD hks
  clear hks hkept ho
  have hne:obC xs≠ []:=fun e=>by rw [e]at hlen;simp at hlen;omega
  obtain⟨q,o,rfl,hg1,hg2,hcells⟩:=hr hne
  have hcan:Can w1 q o (n * 3):=by have:=(hr.can).ext e1;rwa [hlen]at this
  have hrd:Rd w1 lo hi (some ⟨q,o,none⟩) (obC xs):=hr.rd.ext e1 hh
  have hfr:Rd w1 lo hi (some ⟨q,o,none⟩) (obC (xs.take k0)):=by have:=hrd.take (k0 * 3);rwa [alQ]at this
  have HTl:=hiD (show(xs.take k0).length=k0 by rw [List.length_take];omega)
  have hb1:((k0:Int) == -1)=false:=by simp
  clear hr hne hcells hlen
  go_wp2_with fail
  clear hb1
  go_loopw [5,6] (fun si sj wr=> ∃a b:Nat,b≤n∧a < b∧si= .int .i64 a∧sj= .int .i64 b∧Hid (a=((xs.take b).filter g).length)∧Below lo w wr∧Can wr q o (n * 3)∧Hid (Rd wr lo hi (some ⟨q,o,none⟩) (obC ((xs.take b).filter g)))∧Rd wr lo hi (some ⟨q,o+b * 3,none⟩) (obC (xs.drop b))) (fun _ sj _=>n - (intOf sj).toNat)
  case atStart=>exact⟨k0,k0+1,by omega,by omega,rfl,by go_num,hiD (by rw [HK.out,HTl.out]),Below.mono e1 hlo,hcan,hiD (by rw [HK.out];exact hfr),by have:=hrd.step ((k0+1) * 3);rwa [aeI]at this⟩
  case round=>
   clear hcan hrd hfr
   obtain⟨a,b,hb,hab,rfl,rfl,HI,e3,hcan,HFr,hrd⟩:=hrel
   by_cases hlt:b < n
   ·have hl:b < xs.length:=by rw [←Hn.out];omega
    obtain⟨b1,o1,hbo,_,f0,f1,f2⟩:=aaJ hrd (k:=0) (by rw [List.length_drop];omega)
    simp only [Option.some.injEq,Addr.mk.injEq,and_true]at hbo
    obtain⟨rfl,rfl⟩:=hbo
    simp only [Nat.zero_mul,Nat.add_zero,List.getElem_drop]at f0 f1 f2
    have hks:=hiD (ad3 g xs b hl)
    have HFx:=hiD (fun W (hW:Below lo w W)=>HF.out W hW _ (List.getElem_mem hl))
    rw [HG.out]at hks
    generalize xs[b]'hl=y at *
    obtain⟨yk,⟨dA,dn,dc,dx⟩,⟨lA,ln,lc,lx⟩⟩:=y
    simp only [Sl.val]at f0 f1 f2
    go_wp2_with fail
    clear f0 f1 f2
    generalize hwx:World.alloc wr _=wx;obtain⟨ewx,zwx,Gwx⟩:=aat hwx;have gwx_0:=Gwx 0 _ rfl;have gwx_1:=Gwx 1 _ rfl;have gwx_2:=Gwx 2 _ rfl;have Zwx:=hiD zwx;clear zwx hwx Gwx
    have q0:=gwx_0 wx (Ext.refl _)
    have q1:=gwx_1 wx (Ext.refl _)
    have q2:=gwx_2 wx (Ext.refl _)
    have HGo:=hiD (HFx.out wx (aeb e3 ewx hlo))
    go_wp2_with fail
    rw [HCf.out,Oper.upon_enter]
    refine HGo.out.mono ?_
    rintro e w2 ⟨rfl,e2⟩
    have e4:Ext wr w2:=ewx.trans e2
    have hcan2:=hcan.ext e4
    have hrd2:=hrd.ext e4 (Nat.le_trans hh e3.size)
    have HFr2:=hiD (HFr.out.ext e4 (Nat.le_trans hh e3.size))
    have e5:Below lo w w2:=aeb e3 e4 hlo
    clear hcan hrd e4 e3 HFx HGo
    cases ho:f ⟨yk,⟨dA,dn,dc,dx⟩,⟨lA,ln,lc,lx⟩⟩
    ·obtain⟨⟨u0,c0⟩,f0⟩:=hcan2 (a * 3) (by omega)
     obtain⟨⟨u1,c1⟩,f1⟩:=hcan2 (a * 3+1) (by omega)
     obtain⟨⟨u2,c2⟩,f2⟩:=hcan2 (a * 3+2) (by omega)
     simp only [←Nat.add_assoc]at c1 f1 c2 f2
     go_wp2_with fail
     go_roundw
     case rel=>
      have hz:(xs.take (b+1)).filter g=(xs.take b).filter g++ [⟨yk,⟨dA,dn,dc,dx⟩,⟨lA,ln,lc,lx⟩⟩]:=by rw [hks.out,ho];simp
      have hL:(obC ((xs.take b).filter g)).length=a * 3:=by rw [acZ,←HI.out]
      refine⟨a+1,b+1,by omega,by omega,by go_num,by go_num,hiD (by rw [hz,List.length_append,←HI.out];rfl),?_,((hcan2.setCell _ _).setCell _ _).setCell _ _,hiD ?_,?_⟩
      ·exact((Below.setCell e5 (p:=⟨q,o+a * 3,none⟩) hg1 _).setCell (p:=⟨q,o+a * 3+1,none⟩) hg1 _).setCell (p:=⟨q,o+a * 3+2,none⟩) hg1 _
      ·have k1:=hcan2.setCell ⟨q,o+a * 3,none⟩ (.string yk)
       have k2:=k1.setCell ⟨q,o+a * 3+1,none⟩ (.slice dA dn dc)
       have p1:=HFr2.out.put_end ⟨hg1,hg2⟩ (.string yk) (by rw [hL];exact⟨u0,c0⟩)
       rw [hL]at p1
       have p2:=p1.put_end ⟨hg1,hg2⟩ (.slice dA dn dc) (by
        rw [List.length_append,hL]
        exact(k1 (a * 3+1) (by omega)).1)
       rw [List.length_append,hL]at p2
       have p3:=p2.put_end ⟨hg1,hg2⟩ (.slice lA ln lc) (by
        rw [List.length_append,List.length_append,hL]
        exact(k2 (a * 3+2) (by omega)).1)
       rw [List.length_append,List.length_append,hL]at p3
       rw [hz,abZ]
       have hX:obC [⟨yk,⟨dA,dn,dc,dx⟩,⟨lA,ln,lc,lx⟩⟩]= [.string yk]++ [.slice dA dn dc]++ [.slice lA ln lc]:=rfl
       rw [hX,←List.append_assoc,←List.append_assoc]
       exact p3
      ·have:=(((hrd2.setCell_before (q:=o+a * 3) (by omega) (.string yk)).setCell_before (q:=o+a * 3+1) (by omega) (.slice dA dn dc)).setCell_before (q:=o+a * 3+2) (by omega) (.slice lA ln lc)).step (1 * 3)
       rw [aeI,List.drop_drop]at this
       rw [show o+(b+1) * 3=o+b * 3+1 * 3 from by omega]
       exact this
     case measure=>simp [intOf];omega
    ·go_wp2_with fail
     go_roundw
     case rel=>
      have hz:(xs.take (b+1)).filter g=(xs.take b).filter g:=by rw [hks.out,ho];simp
      refine⟨a,b+1,by omega,by omega,rfl,by go_num,hiD (by rw [hz];exact HI.out),e5,hcan2,hiD (by rw [hz];exact HFr2.out),?_⟩
      have:=hrd2.step (1 * 3)
      rw [aeI,List.drop_drop]at this
      rw [show o+(b+1) * 3=o+b * 3+1 * 3 from by omega]
      exact this
     case measure=>simp [intOf];omega
   ·have HCL:=hiD (show 0 < n - a→ ∃b k,some (⟨q,o+a * 3,none⟩:Addr)=some ⟨b,k,none⟩∧Can wr b k ((n - a) * (Value.agg #[Value.string ByteArray.empty,.slice none 0 0,.slice none 0 0]).cells.size)from fun _=>⟨q,o+a * 3,rfl,fun r hr=>by
     have h4:(Value.agg #[Value.string ByteArray.empty,.slice none 0 0,.slice none 0 0]).cells.size=3:=rfl
     rw [h4]at hr
     have:=hcan (a * 3+r) (by omega)
     rwa [←Nat.add_assoc]at this⟩)
    obtain rfl:b=n:=by omega
    have ht:xs.take b=xs:=List.take_of_length_le (by rw [←Hn.out];exact Nat.le_refl _)
    have hki:=HI.out
    have hfr:=HFr.out
    rw [ht]at hki hfr
    have HI2:=hiD hki
    have HF2:=hiD hfr
    clear hki hfr ht HF HFr HI hrd hcan
    go_wp2_with
     ((with_reducible refine ahJ _ rfl (.tmp 38) _ rfl 56 _ Tryz.underlying33 aoH (by simp [Value.cells,Value.oneCell']) (by simp [Value.cells]) _ (b - a) (c - a) rfl HCL.out ?_)
      intro w3 he3 hf3
      have e4:Below lo w w3:=he3 _ _ e3 (fun b k h=>by simp only [Option.some.injEq,Addr.mk.injEq]at h;omega)
      have HKp:=hiD hf3
      clear he3 hf3)
    go_ret
    have hL:(obC (xs.filter g)).length=a * 3:=by rw [acZ,←HI2.out]
    refine⟨_,_,by rw [←HI2.out];rfl,by rw [←HI2.out];omega,hm2,?_,e4⟩
    intro hnn
    obtain⟨b',o',he,k1,k2,k3⟩:=HF2.out hnn
    simp only [Option.some.injEq,Addr.mk.injEq,and_true]at he
    obtain⟨rfl,rfl⟩:=he
    refine⟨q,o,rfl,k1,Nat.lt_of_lt_of_le k2 (Nat.le_trans hh e4.size),fun jj v hv=>?_⟩
    have hjl:jj < a * 3:=by rw [←hL];exact(List.getElem?_eq_some_iff.1 hv).1
    rw [HKp.out _ (fun b k h hb=>by simp only [Option.some.injEq,Addr.mk.injEq]at h;obtain⟨_,rfl,_⟩:=h;show o+jj < o+a * 3;omega)]
    exact k3 jj v hv
abbrev RdL:=List (Option Addr×List Value)
def It.bag(S:Nat→Prop)(L:RdL):It:=
 .any S (fun w=>(∀k,S k→k < w.heap.size)∧ ∀q∈L,RdK w S q.1 q.2) (fun w k h hk=>h.1 k hk) (fun w w' hs hk h=>⟨fun k h1=>Nat.lt_of_lt_of_le (h.1 k h1) hs,fun q hq hn=>by
  obtain⟨b,o,e,h1,h2,h3⟩:=h.2 q hq hn
  exact⟨b,o,e,Nat.lt_of_lt_of_le h1 hs,h2,fun j u hu=>(World.cell?_of_block (w:=w) (a:=⟨b,o+j,none⟩) (hk b h2)).trans (h3 j u hu)⟩⟩)
section
variable {w0 w w':World} {its:List It} {j:Nat} {S:Nat→Prop} {L L2:RdL}
theorem Heap.bag0(H:Heap w0 its w):Heap w0 (It.bag (fun _=>False) []::its) w:=
 H.add (Ext.refl w) ⟨fun k hk=>hk.elim,fun k hk=>hk.elim,fun q hq=>by cases hq⟩ (fun k hk=>hk.elim)
theorem Heap.bagExt(H:Heap w0 its w)(hj:its[j]?=some (It.bag S L))(e:Ext w w')(h: ∀q∈L2,Rd w' w.heap.size w'.heap.size q.1 q.2): ∃S',Heap w0 (its.set j (It.bag S' (L2++L))) w':=by
 have hb:=H.all j _ hj
 refine⟨fun k=>S k∨(w.heap.size≤k∧k < w'.heap.size),H.upd hj (Keep.of_ext e) ⟨fun k hk=>?_,fun k hk=>?_,fun q hq=>?_⟩ (fun k hk=>?_) (fun k hk=>?_) (fun k hk=>hb.1 k hk)⟩
 ·rcases hk with hk | hk
  ·exact hb.1 k hk
  ·exact Nat.le_trans H.ext.size hk.1
 ·rcases hk with hk | hk
  ·exact Nat.lt_of_lt_of_le (hb.2.1 k hk) e.size
  ·exact hk.2
 ·rcases List.mem_append.1 hq with hq | hq
  ·intro hn
   obtain⟨b,o,ha,h1,h2,h3⟩:=h q hq hn
   exact⟨b,o,ha,h2,.inr ⟨h1,h2⟩,h3⟩
  ·intro hn
   obtain⟨b,o,ha,h1,h2,h3⟩:=hb.2.2 q hq hn
   exact⟨b,o,ha,Nat.lt_of_lt_of_le h1 e.size,.inl h2,fun j u hu=>(Below.cell (p:=⟨b,o+j,none⟩) e h1).trans (h3 j u hu)⟩
 ·rcases hk with hk | hk
  ·exact .inl hk
  ·exact .inr hk.1
 ·rcases hk with hk | hk
  ·exact .inl hk
  ·exact .inr hk.1
theorem Heap.bagMore(H:Heap w0 its w)(hj:its[j]?=some (It.bag S L))(h: ∀q∈L2,∀ok,(∀q∈L,RdK w ok q.1 q.2)→RdK w ok q.1 q.2):Heap w0 (its.set j (It.bag S (L2++L))) w:=by
 have hb:=H.all j _ hj
 exact H.upd hj (Keep.refl _ _) ⟨hb.1,hb.2.1,fun q hq=>by
  rcases List.mem_append.1 hq with hq | hq
  ·exact h q hq S hb.2.2
  ·exact hb.2.2 q hq⟩ (fun k hk=> .inl hk) (fun k hk=> .inl hk) (fun k hk=>hb.1 k hk)
theorem Heap.bagRd(H:Heap w0 its w)(hj:its[j]?=some (It.bag S L)){A:Option Addr}{cs:List Value}(hq:(A,cs)∈L):Rd w w0.heap.size w.heap.size A cs:=by
 have hb:=H.all j _ hj
 intro hn
 obtain⟨b,o,ha,h1,h2,h3⟩:=hb.2.2 _ hq hn
 exact⟨b,o,ha,hb.1 b h2,h1,h3⟩
end
theorem RdK.drop{w:World}{ok:Nat→Prop}{A:Option Addr}{cs:List Value}(h:RdK w ok A cs)(k:Nat):RdK w ok (A.map (·.add k)) (cs.drop k):=fun hn=>by
 obtain⟨b,o,e,h1,h2,h3⟩:=h (fun e=>hn (by rw [e,List.drop_nil]))
 refine⟨b,o+k,by rw [e];simp [xS],h1,h2,fun j u hu=>?_⟩
 rw [List.getElem?_drop]at hu
 rw [Nat.add_assoc]
 exact h3 _ u hu
theorem RdK.from_{w:World}{ok:Nat→Prop}{n c k:Nat}{A:Option Addr}{cs:List Value}(h:RdK w ok A cs)(hl:cs.length=n)(hk:k≤n)(hc:n≤c):RdK w ok (zy A c k 1) (cs.drop k):=by
 unfold zy
 by_cases e:c=k
 ·rw [List.drop_eq_nil_of_le (by omega)]
  exact RdK.nil
 ·rw [if_neg e,Nat.mul_one]
  exact h.drop _
theorem ahD{P:Program}(w:World)(t e:TypeId)(inf:TypeInfo)(ht:P.underlying t=some (.slice e))(hi:P.info? e=some inf)(hs:inf.size=1)(A:Option Addr)(n c m:Nat)(M:Int)(hM:M=(m:Int))(hm:m≤c):
 (Instr.slice t (.slice A n c) none (some (.int .i64 M)) none).run P w= .ok (.slice A m c) w:=by
 subst hM
 have hb:(Instr.sliceBounds true n c none (some (.int .i64 (m:Int))) none).run P w= .ok (0,m,c) w:=by
  simp [Instr.sliceBounds,run_sliceBound (P:=P) w .i64 (m:Int) c .sliceAcap (by omega) (by omega)]
 cases A with
 | none=>simp [Instr.slice,run_underlying ht,hb,sizeOf,typeInfo,hi,hs]
 | some a=>simp [Instr.slice,run_underlying ht,hb,sizeOf,typeInfo,hi,hs,Addr.add]
abbrev aae(q:Int):Value:= .iface 29 (.int .i64 q)
abbrev aao(q:Int):Ending:= .panicked [{ v:=aae q,recovered:=false }]
theorem Heap.rowBag{w0 w:World}{its:List It}{e:TypeId}{size n c j:Nat}{A:Option Addr}{xs:List Value}{S:Nat→Prop}{L:RdL}(H:Heap w0 (.row e size (.slice A n c) n xs::its) w)(hj:its[j]?=some (It.bag S L)):
 ∃S',Heap w0 (its.set j (It.bag S' ((A,xs)::L))) w:=by
 have hT:=H.tail
 have hb:=hT.all j _ hj
 have hr:=H.rowAt 0 rfl
 have hR:Rd w w0.heap.size w.heap.size A xs:=Rd.of_own hr
 obtain⟨hjl,hje⟩:=List.getElem?_eq_some_iff.1 hj
 have hown: ∀k,(Value.slice A n c).ownBlock=some k→w0.heap.size≤k∧k < w.heap.size:=fun k hk=>World.ownsRow.lt hr k hk
 refine⟨fun k=>S k∨(Value.slice A n c).ownBlock=some k,H.ext,fun i x hx=>?_,fun i i' x y k hii hx hy hk hat=>?_⟩
 ·by_cases hi:i=j
  ·subst hi
   rw [List.getElem?_set_self hjl]at hx
   cases hx
   refine⟨fun k hk=>?_,fun k hk=>?_,fun q hq=>?_⟩
   ·rcases hk with hk | hk
    ·exact hb.1 k hk
    ·exact(hown k hk).1
   ·rcases hk with hk | hk
    ·exact hb.2.1 k hk
    ·exact(hown k hk).2
   ·rcases List.mem_cons.1 hq with rfl | hq
    ·intro hn
     obtain⟨b,o,ha,h1,h2,h3⟩:=hR hn
     exact⟨b,o,ha,h2,.inr (by rw [show A=some ⟨b,o,none⟩from ha];rfl),h3⟩
    ·intro hn
     obtain⟨b,o,ha,h1,h2,h3⟩:=hb.2.2 q hq hn
     exact⟨b,o,ha,h1,.inl h2,h3⟩
  ·rw [List.getElem?_set_ne (Ne.symm hi)]at hx
   exact hT.all i x hx
 ·by_cases hi:i=j
  ·subst hi
   rw [List.getElem?_set_self hjl]at hx
   cases hx
   rw [List.getElem?_set_ne hii]at hy
   rcases hk with hk | hk
   ·exact hT.apart i i' _ y k hii hj hy hk hat
   ·exact H.apart 0 (i'+1) _ y k (by omega) rfl hy hk hat
  ·rw [List.getElem?_set_ne (Ne.symm hi)]at hx
   by_cases hi':i'=j
   ·subst hi'
    rw [List.getElem?_set_self hjl]at hy
    cases hy
    rcases hat with hat | hat
    ·exact hT.apart i i' x _ k hii hx hj hk hat
    ·exact H.apart (i+1) 0 x _ k (by omega) hx rfl hk hat
   ·rw [List.getElem?_set_ne (Ne.symm hi')]at hy
    exact hT.apart i i' x y k hii hx hy hk hat
theorem yB(w:World)(q:Int):Calls Tryz.prog 46 #[.bool false,.int .i64 q] w fun e w'=>e=aao q∧w'=w:=by
 go_enter Tryz.func46,Tryz.ntmps46
 go_wp2_with fail
 exact⟨rfl,rfl,rfl⟩
abbrev strV(l:List ByteArray):List Value:=l.map Value.string
def RS(w0:World)(b:Nat)(its:List It)(L:RdL)(ts:List ByteArray)(w:World):Prop:=
 ∃A c S L',(∀q∈L,q∈L')∧(A,strV ts)∈L'∧ts.length≤c∧c≤maxLen∧(∀s∈ts,s.size≤65536)∧ts.length≤1024∧Heap w0 (.box b [.slice A ts.length c]::It.bag S L'::its) w
section
variable {w0 w w':World} {b:Nat} {its:List It} {L:RdL} {ts:List ByteArray}
theorem RS.heap(h:RS w0 b its L ts w):Heap w0 its w:=by
 obtain⟨A,c,S,L',_,_,_,_,_,_,H⟩:=h
 exact H.tail.tail
theorem RS.sub{L2:RdL}(h:RS w0 b its L ts w)(hs: ∀q∈L2,q∈L):RS w0 b its L2 ts w:=by
 obtain⟨A,c,S,L',h1,h2⟩:=h
 exact⟨A,c,S,L',fun q hq=>h1 q (hs q hq),h2⟩
theorem RS.later(h:RS w0 b its L ts w)(e:Ext w w'):RS w0 b its L ts w':=by
 obtain⟨A,c,S,L',h1,h2,h3,h4,h5,h6,H⟩:=h
 exact⟨A,c,S,L',h1,h2,h3,h4,h5,h6,H.later e⟩
theorem RS.more{L2:RdL}(h:RS w0 b its L ts w)(e:Ext w w')(hr: ∀q∈L2,Rd w' w.heap.size w'.heap.size q.1 q.2):RS w0 b its (L2++L) ts w':=by
 obtain⟨A,c,S,L',h1,h2,h3,h4,h5,h6,H⟩:=h
 obtain⟨S',H'⟩:=H.bagExt (j:=1) rfl e hr
 refine⟨A,c,S',L2++L',fun q hq=>?_,List.mem_append_right _ h2,h3,h4,h5,h6,H'⟩
 rcases List.mem_append.1 hq with hq | hq
 ·exact List.mem_append_left _ hq
 ·exact List.mem_append_right _ (h1 q hq)
end
theorem aaw{w0 w:World}{b:Nat}{its:List It}{L:RdL}(HR:RS w0 b its L [] w):
 Calls Tryz.prog 103 #[.pointer (some ⟨b,0,none⟩)] w fun e w'=>e=aao 21∧Heap w0 its w':=by
 obtain⟨A,c,S,L',h1,h2,h3,h4,h5,h6,H⟩:=HR
 have HH:=hiD H
 clear H h1 h2 h3 h4 h5 h6
 go_enter Tryz.func103,Tryz.ntmps103
 go_wp2_with (refine l1X HH 0 ?_)
 refine(yB _ 21).mono ?_
 rintro e w1 ⟨rfl,rfl⟩
 exact⟨rfl,rfl,HH.out.tail.tail⟩
theorem aa3{w0 w:World}{b:Nat}{its:List It}{L:RdL}{s:ByteArray}{ts:List ByteArray}(HR:RS w0 b its L (s::ts) w):
 Calls Tryz.prog 103 #[.pointer (some ⟨b,0,none⟩)] w fun e w'=>e= .returned (.string s)∧RS w0 b its L ts w':=by
 obtain⟨i0,hi0,hz0,hz1,hz2⟩:=info_parts abd
 obtain⟨A,c,S,L',h1,h2,h3,h4,h5,h6,H⟩:=HR
 have HH:=hiD H
 have HO:=hiD (fun(w':World) (A':Option Addr) (hA:A'=zy A c 1 1) (H':Heap w0 (.box b [.slice A' ts.length (c - 1)]::It.bag S L'::its) w')=>show RS w0 b its L ts w' by
  subst hA
  have H2:=H'.bagMore (j:=1) rfl (L2:= [(zy A c 1 1,strV ts)]) (fun q hq ok hok=>by
   obtain rfl:=List.mem_singleton.1 hq
   have:=(hok _ h2).from_ (n:=(s::ts).length) (c:=c) (k:=1) (by simp [strV]) (by simp) h3
   simpa [strV]using this)
  refine⟨_,c - 1,S,_,fun q hq=>List.mem_append_right _ (h1 q hq),List.mem_cons_self ..,?_,?_,fun s hs=>h5 s (List.mem_cons_of_mem _ hs),?_,H2⟩
  ·rw [List.length_cons]at h3;omega
  ·omega
  ·rw [List.length_cons]at h6;omega)
 have hb:=H.bagRd (j:=1) rfl h2
 obtain⟨b1,o1,rfl,_,_,hcl⟩:=hb (by simp [strV])
 have hc0:w.cell? ⟨b1,o1,none⟩=some (.string s):=hcl 0 _ rfl
 have hlen:(s::ts).length=ts.length+1:=rfl
 rw [hlen]at HH h3 h6
 have hsl: ∀W,(Instr.slice 109 (.slice (some ⟨b1,o1,none⟩) (ts.length+1) c) (some (.int .i64 1)) none none).run Tryz.prog W= .ok (.slice (zy (some ⟨b1,o1,none⟩) c 1 1) ts.length (c - 1)) W:=fun W=>yC W 109 9 i0 1 Tryz.underlying109 hi0 hz1 (some ⟨b1,o1,none⟩) (ts.length+1) c 1 _ rfl (by omega)
 have hd:decide ((0:Int) < ((ts.length+1:Nat):Int))=true:=by simp
 clear hcl hlen H h1 h2 hb
 generalize ts.length=n at *
 go_enter Tryz.func103,Tryz.ntmps103
 go_wp2_with (refine l1X HH 0 ?_)
 refine(yX _ 21).mono ?_
 rintro e w1 ⟨rfl,rfl⟩
 go_wp2_with (first | (refine l1X HH 0 ?_) | (refine s1X HH 0 ?_;clear HH;intro wS HH))
 go_ret
 exact⟨rfl,HO.out _ _ rfl HH.out⟩
def rNm(m:Int):List ByteArray→Option (Int×List ByteArray)
 | []=>none
 | s::l=>if fE s=0∧fV s≤m then some (fV s,l)else none
theorem ae5{w0 w:World}{b:Nat}{its:List It}{L:RdL}{ts:List ByteArray}(HR:RS w0 b its L ts w)(m:Int):
 Calls Tryz.prog 102 #[.pointer (some ⟨b,0,none⟩),.int .i64 m] w fun e w'=>match rNm m ts with
  | none=>e=aao 21∧Heap w0 its w'
  | some (v,ts')=>e= .returned (.int .i64 v)∧RS w0 b its L ts' w':=by
 cases ts with
 | nil=>
   simp only [rNm]
   have HT:=hiD (aaw HR)
   clear HR
   go_enter Tryz.func102,Tryz.ntmps102
   go_wp2_with fail
   refine HT.out.mono ?_
   rintro e w1 ⟨rfl,h1⟩
   exact⟨rfl,rfl,h1⟩
 | cons s ts=>
   have HT:=hiD (aa3 HR)
   have hs:s.size≤65536:=by
    obtain⟨A,c,S,L',_,_,_,_,h5,_⟩:=HR
    exact h5 s (List.mem_cons_self ..)
   have HF:=hiD (fun W=>acL s W (by omega))
   clear HR hs
   simp only [rNm]
   by_cases hE:fE s=0
   ·by_cases hV:fV s≤m
    ·rw [if_pos ⟨hE,hV⟩]
     rw [hE]at HF
     generalize fV s=v at *
     clear hE
     have hd:decide (v≤m)=true:=by simpa using hV
     go_enter Tryz.func102,Tryz.ntmps102
     go_wp2_with fail
     refine HT.out.mono ?_
     rintro e w1 ⟨rfl,h1⟩
     have H1:=hiD h1
     clear h1
     go_wp2_with fail
     refine(HF.out _).mono ?_
     rintro e w2 ⟨rfl,e2⟩
     go_wp2_with fail
     refine(yX _ 21).mono ?_
     rintro e w3 ⟨rfl,rfl⟩
     go_wp2_with fail
     go_ret
     exact⟨rfl,H1.out.later e2⟩
    ·rw [if_neg (fun h=>hV h.2)]
     rw [hE]at HF
     generalize fV s=v at *
     clear hE
     have hd:decide (v≤m)=false:=by simpa using hV
     go_enter Tryz.func102,Tryz.ntmps102
     go_wp2_with fail
     refine HT.out.mono ?_
     rintro e w1 ⟨rfl,h1⟩
     have H1:=hiD h1.heap
     clear h1
     go_wp2_with fail
     refine(HF.out _).mono ?_
     rintro e w2 ⟨rfl,e2⟩
     go_wp2_with fail
     refine(yB _ 21).mono ?_
     rintro e w3 ⟨rfl,rfl⟩
     exact⟨rfl,rfl,H1.out.later e2⟩
   ·rw [if_neg (fun h=>hE h.1)]
    generalize fV s=v at *
    have hd:(fE s == 0)=false:=by simpa using hE
    generalize fE s=x at *
    clear hE
    go_enter Tryz.func102,Tryz.ntmps102
    go_wp2_with fail
    refine HT.out.mono ?_
    rintro e w1 ⟨rfl,h1⟩
    have H1:=hiD h1.heap
    clear h1
    go_wp2_with fail
    refine(HF.out _).mono ?_
    rintro e w2 ⟨rfl,e2⟩
    go_wp2_with fail
    refine(yB _ 21).mono ?_
    rintro e w3 ⟨rfl,rfl⟩
    exact⟨rfl,rfl,H1.out.later e2⟩
abbrev rAm:List ByteArray→Option (Int×List ByteArray):=rNm 1099511627776
theorem alP{w0 w:World}{b:Nat}{its:List It}{L:RdL}{ts:List ByteArray}(HR:RS w0 b its L ts w):
 Calls Tryz.prog 101 #[.pointer (some ⟨b,0,none⟩)] w fun e w'=>match rAm ts with
  | none=>e=aao 21∧Heap w0 its w'
  | some (v,ts')=>e= .returned (.int .i64 v)∧RS w0 b its L ts' w':=by
 have HN:=hiD (ae5 HR 1099511627776)
 simp only [rAm]
 clear HR
 generalize rNm 1099511627776 ts=r at *
 go_enter Tryz.func101,Tryz.ntmps101
 go_wp2_with fail
 refine HN.out.mono ?_
 rintro e w1 h1
 cases r with
 | none=>
   obtain⟨rfl,h1⟩:=h1
   exact⟨rfl,rfl,h1⟩
 | some p=>
   obtain⟨rfl,h1⟩:=h1
   have H1:=hiD h1
   clear h1
   go_wp2_with fail
   go_ret
   exact⟨rfl,H1.out⟩
theorem ajW{w0 w:World}{b:Nat}{its:List It}{L:RdL}{ts:List ByteArray}(HR:RS w0 b its L ts w):
 Calls Tryz.prog 104 #[.pointer (some ⟨b,0,none⟩)] w fun e w'=>(if ts= []then e= .returned (.tuple #[])∧RS w0 b its L [] w' else e=aao 21)∧Heap w0 its w':=by
 by_cases h:ts= []
 ·subst h
  have HT:=hiD HR
  obtain⟨A,c,S,L',h1,h2,h3,h4,h5,h6,H⟩:=HR
  have HH:=hiD H
  clear H h1 h2 h3 h4 h5 h6
  go_enter Tryz.func104,Tryz.ntmps104
  go_wp2_with (refine l1X HH 0 ?_)
  refine(yX _ 21).mono ?_
  rintro e w1 ⟨rfl,rfl⟩
  go_wp2_with fail
  go_end0
  exact⟨⟨rfl,HT.out⟩,HT.out.heap⟩
 ·obtain⟨A,c,S,L',h1,h2,h3,h4,h5,h6,H⟩:=HR
  have HH:=hiD H
  have hl:0 < ts.length:=List.length_pos_iff.2 h
  clear H h1 h2 h3 h4 h5 h6
  simp only [if_neg h]
  have hd:(((ts.length:Nat):Int) == 0)=false:=by simpa using h
  go_enter Tryz.func104,Tryz.ntmps104
  go_wp2_with (refine l1X HH 0 ?_)
  refine(yB _ 21).mono ?_
  rintro e w1 ⟨rfl,rfl⟩
  exact⟨rfl,rfl,HH.out.tail.tail⟩
section
variable {P:Program} {ops:Array Oper} {l rest:List Oper} {Q:Exit→Act→World→Prop} {md:Region.Mode} {r n:Nat} {o:Oper} {a:Act} {w:World}
def acJ(o:Oper):Bool:=match o.op with
 | .defer _=>false
 | _=>true
theorem ajH{o:Oper}(h:acJ o=true): ∀c,o.op≠ .defer c:=fun c e=>by rw [acJ,e]at h;cases h
theorem ajE{row:String}{args:Array Value}{w:World}{R:Value→World→Prop}(h:Rows P row args w R):RowsIn (Fence.wide.inRound r) n P row args w R:=
 fun c cs _=>let ⟨v,w',q,s⟩:=h c cs;⟨v,w',q,stepsIn_wide.2 s⟩
theorem ahV{K:Act→World→Prop}(hc:acJ o=true)(h:o.wp P a w K Q):o.wpIn (Fence.wide.inRound r) n P a w K Q:=by
 refine⟨fun _ _=>trivial,?_⟩
 rw [Oper.semAt_plain _ _ _ (ajH hc)]
 unfold Oper.wp at h
 generalize (execOp a.eval o).run P w=x at *
 cases x with
 | ok x w'=>
   cases x <;> simp only [Oper.upon,Oper.uponIn]at h ⊢
   case value v=>exact h
   case skip=>exact h
   case defer d=>exact h
   case enter f args=>exact⟨fun h=>by simp [Fence.wide]at h,CallsIn.inRound r (callsIn_wide.2 h)⟩
   case row row args=>exact⟨fun h=>by simp [Fence.wide]at h,ajE h⟩
 | halt x w'=>cases x <;> simp only [Oper.upon,Oper.uponIn]at h ⊢ <;> exact h
theorem aed(hL: ¬LetsOut Q): ∀(l:List Oper) (a:Act) (w:World),l.all acJ=true→wpList P ops Q l a w→wpListIn (Fence.wide.inRound r) n P ops Q l a w
 | [],_,_,_,h=>h
 | o::l,a,w,hc,h=>by
   rw [List.all_cons,Bool.and_eq_true]at hc
   simp only [wpList,wpListIn]at h ⊢
   split at h
   ·rename_i hw
    rw [if_pos hw]
    rcases h with h | ⟨_,h⟩
    ·exact ahV hc.1 (Oper.wp_mono (fun a w=>aed hL l a w hc.2) h)
    ·exact absurd h hL
   ·rename_i hw
    rw [if_neg hw]
    exact⟨fun _ _=>trivial,aed hL l _ _ hc.2 h⟩
theorem aj3(hL: ¬LetsOut Q)(hc:ops.toList.all acJ=true){K:Act→World→Prop}{i:Nat}(h:wpOp P ops Q i K a w):wpOpIn (Fence.wide.inRound r) n P ops Q i K a w:=by
 unfold wpOp at h
 unfold wpOpIn
 cases ho:ops[i]? with
 | none=>rw [ho]at h;exact h
 | some o=>
   rw [ho]at h
   simp only at h ⊢
   have hco:acJ o=true:=List.all_eq_true.1 hc o (by
    obtain⟨hi,rfl⟩:=Array.getElem?_eq_some_iff.1 ho
    exact Array.getElem_mem_toList hi)
   split at h
   ·rename_i hw
    rw [if_pos hw]
    rcases h with h | ⟨_,h⟩
    ·exact ahV hco h
    ·exact absurd h hL
   ·rename_i hw
    rw [if_neg hw]
    exact⟨fun _ _=>trivial,h⟩
theorem ag8(hL: ¬LetsOut Q)(hc:ops.toList.all acJ=true): ∀(fuel:Nat) (listed:Array Bool) (a:Act) (w:World),wpAny P md ops Q fuel listed a w→wpAnyIn (Fence.wide.inRound r) n P md ops Q fuel listed a w
 | 0,_,_,_,h=>h
 | fuel+1,_,_,_,h=>⟨h.1,fun i hi=>aj3 hL hc (wpOp_mono (fun a w=>ag8 hL hc fuel _ a w) (h.2 i hi))⟩
theorem amn{id:Nat}(hL: ¬LetsOut Q)(hc:l.all acJ=true)(h:wpList P l.toArray Q l a w):(Code.region id l.toArray false).wpIn (Fence.wide.inRound r) n P Q a w:=
 wpIn_region_lit (aed hL l a w hc h)
theorem akH{id:Nat}(hL: ¬LetsOut Q)(hc:l.all acJ=true)(hm:P.follows .mixedOrders=true)(h:wpAny P .any l.toArray Q l.toArray.size (Array.replicate l.toArray.size false) a w.drew):
 (Code.region id l.toArray true).wpIn (Fence.wide.inRound r) n P Q a w:=
 wpIn_region_any hm (ag8 hL (by simpa using hc) _ _ _ _ h)
theorem ajz{id:Nat}{S:World→Prop}(m:Nat→Bool)(hL: ¬LetsOut Q)(hc:l.all acJ=true)(hm:P.follows .mixedOrders=true)(hS:S w.drew)(h:S w.drew→zU P .any l.toArray Q S m l.toArray.size (Array.replicate l.toArray.size false) a w.drew):
 (Code.region id l.toArray true).wpIn (Fence.wide.inRound r) n P Q a w:=
 akH hL hc hm (ac8 _ _ _ _ (h hS))
end
abbrev It.obj(b:Nat)(o:Obj):It:= .any (fun k=>k=b) (fun w=>w.heap[b]?=some o) (fun w k h e=>by rw [e];exact(Array.getElem?_eq_some_iff.1 h).1) (fun w w' _ hk h=>(hk b rfl).trans h)
abbrev It.objs(f:Nat→Option Obj):It:= .any (fun k=>(f k).isSome=true) (fun w=> ∀k o,f k=some o→w.heap[k]?=some o)
 (fun w k h e=>by
   obtain⟨o,ho⟩:=Option.isSome_iff_exists.1 e
   exact(Array.getElem?_eq_some_iff.1 (h k o ho)).1) (fun w w' _ hk h k o ho=>(hk k (by rw [ho];rfl)).trans (h k o ho))
def ajf(B:Nat)(x:It):Prop:= ∀(base:Nat) (W:World) (k:Nat),x.holds base W→x.at' k→k < B∨ ∃o:Obj,W.heap[k]?=some o∧o.isCells=true
theorem agC{B:Nat}{S:Nat→Prop}{p:World→Prop}{lt keep}(h: ∀k,S k→k < B):ajf B (.any S p lt keep):=fun base W k _ ha=> .inl (h k ha)
theorem afn{o:Obj}(h:o.isWalk=true)(k:o.isCells=true):False:=by cases o <;> simp [Obj.isWalk,Obj.isCells]at h k
def aiP(lo B:Nat)(W W':World):Prop:= ∀(k:Nat) (o:Obj),(k < lo∨B≤k)→W.heap[k]?=some o→o.isWalk=true→W'.heap[k]?=some o
section
variable {P:Program} {w0 w w':World} {its:List It} {i:Nat}
theorem Heap.objAt{b:Nat}{o:Obj}(h:Heap w0 its w)(i:Nat)(hi:its[i]?=some (.obj b o)):w.heap[b]?=some o:=(h.all i _ hi).2
theorem Heap.addObj(h:Heap w0 its w)(o:Obj):Heap w0 (.obj w.heap.size o::its) (w.alloc o):=
 h.add ((Ext.refl w).alloc o) ⟨fun k hk=>by subst hk;exact h.ext.size,World.alloc_heap_new w o⟩ fun k hk=>by cases hk;exact Nat.le_refl _
theorem ahj(w:World)(b:Nat)(o:Obj):Keep (fun k=>k≠b) w (w.putObj b o):=
 ⟨rfl,rfl,rfl,by simp,fun k _ hk=>World.putObj_heap_other hk⟩
theorem Heap.putObj{b:Nat}{o:Obj}(h:Heap w0 its w)(i:Nat)(hi:its[i]?=some (.obj b o))(o':Obj):Heap w0 (its.set i (.obj b o')) (w.putObj b o'):=
 h.upd hi ((ahj w b o').mono fun k hk e=>hk e) ⟨(h.all i _ hi).1,World.putObj_heap_same (Array.getElem?_eq_some_iff.1 (h.objAt i hi)).1⟩ (fun k hk=> .inl hk) (fun k hk=> .inl hk) fun k hk=>(h.all i _ hi).1 k hk
theorem Heap.beside{x:It}(h:Heap w0 its w)(hx:x.holds w0.heap.size w)(hn: ∀k,x.at' k→ ∀y∈its,¬y.at' k):Heap w0 (x::its) w:=by
 refine⟨h.ext,fun j y hy=>?_,fun j l y z k hjl hy hz ho hat=>?_⟩
 ·cases j with
  | zero=>cases hy;exact hx
  | succ j=>exact h.all j y hy
 ·cases j with
  | zero=>
    cases hy
    cases l with
    | zero=>exact hjl rfl
    | succ l=>exact hn k (It.own_at ho) z (List.mem_of_getElem? hz) hat
  | succ j=>
    cases l with
    | zero=>cases hz;exact hn k hat y (List.mem_of_getElem? hy) (It.own_at ho)
    | succ l=>exact h.apart j l y z k (fun e=>hjl (by omega)) hy hz ho hat
theorem Heap.turned{B:Nat}{row:Option Nat}(h:Heap w0 its w)(hB:w0.heap.size≤B)(hc: ∀x∈its,ajf B x)(hg:w.grownBy w' row)(hr: ∀r,row=some r→B≤r∧ ∃o:Obj,w.heap[r]?=some o∧o.isWalk=true):Heap w0 its w':=by
 refine⟨Below.grown h.ext hg h.ext.size (fun k e=>Nat.le_trans hB (hr k e).1),fun i x hx=>?_,h.apart⟩
 refine It.keeps (h.all i x hx) hg.size fun k hk=>hg.block k (It.at_lt (h.all i x hx) hk) fun e=>?_
 obtain⟨hb,o,ho,hw⟩:=hr k e.symm
 rcases hc x (List.mem_of_getElem? hx) _ _ k (h.all i x hx) hk with h1 | ⟨o',h1,h2⟩
 ·omega
 ·rw [ho]at h1
  cases h1
  exact afn hw h2
theorem aj0{α:Type}{N:Nat}{g:Operand}{ps:Array Tmp}{assign body:Code}{Q:Exit→Act→World→Prop}{a:Act}{gf:Nat}{lb:Array Value}{encs:α→Array Value}{ok:List α→α→Prop}{S:List α→Prop}(R:List α→List It→Prop)(turns:Bool)
 (hg:a.eval g= .func (.func gf) #[] lb) (eg: ∀args w,(callFunc gf args).run P w= .ok (.enter gf args) w) (hps: ∀x,(encs x).size=ps.size)
 (hcalm:turns=true→ ∀pre L,R pre L→ ∀x∈L,ajf w.heap.size x)
 (hseq: ∀(l:Nat) (J:List α→World→Prop) (W:World),Ext w W→(∀pre W,J pre W→ ∃x y L,R pre L∧Heap w0 (x::y::L) W)→(∀pre W,J pre W→J pre W.drew)→(turns=true→AbidesFrom W.heap.size J)→
   (∀pre x W1,J pre W1→pre.length < N→ok pre x→YieldAt Fence.wide 0 P l (encs x) W1 fun e W'=>e= .returned (.bool true)∧J (pre++ [x]) W'∧(turns=true→aiP w0.heap.size W.heap.size W1 W'))→J [] W→
   Calls P gf (#[.func (.yield l) #[] #[]]++lb) W fun e W'=>(∃v,e= .returned v)∧ ∃xs,S xs∧J xs W')
 {L0:List It} (hR0:R [] L0) (h0:Heap w0 L0 w) (a₁:α→Act)
 (hassign: ∀(l:Nat) (x:α) (W:World) (K:Act→World→Prop),K (a₁ x) W→
   assign.wpIn (Fence.wide.inRound l) 0 P (Exit.then K (fun _ _ _=>False)) { tmps:=(ps.zip (encs x)).foldl (fun t (p,v)=>t.setIfInBounds p v) a.tmps,defers:= [] } W)
 (hbody: ∀(l:Nat) (pre:List α) (x:α) (y1 y2 y3:It) (L:List It) (W:World),pre.length < N→ok pre x→R pre L→Heap w0 (y1::y2::y3::L) W→body.wpIn (Fence.wide.inRound l) 0 P (fun e _ W'=>e= .normal∧ ∃L',R (pre++ [x]) L'∧Heap w0 (y1::y2::y3::L') W') (a₁ x) W)
 (hdone: ∀(D:Nat) (y:It) (xs:List α) (L:List It) (W:World),S xs→R xs L→Heap w0 (y:: .obj D (.deferred (some []))::L) W→Q .normal { a with defers:={ target:= .collected D,args:= #[] } ::a.defers } W):
 (Code.rangeFunc g ps assign body).wp P Q a w:=by
 refine(wpIn_wide (n:=0)).1 (wpIn_rangeFunc ?_)
 intro fn _
 obtain⟨rc,hrc⟩: ∃rc:LoopState→Option Code→Loop,rc=fun st pe=> { state:=st,pending:=pe,fn,tmps:=a.tmps,params:=ps,assign,body,defers:=w.heap.size }:=⟨_,rfl⟩
 obtain⟨W1,hW1⟩: ∃W1,(w.alloc (.deferred (some []))).alloc (.loop (rc .ready none))=W1:=⟨_,rfl⟩
 have H1:Heap w0 (.obj (w.heap.size+1) (.loop (rc .ready none)):: .obj w.heap.size (.deferred (some []))::L0) W1:=by
  have h:=(h0.addObj (.deferred (some []))).addObj (.loop (rc .ready none))
  rw [←hW1]
  simpa only [World.size_alloc]using h
 have E1:Ext w W1:=by rw [←hW1];exact((Ext.refl w).alloc _).alloc _
 have hs1:W1.heap.size=w.heap.size+1+1:=by rw [←hW1];simp
 have hcl:turns=true→ ∀pre L,R pre L→ ∀o1 o2,∀x∈It.obj (w.heap.size+1) o1::It.obj w.heap.size o2::L,ajf W1.heap.size x:=fun ht pre L hL o1 o2 x hx=>by
  rcases List.mem_cons.1 hx with rfl | hx
  ·exact agC fun k e=>by subst e;omega
  rcases List.mem_cons.1 hx with rfl | hx
  ·exact agC fun k e=>by subst e;omega
  intro base W k h ha
  rcases hcalm ht pre L hL x hx base W k h ha with h1 | h1
  ·exact .inl (by omega)
  ·exact .inr h1
 refine⟨w.heap.size+1, [{ target:= .collected w.heap.size,args:= #[] }],W1,{ target:= .fn (.func gf) lb,args:= #[.func (.yield (w.heap.size+1)) #[] #[]] },W1,gf,
  #[.func (.yield (w.heap.size+1)) #[] #[]]++lb,W1,?_,?_,?_,?_,fun h=>by simp [Fence.wide]at h,?_⟩
 ·rw [←hW1,hrc]
  exact run_enterLoop_outer _ _ _ _ _
 ·simp only [resolve,hg]
  simp [go_sem]
 ·intro f' _
  trivial
 ·simp [invoke,go_sem,eg]
 ·refine callsIn_wide.2 ((hseq (w.heap.size+1) (fun pre W=> ∃L,R pre L∧Heap w0 (.obj (w.heap.size+1) (.loop (rc .ready none)):: .obj w.heap.size (.deferred (some []))::L) W) W1 E1 (fun k W h=>let ⟨L,h1,h2⟩:=h;⟨_,_,L,h1,h2⟩) (fun k W h=>let ⟨L,h1,h2⟩:=h;⟨L,h1,h2.drew⟩) (fun ht pre A B row hA hgr hrow=>let ⟨L,h1,h2⟩:=hA;⟨L,h1,h2.turned (Nat.le_trans h0.ext.size E1.size) (hcl ht pre L h1 _ _) hgr hrow⟩) ?_ ⟨L0,hR0,H1⟩).mono ?_)
  ·rintro pre x W ⟨L,hRL,H⟩ hk hok
   have hl:=H.objAt 0 rfl
   have hy:=run_yield (P:=P) (args:=encs x) hl (by rw [hrc];exact hps x)
   rw [hrc]at hy
   refine⟨fn,_,assign,body,hy,roundIn_of_wpIn trivial (hassign _ x W _ ?_)⟩
   clear hy
   refine⟨_,run_beginRound hl (by rw [hrc]),?_⟩
   have H2:=H.putObj 0 rfl (.loop { rc .ready none with state:= .busy })
   obtain⟨W2,hW2⟩: ∃W2,W.putObj (w.heap.size+1) (.loop { rc .ready none with state:= .busy })=W2:=⟨_,rfl⟩
   rw [hW2]at H2 ⊢
   have hother: ∀k,k≠w.heap.size+1→W2.heap[k]?=W.heap[k]?:=fun k hk=>by rw [←hW2];exact World.putObj_heap_other hk
   have hsz2:W2.heap.size=W.heap.size:=by rw [←hW2];simp
   let f:Nat→Option Obj:=fun k=>if turns=true∧W1.heap.size≤k then(match W2.heap[k]? with
    | some o=>if o.isWalk then some o else none
    | none=>none)else none
   have hf: ∀k o,f k=some o→turns=true∧W1.heap.size≤k∧W2.heap[k]?=some o∧o.isWalk=true:=fun k o h=>by
    simp only [f]at h
    split at h
    ·rename_i hc
     split at h
     ·rename_i o' ho'
      split at h
      ·rename_i hw
       cases h
       exact⟨hc.1,hc.2,ho',hw⟩
      ·cases h
     ·cases h
    ·cases h
   have H3:=Heap.beside (x:= .objs f) H2 ⟨fun k hk=>by
    obtain⟨o,ho⟩:=Option.isSome_iff_exists.1 hk
    have:=(hf k o ho).2.1
    have:=H1.ext.size
    omega,fun k o ho=>(hf k o ho).2.2.1⟩ (fun k hk y hy hat=>by
    obtain⟨o,ho⟩:=Option.isSome_iff_exists.1 hk
    obtain⟨ht,hle,ho2,hw⟩:=hf k o ho
    obtain⟨j,hj⟩:=List.getElem?_of_mem hy
    rcases hcl ht pre L hRL _ _ y hy w0.heap.size W2 k (H2.all j y hj) hat with h1 | ⟨o',h1,h2⟩
    ·omega
    ·rw [ho2]at h1
     cases h1
     exact afn hw h2)
   refine wpIn_mono (hbody _ pre x _ _ _ L W2 hk hok hRL H3) ?_
   rintro e a3 W3 ⟨rfl,L',hRL',H4⟩
   have H5:=H4.tail
   have hl3:=H5.objAt 0 rfl
   refine⟨_,_,run_endRound (P:=P) none hl3,rfl,?_,fun ht=>?_⟩
   ·have H6:=H5.putObj 0 rfl (.loop (rc .ready none))
    rw [hrc]at H6 ⊢
    exact⟨L',hRL',H6⟩
   intro k o hk ho hw
   have hne:k≠w.heap.size+1:=by
    have:=h0.ext.size
    rcases hk with h | h
    ·omega
    ·omega
   have ho2:W2.heap[k]?=some o:=(hother k hne).trans ho
   have ho3:W3.heap[k]?=some o:=by
    rcases hk with h | h
    ·exact((H4.ext.block k h).trans (H2.ext.block k h).symm).trans ho2
    ·refine(H4.all 0 _ rfl).2 k o ?_
     simp only [f]
     rw [if_pos ⟨ht,h⟩,ho2]
     simp only [hw,if_true]
   exact(World.putObj_heap_other hne).trans ho3
  ·rintro e W2 ⟨⟨v,rfl⟩,xs,hS,L,hRL,H⟩
   have hl:=H.objAt 0 rfl
   exact⟨_,_,run_endLoop (P:=P) hl (by rw [hrc];simp),by
    simp only [hrc]
    exact hdone _ _ xs L _ hS hRL (H.putObj 0 rfl _)⟩
end
end Go.Proofs.YtckaneapjpiocaaGreatDoor
