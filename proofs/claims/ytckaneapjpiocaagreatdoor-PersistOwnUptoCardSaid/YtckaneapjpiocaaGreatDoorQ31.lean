/- The texts Cnt, Ldg, Nd, Pol in one file. -/
import Derived.Test.YtckaneapjpiocaaGreatDoorQ25
import Derived.Test.YtckaneapjpiocaaGreatDoorQ28
set_option linter.unusedVariables false
set_option linter.unusedSimpArgs false
set_option maxHeartbeats 8000000
set_option maxRecDepth 100000
namespace Go.Proofs.YtckaneapjpiocaaGreatDoor
open Go.RowKit
def xz(z:Int):Bool:=decide (z < 0) || decide (1099511627776 < z)
theorem anT{z:Int}(h:xz z=false):0≤z∧z≤1099511627776:=by
 simp only [xz,Bool.or_eq_false_iff,decide_eq_false_iff_not]at h
 omega
theorem amC(z:Int)(w:World):Calls Tryz.prog 206 #[.int .i64 z] w fun e w'=>e= .returned (.bool (xz z))∧Ext w w':=by
 have h:Hid (xz z=(decide (z < 0) || decide (1099511627776 < z))):=hiD rfl
 by_cases h0:z < 0
 ·go_enter Tryz.func206,Tryz.ntmps206
  go_wp2_with fail
  go_ret
  exact⟨by rw [h.out,decide_eq_true h0];rfl,Ext.refl _⟩
 ·have h1:0≤z:=by omega
  go_enter Tryz.func206,Tryz.ntmps206
  go_wp2_with fail
  go_ret
  exact⟨by rw [h.out,decide_eq_false (show¬z < 0 by omega)];rfl,Ext.refl _⟩
def apo(l:List Int)(w:World)(e:Ending)(w':World):Prop:=
 ∃r:Int,e= .returned (.int .i64 r)∧l.any xz=decide (0≤r)∧ -1≤r∧Ext w w'
theorem al1(w:World)(A:Option Addr)(n c lo hi:Nat)(l:List Int)(hn:n=l.length)(hm:n≤9223372036854775807)(hr:Rd w lo hi A (ints l))(hh:hi≤w.heap.size):
 Calls Tryz.prog 225 #[.slice A n c,.func (.func 206) #[] #[]] w (apo l w):=by
 have Hn:=hiD hn
 clear hn
 go_enter Tryz.func225,Tryz.ntmps225
 go_wp2_with fail
 go_loopw [8] (fun i wr=> ∃k:Nat,k≤n∧i= .int .i64 k∧(l.take k).any xz=false∧Ext w wr) (fun i _=>n - (intOf i).toNat)
 case atStart=>exact⟨0,Nat.zero_le _,rfl,rfl,Ext.refl _⟩
 case round=>
  obtain⟨k,hk,rfl,hno,e1⟩:=hrel
  have HK:=hiD hno
  clear hno
  by_cases hlt:k < n
  ·obtain⟨b1,o1,rfl,_,_,f0⟩:=adZ (hr.ext e1 hh) (k:=k) (by rw [←Hn.out];omega)
   have hl:k < l.length:=by rw [←Hn.out];omega
   obtain⟨y,hy⟩: ∃y,y=l[k]'hl:=⟨_,rfl⟩
   rw [←hy]at f0
   have HY:=hiD hy
   clear hy
   go_wp2_with fail
   refine(amC y _).mono ?_
   rintro e w2 ⟨rfl,e2⟩
   cases ho:xz y
   ·go_wp2_with fail
    go_roundw
    case rel=>
     refine⟨k+1,by omega,by go_num,?_,blo⟩
     rw [List.take_succ_eq_append_getElem hl,List.any_append,HK.out,←HY.out]
     simp [ho]
    case measure=>simp [intOf];omega
   ·go_wp2_with fail
    go_ret
    refine⟨k,rfl,?_,by omega,blo⟩
    have h1:l.any xz=true:=List.any_eq_true.2 ⟨y,by rw [HY.out];exact List.getElem_mem _,ho⟩
    rw [h1]
    simp
  ·go_wp2_with fail
   go_ret
   obtain rfl:k=n:=by omega
   have h1:=HK.out
   rw [List.take_of_length_le (by rw [←Hn.out];exact Nat.le_refl _)]at h1
   exact⟨-1,rfl,by rw [h1];rfl,by omega,e1⟩
theorem ags(w:World)(A:Option Addr)(n c lo hi:Nat)(l:List Int)(hn:n=l.length)(hm:n≤9223372036854775807)(hr:Rd w lo hi A (ints l))(hh:hi≤w.heap.size):
 Calls Tryz.prog 205 #[.slice A n c,.func (.func 206) #[] #[]] w fun e w'=>e= .returned (.bool (l.any xz))∧Ext w w':=by
 have Hn:=hiD hn
 clear hn
 go_enter Tryz.func205,Tryz.ntmps205
 go_wp2_with fail
 refine(al1 w A n c lo hi l Hn.out hm hr hh).mono ?_
 rintro e w2 ⟨r,rfl,hany,hr1,e2⟩
 have HA:=hiD hany
 clear hany
 go_wp2_with fail
 go_ret
 exact⟨by rw [HA.out];rfl,e2⟩
def aeO(l:List Int):Int:=if l.any xz then 4 else 0
theorem aiz(w:World)(A:Option Addr)(n c lo hi:Nat)(l:List Int)(hn:n=l.length)(hm:n≤9223372036854775807)(hr:Rd w lo hi A (ints l))(hh:hi≤w.heap.size):
 Calls Tryz.prog 172 #[.slice A n c] w fun e w'=>e= .returned (.int .i64 (aeO l))∧Ext w w':=by
 have H:=hiD (ags w A n c lo hi l hn hm hr hh)
 have hv:Hid (aeO l=if l.any xz then 4 else 0):=hiD rfl
 generalize l.any xz=b at *
 generalize aeO l=v at *
 clear hr hn
 go_enter Tryz.func172,Tryz.ntmps172
 go_wp2_with fail
 refine H.out.mono ?_
 rintro e w2 ⟨rfl,e2⟩
 cases b
 all_goals
  go_wp2_with fail
  go_ret
  exact⟨by rw [hv.out];rfl,e2⟩
theorem ahA(w:World)(A:Option Addr)(n c lo hi:Nat)(l:List Int)(hn:n=l.length)(hm:n≤9223372036854775807)(hr:Rd w lo hi A (ints l))(hh:hi≤w.heap.size):
 Calls Tryz.prog 196 #[.slice A n c] w fun e w'=>e= .returned (.bool (!l.any xz))∧Ext w w':=by
 have Hn:=hiD hn
 clear hn
 go_enter Tryz.func196,Tryz.ntmps196
 go_wp2_with fail
 go_loopw [3] (fun i wr=> ∃k:Nat,k≤n∧i= .int .i64 k∧Hid ((l.take k).any xz=false)∧Ext w wr) (fun i _=>n - (intOf i).toNat)
 case atStart=>exact⟨0,Nat.zero_le _,rfl,hiD rfl,Ext.refl _⟩
 case round=>
  obtain⟨k,hk,rfl,HK,e1⟩:=hrel
  by_cases hlt:k < n
  ·obtain⟨b1,o1,rfl,_,_,f0⟩:=adZ (hr.ext e1 hh) (k:=k) (by rw [←Hn.out];omega)
   have hl:k < l.length:=by rw [←Hn.out];omega
   obtain⟨y,hy⟩: ∃y,y=l[k]'hl:=⟨_,rfl⟩
   rw [←hy]at f0
   have HY:=hiD hy
   have hcase:(xz y=true∧y < 0)∨(xz y=true∧0≤y∧1099511627776 < y)∨(xz y=false∧0≤y∧y≤1099511627776):=by
    simp only [xz,Bool.or_eq_true,Bool.or_eq_false_iff,decide_eq_true_eq,decide_eq_false_iff_not]
    omega
   clear hy
   have bad:xz y=true→l.any xz=true:=fun ho=>List.any_eq_true.2 ⟨y,by rw [HY.out];exact List.getElem_mem _,ho⟩
   have HBad:=hiD bad
   clear bad
   rcases hcase with⟨ho,h0⟩ | ⟨ho,h0,h1⟩ | ⟨ho,h0,h1⟩
   ·have HO:=hiD ho
    clear ho
    go_wp2_with fail
    go_ret
    exact⟨by rw [HBad.out HO.out];rfl,e1⟩
   ·have HO:=hiD ho
    clear ho
    go_wp2_with fail
    go_ret
    exact⟨by rw [HBad.out HO.out];rfl,e1⟩
   ·have HO:=hiD ho
    clear ho
    go_wp2_with fail
    go_roundw
    case rel=>
     refine⟨k+1,by omega,by go_num,hiD ?_,blo⟩
     rw [List.take_succ_eq_append_getElem hl,List.any_append,HK.out,←HY.out]
     simp [HO.out]
    case measure=>simp [intOf];omega
  ·go_wp2_with fail
   go_ret
   obtain rfl:k=n:=by omega
   have h1:=HK.out
   rw [List.take_of_length_le (by rw [←Hn.out];exact Nat.le_refl _)]at h1
   exact⟨by rw [h1];rfl,e1⟩
def xh(l:List Int):Int:=if l.any xz then 4 else if 1099511627776 < l.sum then 15 else 0
def qE(l:List Int):Int:=if xh l=0 then l.sum else 0
theorem aeU{l:List Int}(h:l.any xz=false): ∀z∈l,0≤z∧z≤1099511627776:=fun z hz=>by
 rcases hz':xz z with _ | _
 ·exact anT hz'
 ·have:=List.any_eq_true.2 ⟨z,hz,hz'⟩
  rw [h]at this
  cases this
theorem aen: ∀{l:List Int},(∀z∈l,0≤z)→0≤l.sum
 | [],_=>by simp
 | x::r,h=>by
   have h1:=h x (List.mem_cons_self ..)
   have h2:=aen (l:=r) fun z hz=>h z (List.mem_cons_of_mem _ hz)
   rw [List.sum_cons];omega
theorem agR(l:List Int)(k:Nat)(hk:k < l.length)(h: ∀z∈l,0≤z):(l.take (k+1)).sum=(l.take k).sum+l[k]∧(l.take (k+1)).sum≤l.sum∧0≤(l.take k).sum:=by
 have h1:(l.take (k+1)).sum=(l.take k).sum+l[k]:=by rw [List.take_succ_eq_append_getElem hk,List.sum_append];simp
 have h2:l.sum=(l.take (k+1)).sum+(l.drop (k+1)).sum:=by rw [←List.sum_append,List.take_append_drop]
 have h3:=aen (l:=l.drop (k+1)) fun z hz=>h z (List.mem_of_mem_drop hz)
 have h4:=aen (l:=l.take k) fun z hz=>h z (List.mem_of_mem_take hz)
 exact⟨h1,by omega,h4⟩
theorem alU(w:World)(A:Option Addr)(n c:Nat)(l:List Int)(hn:n=l.length)(hm:n≤1048576)(hr:Rd w 0 w.heap.size A (ints l)):
 Calls Tryz.prog 124 #[.slice A n c] w fun e w'=>e= .returned (.tuple #[.int .i64 (qE l),.int .i64 (xh l)])∧Ext w w':=by
 have HC:=hiD (aiz w A n c 0 w.heap.size l hn (by omega) hr (Nat.le_refl _))
 have Hn:=hiD hn
 by_cases hb:l.any xz=true
 ·have h1:xh l=4:=by rw [xh,if_pos hb]
  have h2:qE l=0:=by rw [qE,h1];rfl
  have h3:aeO l=4:=by rw [aeO,if_pos hb]
  rw [h1,h2]
  rw [h3]at HC
  clear h1 h2 h3 hb hr hn
  go_enter Tryz.func124,Tryz.ntmps124
  go_wp2_with fail
  refine HC.out.mono ?_
  rintro e w2 ⟨rfl,e2⟩
  go_wp2_with fail
  go_ret2
  exact⟨rfl,e2⟩
 ·have hb':l.any xz=false:=by simpa using hb
  have h3:aeO l=0:=by rw [aeO,if_neg hb]
  have hall:=hiD (aeU hb')
  have HST:=hiD (fun k hk=>agR l k hk fun z hz=>(hall.out z hz).1)
  rw [h3]at HC
  have HE:Hid (xh l=if 1099511627776 < l.sum then 15 else 0):=hiD (by rw [xh,if_neg hb])
  have HV:Hid (qE l=if xh l=0 then l.sum else 0):=hiD rfl
  generalize xh l=E at *
  generalize qE l=V at *
  clear hb hb' h3 hn
  go_enter Tryz.func124,Tryz.ntmps124
  go_wp2_with fail
  refine HC.out.mono ?_
  rintro e w2 ⟨rfl,e2⟩
  go_wp2_with fail
  go_loopw [5,15] (fun s i wr=> ∃k:Nat,k≤n∧i= .int .i64 k∧ ∃z:Int,s= .int .i64 z∧Hid (z=(l.take k).sum)∧0≤z∧z≤1099511627776∧Ext w wr) (fun _ i _=>n - (intOf i).toNat)
  case atStart=>exact⟨0,Nat.zero_le _,rfl,0,rfl,hiD rfl,by omega,by omega,e2⟩
  case round=>
   obtain⟨k,hk,rfl,z,rfl,HK,hz0,hz1,e1⟩:=hrel
   by_cases hlt:k < n
   ·obtain⟨b1,o1,rfl,_,_,f0⟩:=adZ (Rd.at hr e1 (Nat.le_refl _)) (k:=k) (by rw [←Hn.out];omega)
    have hl:k < l.length:=by rw [←Hn.out];omega
    have h5:=HST.out k hl
    rw [←HK.out]at h5
    have h6:=hall.out _ (List.getElem_mem hl)
    generalize l[k]=y at *
    have HT:=hiD h5
    clear h5
    have hkn:(k:Int) < (n:Int):=by omega
    have hw1:IntKind.i64.wrap (1099511627776 - y)=1099511627776 - y:=IntWalk.i64_in _ (by omega)
    have hw2:IntKind.i64.wrap (z+y)=z+y:=IntWalk.i64_in _ (by omega)
    by_cases hov:1099511627776 - y < z
    ·have h7:E=15:=by rw [HE.out,if_pos (by have:=HT.out;omega)]
     have h8:V=0:=by rw [HV.out,h7];rfl
     subst h7 h8
     go_wp2_with fail
     go_ret2
     exact⟨rfl,e1⟩
    ·go_wp2_with fail
     go_roundw
     case rel=>exact⟨k+1,by omega,by go_num,z+y,by go_num,hiD HT.out.1.symm,by omega,by omega,e1⟩
     case measure=>(first | (simp [intOf];done) | (simp [intOf];omega))
   ·obtain rfl:k=n:=by omega
    have h1:=HK.out
    rw [List.take_of_length_le (by rw [←Hn.out];exact Nat.le_refl _)]at h1
    have h7:E=0:=by rw [HE.out,if_neg (by omega)]
    have h8:V=z:=by rw [HV.out,h7,h1];rfl
    subst h7 h8
    clear h1
    go_wp2_with fail
    go_ret2
    exact⟨rfl,e1⟩
theorem alY(w:World)(A:Option Addr)(n c:Nat)(l:List Int)(hn:n=l.length)(hm:n≤1048576)(hr:Rd w 0 w.heap.size A (ints l)):
 Calls Tryz.prog 159 #[.slice A n c] w fun e w'=>e= .returned (.tuple #[.int .i64 (qE l),.int .i64 (xh l)])∧Ext w w':=by
 have HC:=hiD (ahA w A n c 0 w.heap.size l hn (by omega) hr (Nat.le_refl _))
 have Hn:=hiD hn
 by_cases hb:l.any xz=true
 ·have h1:xh l=4:=by rw [xh,if_pos hb]
  have h2:qE l=0:=by rw [qE,h1];rfl
  rw [h1,h2]
  rw [hb]at HC
  clear h1 h2 hb hr hn
  go_enter Tryz.func159,Tryz.ntmps159
  go_wp2_with fail
  refine HC.out.mono ?_
  rintro e w2 ⟨rfl,e2⟩
  go_wp2_with fail
  go_ret2
  exact⟨rfl,e2⟩
 ·have hb':l.any xz=false:=by simpa using hb
  have hall:=hiD (aeU hb')
  have HST:=hiD (fun k hk=>agR l k hk fun z hz=>(hall.out z hz).1)
  rw [hb']at HC
  have HE:Hid (xh l=if 1099511627776 < l.sum then 15 else 0):=hiD (by rw [xh,if_neg hb])
  have HV:Hid (qE l=if xh l=0 then l.sum else 0):=hiD rfl
  generalize xh l=E at *
  generalize qE l=V at *
  clear hb hb' hn
  go_enter Tryz.func159,Tryz.ntmps159
  go_wp2_with fail
  refine HC.out.mono ?_
  rintro e w2 ⟨rfl,e2⟩
  go_wp2_with fail
  go_loopw [4,5] (fun s i wr=> ∃k:Nat,k≤n∧i= .int .i64 k∧ ∃z:Int,s= .int .i64 z∧Hid (z=(l.take k).sum)∧0≤z∧z≤1099511627776∧Ext w wr) (fun _ i _=>n - (intOf i).toNat)
  case atStart=>exact⟨0,Nat.zero_le _,rfl,0,rfl,hiD rfl,by omega,by omega,e2⟩
  case round=>
   obtain⟨k,hk,rfl,z,rfl,HK,hz0,hz1,e1⟩:=hrel
   by_cases hlt:k < n
   ·obtain⟨b1,o1,rfl,_,_,f0⟩:=adZ (Rd.at hr e1 (Nat.le_refl _)) (k:=k) (by rw [←Hn.out];omega)
    have hl:k < l.length:=by rw [←Hn.out];omega
    have h5:=HST.out k hl
    rw [←HK.out]at h5
    have h6:=hall.out _ (List.getElem_mem hl)
    generalize l[k]=y at *
    have HT:=hiD h5
    clear h5
    have hkn:(k:Int) < (n:Int):=by omega
    have hw2:IntKind.i64.wrap (z+y)=z+y:=IntWalk.i64_in _ (by omega)
    by_cases hov:1099511627776 < z+y
    ·have h7:E=15:=by rw [HE.out,if_pos (by have:=HT.out;omega)]
     have h8:V=0:=by rw [HV.out,h7];rfl
     subst h7 h8
     go_wp2_with fail
     go_ret2
     exact⟨rfl,e1⟩
    ·go_wp2_with fail
     go_roundw
     case rel=>exact⟨k+1,by omega,by go_num,z+y,by go_num,hiD HT.out.1.symm,by omega,by omega,e1⟩
     case measure=>(first | (simp [intOf];done) | (simp [intOf];omega))
   ·obtain rfl:k=n:=by omega
    have h1:=HK.out
    rw [List.take_of_length_le (by rw [←Hn.out];exact Nat.le_refl _)]at h1
    have h7:E=0:=by rw [HE.out,if_neg (by omega)]
    have h8:V=z:=by rw [HV.out,h7,h1];rfl
    subst h7 h8
    clear h1
    go_wp2_with fail
    go_ret2
    exact⟨rfl,e1⟩
open Go.Maps Go.Sort Go.Shelf
theorem aiU:(Tryz.prog.info? 3).map (fun i=>(i.zero,i.size,i.bytes))=some (some (.int .i64 0),1,8):=by kernel_rfl
theorem akm(m:Nat):madeCells (Value.int .i64 0).cells m=(ints (List.replicate m 0)).toArray:=by
 apply Array.toList_inj.1
 show(madeCells #[Value.int .i64 0] m).toList=_
 rw [toList_madeCells_one]
 simp [ints]
structure PlIn (ls:List Ob) (L:RdL) (o:Ob):Prop where
 src: ∃x∈ls,o.key=x.key∧o.data=x.data
 len:o.locs.n=o.locs.xs.length
 le:o.locs.n≤o.locs.c
 cap:o.locs.c≤maxLen
 mem:(o.locs.A,ints o.locs.xs)∈L
 wf: ∀y∈o.locs.xs,(Lit.int .i64 y).wf=true
theorem PlIn.more{ls:List Ob}{L:RdL}{o:Ob}(h:PlIn ls L o){L2:RdL}(hL: ∀q∈L,q∈L2):PlIn ls L2 o:=⟨h.src,h.len,h.le,h.cap,hL _ h.mem,h.wf⟩
theorem PlIn.at_{w0 w:World}{its:List It}{j:Nat}{S:Nat→Prop}{L:RdL}{ls:List Ob}{o:Ob}(h:PlIn ls L o)(hl: ∀x∈ls,Ob.At w0 0 w0.heap.size x)(H:Heap w0 its w)(hj:its[j]?=some (It.bag S L)):Ob.At w 0 w.heap.size o:=by
 obtain⟨x,hx,h1,h2⟩:=h.src
 refine⟨by rw [h1];exact(hl x hx).key,by rw [h2];exact Oct.At.on (hl x hx).data H.ext (Nat.le_refl _),⟨h.len,h.le,h.cap,?_,h.wf⟩⟩
 rw [aki]
 exact(H.bagRd hj h.mem).m0
theorem aoS(l:List ByteArray):(wB l).length≤67111938:=by
 unfold wB
 by_cases h:wE l=0
 ·have h1: ¬1024 < l.length:=fun h'=>by rw [wE,if_pos h']at h;cases h
  have h2:l.any xC=false:=by
   rw [wE,if_neg h1]at h
   cases hq:l.any xC with
   | false=>rfl
   | true=>rw [hq]at h;cases h
  rw [if_pos h]
  have:=ah6 l l.length h2 (Nat.le_refl _)
  rw [acc,List.take_of_length_le (Nat.le_refl _)]at this
  rw [zu]
  omega
 ·rw [if_neg h]
  simp
def kd(x:Ob):ByteArray×Nat:=(x.key,x.data.n)
structure Pol where
 cap:Int
 ten:Sl Tnt
 forced:Sl Prp
 log:Sl Lin
def Pol.cells(x:Pol):List Value:= [.int .i64 x.cap,x.ten.val,x.forced.val,x.log.val]
structure Pol.At (w:World) (lo hi:Nat) (x:Pol):Prop where
 cap:(Lit.int .i64 x.cap).wf=true
 ten:Sl.At w lo hi Tnt.cells (Tnt.At w lo hi) x.ten
 tenS:x.ten.n≤1048576
 forced:Pps.At w lo hi x.forced
 forcedS:x.forced.n≤1048576
 log:Sl.At w lo hi Lin.cells Lin.sm x.log
theorem Pol.At.imp{w w':World}{lo hi lo' hi':Nat}{x:Pol}(h:Pol.At w lo hi x)(hr: ∀A cs,Rd w lo hi A cs→Rd w' lo' hi' A cs):Pol.At w' lo' hi' x:=
 ⟨h.cap,Sl.At.imp h.ten (hr _ _) (fun _ hx=>Tnt.At.imp hx hr),h.tenS,Sl.At.imp h.forced (hr _ _) (fun _ h=>h),h.forcedS,Sl.At.imp h.log (hr _ _) (fun _ h=>h)⟩
theorem Pol.At.on{w w':World}{lo hi:Nat}{x:Pol}(h:Pol.At w lo hi x)(e:Ext w w')(hh:hi≤w.heap.size):Pol.At w' lo w'.heap.size x:=h.imp (abF e hh)
def quo(p:Pol):List Int:=p.ten.xs.map Tnt.quota
theorem zD:(Tryz.prog.info? 61).map (·.size)=some 4:=by kernel_rfl
theorem amm(m:Nat)(hm:m≤1000000000)(u:World):(Instr.makeSlice 54 (.int .i64 0) (.int .i64 (m:Int))).run Tryz.prog u= .ok (.slice (some ⟨u.heap.size,0,none⟩) 0 m) (u.alloc (.cells (ints (List.replicate m 0)).toArray 3)):=by
 obtain⟨i0,hi0,hz0,hz1,hz2⟩:=info_parts aiU
 have h:=run_make (P:=Tryz.prog) u 54 3 i0 _ Tryz.underlying54 hi0 hz0 .i64 .i64 0 m (by omega) (by omega) (by rw [hz2];omega) (by omega)
 rw [hz1,Int.toNat_natCast,Nat.mul_one,akm]at h
 exact h
theorem Heap.row0c{w0 w:World}{its:List It}(H:Heap w0 its w)(m:Nat)(hm:m≤maxLen):Heap w0 (.row 3 1 (.slice (some ⟨w.heap.size,0,none⟩) 0 m) 0 []::its) (w.alloc (.cells (ints (List.replicate m 0)).toArray 3)):=
 H.addRow ((Ext.refl w).alloc _) ⟨rfl,.inr ⟨w.heap.size,m,_,rfl,Nat.le_refl _,heap_alloc_new w _,Nat.zero_le _,hm,by simp [ints],rfl⟩⟩
theorem akR(w:World)(p:Pol)(h:Pol.At w 0 w.heap.size p):
 Calls Tryz.prog 63 #[.agg p.cells.toArray] w fun e w'=>e= .returned (.tuple #[.int .i64 (qE (quo p)),.int .i64 (xh (quo p))])∧Ext w w':=by
 obtain⟨i0,hi0,hz0,hz1,hz2⟩:=info_parts aiU
 have HTn:=hiD h.ten
 have HQl:=hiD (show(quo p).length=p.ten.n by rw [quo,List.length_map];exact h.ten.len.symm)
 have HQ:=hiD (fun k (hk:k < p.ten.xs.length)=>show(quo p).take (k+1)=(quo p).take k++ [p.ten.xs[k].quota]by
  rw [List.take_succ_eq_append_getElem (by rw [quo,List.length_map];exact hk)];simp [quo])
 have HC:=hiD (fun W A c (hr:Rd W 0 W.heap.size A (ints (quo p)))=>alU W A p.ten.n c (quo p) HQl.out.symm h.tenS hr)
 have hS:=h.tenS
 generalize quo p=Q at *
 generalize qE Q=aV at *
 generalize xh Q=aE at *
 clear h
 obtain⟨cap,⟨tA,tn,tc,tx⟩,⟨fA,fn,fc,fx⟩,⟨lA,ln,lc,lx⟩⟩:=p
 simp only [Pol.cells,Sl.val]
 dsimp only at HQl HQ HC hS
 have hTn:=hiD (show tn=tx.length from HTn.out.len)
 go_enter Tryz.func63,Tryz.ntmps63
 go_upto_region 1 with fail
 generalize hwH:World.alloc w _=w1;have HH:=hiD (Heap.one hwH);clear hwH
 have hmk:=fun u=>amm tn (by omega) u
 go_upto_region 2 with(refine l1X HH 0 ?_)
 clear hmk
 obtain⟨w2,hw2⟩: ∃w2,w2=w1.alloc (.cells (ints (List.replicate tn 0)).toArray 3):=⟨_,rfl⟩
 have HH2:=hiD (show Heap w _ w2 by rw [hw2];exact HH.out.row0c tn (by simp only [maxLen];omega))
 rw [←hw2]
 clear hw2 HH
 generalize w1.heap.size=rb at *
 have HH:=HH2
 clear HH2
 go_wp2_with (refine l1X HH 1 ?_)
 obtain⟨tv,htv⟩: ∃tv:List Value,tv= [.int .i64 cap,.slice tA tn tc,.slice fA fn fc,.slice lA ln lc]:=⟨_,rfl⟩
 rw [←htv]at HH
 clear htv
 go_loopw [4,14] (fun sv i wr=> ∃(k:Nat) (A:Option Addr) (c:Nat),k≤tn∧i= .int .i64 (k:Int)∧sv= .slice A k c∧Hid (Heap w [.row 3 1 (.slice A k c) k (ints (Q.take k)),.box w.heap.size tv] wr)) (fun _ i _=>tn - (intOf i).toNat)
 case atStart=>exact⟨0,_,_,Nat.zero_le _,rfl,rfl,HH⟩
 case round=>
  clear HH
  obtain⟨k,A,c,hk,rfl,rfl,HH⟩:=hrel
  by_cases hlt:k < tn
  ·have hl:k < tx.length:=by rw [←hTn.out];exact hlt
   obtain⟨b1,o1,hA1,_,hb1,G0⟩:=zh (size:=7) (fun _=>rfl) (by omega) (HTn.out.rd.ext HH.out.ext (Nat.le_refl _)) hl
   dsimp only at hA1
   subst hA1
   have HT:=hiD (HQ.out k hl)
   have HG:=hiD (fun j u hu=>G0 j u hu)
   clear G0
   generalize tx[k]=x at *
   obtain⟨name,quota,next,⟨sA,sn,sc,ss⟩,⟨gA,gn,gc,gs⟩,⟨aA,an,ac,ax⟩,⟨mA,mn,mc,ms⟩⟩:=x
   simp only [Tnt.cells,Sl.val]at HG
   dsimp only at HT
   have hkn:(k:Int) < (tn:Int):=by omega
   go_upto_region 5 with(first | (refine yF HG.out rfl zt (by kernel_rfl) rfl rfl rfl ?_) | (refine sSX (hiD (HH.out.alloc _ _)) zt 0 ?_;clear HH;intro wS HH))
   generalize wr.heap.size=xb at *
   go_wp2_with (first | (refine l1X HH 0 ?_) | (refine qk (e:=3) (size:=1) (bytes:=8) (news:= [.int .i64 quota]) (lo:=w.heap.size) (.tmp 18) (.tmp 21) _ rfl rfl Tryz.underlying54 hi0 hz0 hz1 hz2 rfl (by omega) (HH.out.allocE rfl) 2 rfl rfl (m:=1) rfl rfl ((HH.out.allocE rfl).boxRd 0 rfl) (by simp [Value.oneCell']) (by simp only [maxLen];omega) (by omega) ?_;rintro v' w' h' ⟨A',c',rfl⟩))
   have HH2:=hiD (show Heap w [.row 3 1 (.slice A' (k+1) c') (k+1) (ints (Q.take (k+1))),.box w.heap.size tv] w' by
    have e2:ints (Q.take (k+1))=ints (Q.take k)++ [.int .i64 quota]:=by rw [HT.out];simp [ints]
    rw [e2]
    exact h'.tail.tail)
   clear h' HH
   go_roundw
   case rel=>exact⟨k+1,A',c',by omega,by go_num,rfl,HH2⟩
   case measure=>(first | (simp [intOf];done) | (simp [intOf];omega))
  ·obtain rfl:k=tn:=by omega
   have hrd:=HH.out.rowRd 0 rfl
   rw [List.take_of_length_le (by rw [HQl.out];exact Nat.le_refl _)]at hrd
   have HR:=hiD (show Rd wr 0 wr.heap.size A (ints Q)from hrd.m0)
   have HE:=hiD HH.out.ext
   clear hrd
   go_wp2_with fail
   refine(HC.out _ _ _ HR.out).mono ?_
   rintro e w5 ⟨rfl,e5⟩
   go_wp2_with fail
   go_ret2
   exact⟨rfl,HE.out.trans e5⟩
theorem alB(w:World)(p:Pol)(h:Pol.At w 0 w.heap.size p):
 Calls Tryz.prog 115 #[.agg p.cells.toArray] w fun e w'=>e= .returned (.tuple #[.int .i64 (qE (quo p)),.int .i64 (xh (quo p))])∧Ext w w':=by
 obtain⟨i0,hi0,hz0,hz1,hz2⟩:=info_parts aiU
 have HTn:=hiD h.ten
 have HQl:=hiD (show(quo p).length=p.ten.n by rw [quo,List.length_map];exact h.ten.len.symm)
 have HQ:=hiD (fun k (hk:k < p.ten.xs.length)=>show(quo p).take (k+1)=(quo p).take k++ [p.ten.xs[k].quota]by
  rw [List.take_succ_eq_append_getElem (by rw [quo,List.length_map];exact hk)];simp [quo])
 have HC:=hiD (fun W A c (hr:Rd W 0 W.heap.size A (ints (quo p)))=>alY W A p.ten.n c (quo p) HQl.out.symm h.tenS hr)
 have hS:=h.tenS
 generalize quo p=Q at *
 generalize qE Q=aV at *
 generalize xh Q=aE at *
 clear h
 obtain⟨cap,⟨tA,tn,tc,tx⟩,⟨fA,fn,fc,fx⟩,⟨lA,ln,lc,lx⟩⟩:=p
 simp only [Pol.cells,Sl.val]
 dsimp only at HQl HQ HC hS
 have hTn:=hiD (show tn=tx.length from HTn.out.len)
 go_enter Tryz.func115,Tryz.ntmps115
 go_upto_region 1 with fail
 generalize hwH:World.alloc w _=w1;have HH:=hiD (Heap.one hwH);clear hwH
 go_wp2_with fail
 have HH2:=hiD (HH.out.row0 (e:=3) (size:=1))
 clear HH
 go_loopw [4,5] (fun sv i wr=> ∃(k:Nat) (A:Option Addr) (c:Nat),k≤tn∧i= .int .i64 (k:Int)∧sv= .slice A k c∧Hid (Heap w [.row 3 1 (.slice A k c) k (ints (Q.take k)),.box w.heap.size [.int .i64 cap,.slice tA tn tc,.slice fA fn fc,.slice lA ln lc]] wr)) (fun _ i _=>tn - (intOf i).toNat)
 case atStart=>exact⟨0,_,_,Nat.zero_le _,rfl,rfl,HH2⟩
 case round=>
  clear HH2
  obtain⟨k,A,c,hk,rfl,rfl,HH⟩:=hrel
  by_cases hlt:k < tn
  ·have hl:k < tx.length:=by rw [←hTn.out];exact hlt
   obtain⟨b1,o1,hA1,_,hb1,G0⟩:=zh (size:=7) (fun _=>rfl) (by omega) (HTn.out.rd.ext HH.out.ext (Nat.le_refl _)) hl
   dsimp only at hA1
   subst hA1
   have HT:=hiD (HQ.out k hl)
   have g1:=G0 1 (.int .i64 tx[k].quota) rfl
   clear G0
   generalize tx[k].quota=quota at *
   have hkn:(k:Int) < (tn:Int):=by omega
   go_wp2_with (first | (refine l1X HH 1 ?_) | (refine qk (e:=3) (size:=1) (bytes:=8) (news:= [.int .i64 quota]) (lo:=w.heap.size) (.tmp 13) (.tmp 20) _ rfl rfl Tryz.underlying54 hi0 hz0 hz1 hz2 rfl (by omega) (HH.out.allocE rfl) 1 rfl rfl (m:=1) rfl rfl ((HH.out.allocE rfl).boxRd 0 rfl) (by simp [Value.oneCell']) (by simp only [maxLen];omega) (by omega) ?_;rintro v' w' h' ⟨A',c',rfl⟩))
   have HH2:=hiD (show Heap w [.row 3 1 (.slice A' (k+1) c') (k+1) (ints (Q.take (k+1))),.box w.heap.size [.int .i64 cap,.slice (some ⟨b1,o1,none⟩) tn tc,.slice fA fn fc,.slice lA ln lc]] w' by
    have e2:ints (Q.take (k+1))=ints (Q.take k)++ [.int .i64 quota]:=by rw [HT.out];simp [ints]
    rw [e2]
    exact h'.tail)
   clear h' HH
   go_roundw
   case rel=>exact⟨k+1,A',c',by omega,by go_num,rfl,HH2⟩
   case measure=>(first | (simp [intOf];done) | (simp [intOf];omega))
  ·obtain rfl:k=tn:=by omega
   have hrd:=HH.out.rowRd 0 rfl
   rw [List.take_of_length_le (by rw [HQl.out];exact Nat.le_refl _)]at hrd
   have HR:=hiD (show Rd wr 0 wr.heap.size A (ints Q)from hrd.m0)
   have HE:=hiD HH.out.ext
   clear hrd
   go_wp2_with (refine l1X HH 1 ?_)
   refine(HC.out _ _ _ HR.out).mono ?_
   rintro e w5 ⟨rfl,e5⟩
   go_wp2_with fail
   go_ret2
   exact⟨rfl,HE.out.trans e5⟩
end Go.Proofs.YtckaneapjpiocaaGreatDoor
