/- The texts Pth, Blk, StgS, Bsm, Psm, Stgd, Tnt, Tck, Ns in one file. -/
import Derived.Test.YtckaneapjpiocaaGreatDoorQ6
set_option linter.unusedVariables false
set_option linter.unusedSimpArgs false
set_option maxHeartbeats 4000000
set_option maxRecDepth 100000
namespace Go.Proofs.YtckaneapjpiocaaGreatDoor
open Go.RowKit
def xf(w:World):Prop:= ∃m:Int,w.cell? ⟨0,0,none⟩=some (.int .i64 m)
theorem xf.ext{w w':World}(h:xf w)(e:Ext w w'):xf w':=by
 obtain⟨m,hm⟩:=h
 exact⟨m,(Below.cell e (World.block_lt_of_cell? w _ hm)).trans hm⟩
theorem ahw(s:List UInt8): ∀cur,∀p∈zP cur s,p.length≤cur.length+s.length:=by
 induction s with
 | nil=>intro cur p hp;simp only [zP,List.mem_singleton]at hp;subst hp;simp
 | cons b l ih=>
   intro cur p hp
   rw [zP]at hp
   by_cases h:b=47
   ·rw [if_pos h,List.mem_cons]at hp
    rcases hp with rfl | hp
    ·simp
    ·have:=ih [] p hp
     simp at this ⊢
     omega
   ·rw [if_neg h]at hp
    have:=ih _ p hp
    simp at this ⊢
    omega
theorem aog(s:ByteArray):(⟨s.data.toList.toArray⟩:ByteArray)=s:=rfl
theorem ajM(s:ByteArray)(w:World)(hM:xf w)(hs:s.size < 4294967281)(sep:ByteArray)(hsep:sep=⟨#[47]⟩):
 Calls Tryz.prog 179 #[.string s,.string sep] w fun e w'=> ∃ps:List ByteArray,ps.map (·.data.toList)=xB s.data.toList∧e= .returned (.slice (some ⟨w.heap.size,0,none⟩) ps.length ps.length)∧w'=w.alloc (.cells (ps.map Value.string).toArray 9):=by
 subst hsep
 obtain⟨m,hm⟩:=hM
 refine(Tryz.strings_Split s ⟨#[47]⟩ m w hs hm (by decide)).mono ?_
 rintro e w' ⟨rfl,rfl⟩
 have h1:=Lib.splitB_all ⟨#[47]⟩ (by decide) 0 _ s rfl
 exact⟨_,(Lib.splitB_data ⟨#[47]⟩ 0 _ s).trans (adS _ _ rfl),by rw [h1],rfl⟩
def xY(s:ByteArray):Bool:=!zd s
theorem ai9(s:ByteArray)(w:World)(hm:s.size≤9223372036854775807):Calls Tryz.prog 180 #[.string s] w fun e w'=>e= .returned (.bool (xY s))∧Ext w w':=by
 have hv:=hiD (show xY s=!zd s from rfl)
 have H:=hiD (qq s w hm)
 generalize zd s=b at *
 go_enter Tryz.func180,Tryz.ntmps180
 go_wp2_with fail
 refine H.out.mono ?_
 rintro e w2 ⟨rfl,e2⟩
 go_wp2_with fail
 go_ret
 exact⟨by rw [hv.out];rfl,e2⟩
def apm(l:List ByteArray)(w:World)(e:Ending)(w':World):Prop:=
 ∃r:Int,e= .returned (.int .i64 r)∧l.any xY=decide (0≤r)∧ -1≤r∧Ext w w'
theorem amw(w:World)(A:Option Addr)(n c lo hi:Nat)(l:List ByteArray)(hn:n=l.length)(hm:n≤9223372036854775807)(hr:Rd w lo hi A (l.map Value.string))(hh:hi≤w.heap.size)(hsz: ∀s∈l,s.size≤9223372036854775807):
 Calls Tryz.prog 192 #[.slice A n c,.func (.func 180) #[] #[]] w (apm l w):=by
 have Hn:=hiD hn
 have HSz:=hiD hsz
 clear hn hsz
 go_enter Tryz.func192,Tryz.ntmps192
 go_wp2_with fail
 go_loopw [8] (fun i wr=> ∃k:Nat,k≤n∧i= .int .i64 k∧(l.take k).any xY=false∧Ext w wr) (fun i _=>n - (intOf i).toNat)
 case atStart=>exact⟨0,Nat.zero_le _,rfl,rfl,Ext.refl _⟩
 case round=>
  obtain⟨k,hk,rfl,hno,e1⟩:=hrel
  have HK:=hiD hno
  clear hno
  by_cases hlt:k < n
  ·obtain⟨b1,o1,rfl,_,_,f0⟩:=abL (hr.ext e1 hh) (k:=k) (by rw [←Hn.out];omega)
   have hl:k < l.length:=by rw [←Hn.out];omega
   obtain⟨y,hy⟩: ∃y,y=l[k]'hl:=⟨_,rfl⟩
   rw [←hy]at f0
   have HY:=hiD hy
   clear hy
   go_wp2_with fail
   refine(ai9 y _ (by have:=HSz.out y (by rw [HY.out];exact List.getElem_mem _);exact this)).mono ?_
   rintro e w2 ⟨rfl,e2⟩
   cases ho:xY y
   ·go_wp2_with fail
    go_roundw
    case rel=>
     refine⟨k+1,by omega,by go_num,?_,blo⟩
     rw [List.take_succ_eq_append_getElem hl,List.any_append,HK.out,←HY.out]
     simp [ho]
    case measure=>simp [intOf];omega
   ·go_wp2_with fail
    go_ret
    refine⟨k,rfl,?_,by omega,blo⟩
    have h1:l.any xY=true:=List.any_eq_true.2 ⟨y,by rw [HY.out];exact List.getElem_mem _,ho⟩
    rw [h1]
    simp
  ·go_wp2_with fail
   go_ret
   obtain rfl:k=n:=by omega
   have h1:=HK.out
   rw [List.take_of_length_le (by rw [←Hn.out];exact Nat.le_refl _)]at h1
   exact⟨-1,rfl,by rw [h1];rfl,by omega,e1⟩
theorem agr(w:World)(A:Option Addr)(n c lo hi:Nat)(l:List ByteArray)(hn:n=l.length)(hm:n≤9223372036854775807)(hr:Rd w lo hi A (l.map Value.string))(hh:hi≤w.heap.size)(hsz: ∀s∈l,s.size≤9223372036854775807):
 Calls Tryz.prog 150 #[.slice A n c,.func (.func 180) #[] #[]] w fun e w'=>e= .returned (.bool (l.any xY))∧Ext w w':=by
 have Hn:=hiD hn
 have HSz:=hiD hsz
 clear hn hsz
 go_enter Tryz.func150,Tryz.ntmps150
 go_wp2_with fail
 refine(amw w A n c lo hi l Hn.out hm hr hh HSz.out).mono ?_
 rintro e w2 ⟨r,rfl,hany,hr1,e2⟩
 have HA:=hiD hany
 clear hany
 go_wp2_with fail
 go_ret
 exact⟨by rw [HA.out];rfl,e2⟩
theorem ahd(s:ByteArray)(h:0 < s.size)(ps:List ByteArray)(hp:ps.map (·.data.toList)=xB s.data.toList):zF s=(decide (ps.length≤4) && !(ps.any xY)):=by
 have h1:decide (s.size=0)=false:=decide_eq_false (by omega)
 have h2:ps.length=(xB s.data.toList).length:=by rw [←hp,List.length_map]
 have h3: ∀qs:List ByteArray,(qs.map (·.data.toList)).all (fun l=>zd ⟨l.toArray⟩)=!(qs.any xY):=by
  intro qs
  induction qs with
  | nil=>rfl
  | cons p qs ih=>
    rw [List.map_cons,List.all_cons,List.any_cons,ih,aog,Bool.not_or,xY,Bool.not_not]
 rw [zF,h1,←hp,h3,List.length_map]
 rfl
theorem agf(s:ByteArray)(hs:s.size≤9223372036854775807)(ps:List ByteArray)(hp:ps.map (·.data.toList)=xB s.data.toList): ∀p∈ps,p.size≤9223372036854775807:=by
 intro p hm
 have:=ahw s.data.toList [] p.data.toList (by rw [show zP [] s.data.toList=ps.map (·.data.toList)from hp.symm];exact List.mem_map_of_mem hm)
 rw [zv,zv]at this
 simp at this
 omega
theorem af7(s:ByteArray)(ps:List ByteArray)(hp:ps.map (·.data.toList)=xB s.data.toList):ps.length≤s.size+1:=by
 have h1:ps.length=(xB s.data.toList).length:=by rw [←hp,List.length_map]
 have h2:=aeD s.data.toList []
 have h3:s.data.toList.count 47≤s.data.toList.length:=List.count_le_length
 rw [zv]at h3
 have h4:xB s.data.toList=zP [] s.data.toList:=rfl
 rw [h4]at h1
 omega
theorem aaZ(s:ByteArray)(w:World)(hM:xf w)(hs:s.size < 4294967281):Calls Tryz.prog 138 #[.string s] w fun e w'=>e= .returned (.bool (zF s))∧Ext w w':=by
 by_cases h0:s.size=0
 ·obtain rfl:=ql s h0
  have hv:=hiD (show zF ⟨#[]⟩=true from rfl)
  go_enter Tryz.func138,Tryz.ntmps138
  go_wp2_with fail
  go_ret
  exact⟨by rw [hv.out];rfl,Ext.refl _⟩
 ·have HS:=hiD (ajM s w hM hs _ rfl)
  have b0:s.toList.isEmpty=false:=by
   rw [ByteArray.toList_eq,List.isEmpty_eq_false_iff]
   intro e
   have:=zv s
   rw [e]at this
   exact h0 this.symm
  have HP:=hiD (fun ps hp=>ahd s (by omega) ps hp)
  have HF:=hiD (agf s (by omega))
  have HL:=hiD (af7 s)
  have HB:=hiD hs
  clear hs
  go_enter Tryz.func138,Tryz.ntmps138
  go_wp2_with fail
  refine HS.out.mono ?_
  rintro e w2 ⟨ps,hp,rfl,hw2⟩
  have hv:=hiD (HP.out ps hp)
  have hf:=hiD (HF.out ps hp)
  have hl:=hiD (HL.out ps hp)
  clear hp
  have hr:=acX w (ps.map Value.string).toArray 9
  rw [←hw2]at hr
  have e2:Ext w w2:=by rw [hw2];exact blo
  have hz:w2.heap.size=w.heap.size+1:=by rw [hw2];simp
  have HR:=hiD (show Rd w2 w.heap.size w2.heap.size (some ⟨w.heap.size,0,none⟩) (ps.map Value.string)by rw [hz];exact hr)
  have HZ:=hiD hz
  clear hw2 hr hz
  by_cases h4:ps.length≤4
  ·have hd:decide ((ps.length:Int)≤4)=true:=by simp;omega
   have hq:zF s=!(ps.any xY):=by rw [hv.out,decide_eq_true h4];rfl
   have hv:=hiD hq
   clear hq
   go_wp2_with fail
   refine(agr _ _ ps.length _ w.heap.size w2.heap.size ps rfl (by have:=hl.out;have:=HB.out;omega) HR.out (Nat.le_refl _) hf.out).mono ?_
   rintro e wa ⟨rfl,ea⟩
   generalize ps.any xY=X at *
   go_wp2_with fail
   go_ret
   exact⟨by rw [hv.out];rfl,blo⟩
  ·have hd:decide ((ps.length:Int)≤4)=false:=by simp;omega
   have hq:zF s=false:=by rw [hv.out,decide_eq_false h4];rfl
   have hv:=hiD hq
   clear hq
   go_wp2_with fail
   go_ret
   exact⟨by rw [hv.out];rfl,blo⟩
structure Blk where
 index:Int
 data:ByteArray
def Blk.cells(x:Blk):List Value:= [.int .i64 x.index,.string x.data]
def blks(xs:List Blk):List Value:=xs.flatMap Blk.cells
def Blk.wf(x:Blk):Prop:= -9223372036854775808≤x.index∧x.index≤9223372036854775807∧x.data.size≤9223372036854775807
theorem ahN(a b:List Blk):blks (a++b)=blks a++blks b:=List.flatMap_append
theorem ack{w:World}{lo hi:Nat}{A:Option Addr}{xs:List Blk}(h:Rd w lo hi A (blks xs)){k:Nat}(hk:k < xs.length):
 ∃b o,A=some ⟨b,o,none⟩∧lo≤b∧b < hi∧w.cell? ⟨b,o+k * 2,none⟩=some (.int .i64 xs[k].index)∧w.cell? ⟨b,o+k * 2+1,none⟩=some (.string xs[k].data):=by
 obtain⟨b,o,h1,h2,h3,h4⟩:=zh (size:=2) (fun _=>rfl) (by omega) h hk
 exact⟨b,o,h1,h2,h3,by simpa using h4 0 _ rfl,h4 1 _ rfl⟩
def acS(xs:List Blk)(k:Nat):Int:=(xs.map Blk.index).getD k 0
theorem aer(xs:List Blk)(k:Nat)(h:k < xs.length):acS xs k=xs[k].index:=by simp [acS,h]
def xZ(i:Int)(d:Nat):Bool:=decide (i < 0) || decide (1024≤i) || decide (d≠16)
def abi(xs:List Blk)(k:Nat):Bool:=xZ (acS xs k) ((xs.map fun x=>x.data.size).getD k 0) || (decide (0 < k) && decide (acS xs k≤acS xs (k - 1)))
def qC(xs:List Blk)(k:Nat):Bool:=(List.range k).any (abi xs)
theorem abD(xs:List Blk)(k:Nat):qC xs (k+1)=(qC xs k || abi xs k):=by simp [qC,List.range_succ]
theorem qg(xs:List Blk)(k n:Nat)(h:k < n)(hb:abi xs k=true):qC xs n=true:=List.any_eq_true.2 ⟨k,List.mem_range.2 h,hb⟩
def bkE(xs:List Blk):Int:=if qC xs xs.length then 9 else 0
theorem acd(xs:List Blk)(k:Nat)(h:k < xs.length):abi xs k=(xZ xs[k].index xs[k].data.size || (decide (0 < k) && decide (xs[k].index≤acS xs (k - 1)))):=by
 rw [abi,aer xs k h]
 simp [h]
theorem abh(w:World)(A:Option Addr)(n c:Nat)(xs:List Blk)(hn:n=xs.length)(hm:n≤9223372036854775807)(hr:Rd w 0 w.heap.size A (blks xs))(hwf: ∀x∈xs,x.wf):
 Calls Tryz.prog 139 #[.slice A n c] w fun e w'=>e= .returned (.int .i64 (bkE xs))∧Ext w w':=by
 have Hn:=hiD hn
 have HW:=hiD hwf
 have HR:=hiD hr
 clear hn hwf hr
 go_enter Tryz.func139,Tryz.ntmps139
 go_wp2_with fail
 go_loopw [7] (fun i wr=> ∃k:Nat,k≤n∧i= .int .i64 k∧Hid (qC xs k=false)∧Ext w wr) (fun i _=>n - (intOf i).toNat)
 case atStart=>exact⟨0,Nat.zero_le _,rfl,hiD rfl,Ext.refl _⟩
 case round=>
  obtain⟨k,hk,rfl,HK,e1⟩:=hrel
  by_cases hlt:k < n
  ·have hl:k < xs.length:=by rw [←Hn.out];exact hlt
   obtain⟨b1,o1,rfl,_,_,g0,g1⟩:=ack (Rd.at HR.out e1 (Nat.le_refl _)) (k:=k) hl
   have hw9:=HW.out _ (List.getElem_mem hl)
   have hbad:=hiD (acd xs k hl)
   have hprev:0 < k→ ∃ip:Int,acS xs (k - 1)=ip∧ -9223372036854775808≤ip∧ip≤9223372036854775807∧wr.cell? ⟨b1,o1+(k - 1) * 2,none⟩=some (.int .i64 ip):=fun h0=>by
    have hl1:k - 1 < xs.length:=by omega
    obtain⟨b2,o2,he,_,_,g2,_⟩:=ack (Rd.at HR.out e1 (Nat.le_refl _)) (k:=k - 1) hl1
    simp only [Option.some.injEq,Addr.mk.injEq,and_true]at he
    obtain⟨rfl,rfl⟩:=he
    have hw8:=HW.out _ (List.getElem_mem hl1)
    exact⟨_,aer xs (k - 1) hl1,hw8.1,hw8.2.1,g2⟩
   have HPrev:=hiD hprev
   clear hprev
   generalize xs[k]=y at *
   obtain⟨i0,d0⟩:=y
   obtain⟨w1,w2,w3⟩:=hw9
   simp only at w1 w2 w3 g0 g1
   have w1: -9223372036854775808≤i0:=w1
   have w2:i0≤9223372036854775807:=w2
   have w3:d0.size≤9223372036854775807:=w3
   have hbad2:=hiD (show abi xs k=(xZ i0 d0.size || (decide (0 < k) && decide (i0≤acS xs (k - 1))))from hbad.out)
   clear hbad
   have p0:(0:Int)≤k:=by omega
   have p1:(k:Int) < n:=by omega
   have bx0:=aci wr #[.int .i64 i0,.string d0] 183 0 rfl;have bx1:=aci wr #[.int .i64 i0,.string d0] 183 1 rfl
   by_cases h1:i0 < 0
   ·have HB:=hiD (show bkE xs=9 by rw [bkE,qg xs k _ hl (by rw [hbad2.out,xZ];simp [h1])];rfl)
    go_wp2_with fail
    refine wp_region_held_drew (S:=fun w'=>w'=(wr.alloc (.cells #[.int .i64 i0,.string d0] 183)).drew) (by kernel_rfl) rfl (fun hHeld=>?_)
    refine tW 0 4 ?_
    refine sW 4 3 ?_
    refine tW 7 2 ?_
    refine sW 9 4 ?_
    refine tW 13 2 ?_
    refine sW 15 13 ?_
    refine tW 28 1 ?_
    refine dnX ?_
    go_wp2_with fail
    go_ret
    exact⟨by rw [HB.out];rfl,blo⟩
   ·have h1':0≤i0:=by omega
    have d1:decide (i0 < 0)=false:=by simp;omega
    clear h1
    by_cases h2:1024≤i0
    ·have HB:=hiD (show bkE xs=9 by rw [bkE,qg xs k _ hl (by rw [hbad2.out,xZ];simp [h2])];rfl)
     go_wp2_with fail
     refine wp_region_held_drew (S:=fun w'=>w'=(wr.alloc (.cells #[.int .i64 i0,.string d0] 183)).drew) (by kernel_rfl) rfl (fun hHeld=>?_)
     refine tW 0 9 ?_
     refine sW 9 4 ?_
     refine tW 13 2 ?_
     refine sW 15 13 ?_
     refine tW 28 1 ?_
     refine dnX ?_
     go_wp2_with fail
     go_ret
     exact⟨by rw [HB.out];rfl,blo⟩
    ·have h2':i0 < 1024:=by omega
     have d2:decide (1024≤i0)=false:=by simp;omega
     clear h2
     by_cases h3:d0.size=16
     ·have h3':((d0.size:Int) != 16)=false:=by simp [h3]
      have HD:=hiD (show xZ i0 d0.size=false by rw [xZ];simp [h3];omega)
      clear h3
      rcases Nat.eq_zero_or_pos k with hk0 | hk0
      ·subst hk0
       rw [Nat.zero_mul,Nat.add_zero]at g0 g1
       have HB:=hiD (show qC xs 1=false by rw [abD,HK.out,hbad2.out,HD.out];rfl)
       go_wp2_with fail
       refine wp_region_held_drew (S:=fun w'=>w'=(wr.alloc (.cells #[.int .i64 i0,.string d0] 183)).drew) (by kernel_rfl) rfl (fun hHeld=>?_)
       refine tW 0 18 ?_
       refine sW 18 9 ?_
       refine tW 27 2 ?_
       refine dnX ?_
       go_wp2_with fail
       go_roundw
       case rel=>exact⟨1,by omega,by go_num,HB,blo⟩
       case measure=>simp [intOf];omega
      ·obtain⟨ip,hip,q1,q2,gp⟩:=HPrev.out hk0
       obtain⟨j,rfl⟩: ∃j:Nat,k=j+1:=⟨k - 1,by omega⟩
       rw [Nat.add_sub_cancel]at gp hip
       have HIP:=hiD hip
       clear hip
       have p2:(j:Int)+1 - 1=j:=by omega
       have hwj:IntKind.i64.wrap (j:Int)=j:=IntWalk.i64_in _ (by omega)
       have p3:(j:Int) < n:=by omega
       have p4:(0:Int)≤j:=by omega
       have p5:(0:Int)≤(j:Int)+1:=by omega
       have d3:decide ((0:Int) < (j:Int)+1)=true:=by first | (simp;done) | (simp;omega)
       by_cases h4:i0≤ip
       ·have HB:=hiD (show bkE xs=9 by rw [bkE,qg xs (j+1) _ hl (by rw [hbad2.out,HD.out,Nat.add_sub_cancel,HIP.out];simp [h4])];rfl)
        go_wp2_with fail
        refine wp_region_held_drew (S:=fun w'=>w'=(wr.alloc (.cells #[.int .i64 i0,.string d0] 183)).drew) (by kernel_rfl) rfl (fun hHeld=>?_)
        refine tW 0 29 ?_
        refine dnX ?_
        go_wp2_with fail
        go_ret
        exact⟨by rw [HB.out];rfl,blo⟩
       ·have HB:=hiD (show qC xs (j+1+1)=false by rw [abD,HK.out,hbad2.out,HD.out,Nat.add_sub_cancel,HIP.out];simp [h4])
        have h4':ip < i0:=by omega
        have d4:decide (i0≤ip)=false:=by simp;omega
        clear h4
        go_wp2_with fail
        refine wp_region_held_drew (S:=fun w'=>w'=(wr.alloc (.cells #[.int .i64 i0,.string d0] 183)).drew) (by kernel_rfl) rfl (fun hHeld=>?_)
        refine tW 0 29 ?_
        refine dnX ?_
        go_wp2_with fail
        go_roundw
        case rel=>exact⟨j+1+1,by omega,by go_num,HB,blo⟩
        case measure=>simp [intOf];omega
     ·have h3':((d0.size:Int) != 16)=true:=by simp;omega
      have HB:=hiD (show bkE xs=9 by rw [bkE,qg xs k _ hl (by rw [hbad2.out,xZ];simp [h3])];rfl)
      clear h3
      go_wp2_with fail
      refine wp_region_held_drew (S:=fun w'=>w'=(wr.alloc (.cells #[.int .i64 i0,.string d0] 183)).drew) (by kernel_rfl) rfl (fun hHeld=>?_)
      refine tW 0 15 ?_
      refine sW 15 13 ?_
      refine tW 28 1 ?_
      refine dnX ?_
      go_wp2_with fail
      go_ret
      exact⟨by rw [HB.out];rfl,blo⟩
  ·obtain rfl:k=n:=by omega
   have HB:=hiD (show bkE xs=0 by rw [bkE,←Hn.out,HK.out];rfl)
   go_wp2_with fail
   go_ret
   exact⟨by rw [HB.out];rfl,e1⟩
structure Stg where
 into:ByteArray
 beg:Rec
 bA:Option Addr
 bn:Nat
 bc:Nat
 body:List Blk
 pos:Int
 next:Int
 su:Su
 done:Bool
def Stg.cells(x:Stg):List Value:= .string x.into::(x.beg.cells++(.slice x.bA x.bn x.bc:: .int .i64 x.pos:: .int .i64 x.next::(x.su.cells++ [.bool x.done])))
structure Stg.ok (w:World) (x:Stg):Prop where
 into:x.into.size≤100000000
 beg:x.beg.wf
 begR:Rd w 0 w.heap.size x.beg.oA (prps x.beg.own)
 begN:x.beg.on≤100000000
 begS:(sumR x.beg).wf
 bodyN:x.bn=x.body.length
 bodyM:x.bn≤100000000
 bodyR:Rd w 0 w.heap.size x.bA (blks x.body)
 bodyW: ∀y∈x.body,y.wf
 pos: -9223372036854775808≤x.pos∧x.pos≤9223372036854775807
 next: -9223372036854775808≤x.next∧x.next≤9223372036854775807
 su:x.su.wf
theorem Stg.ok.ext{w w':World}{x:Stg}(h:x.ok w)(e:Ext w w'):x.ok w':=
 ⟨h.into,h.beg,Rd.at h.begR e (Nat.le_refl _),h.begN,h.begS,h.bodyN,h.bodyM,Rd.at h.bodyR e (Nat.le_refl _),h.bodyW,h.pos,h.next,h.su⟩
def amt(n:Int):Bool:=decide (0≤n) && decide (n≤1099511627776)
def stB(x:Stg):Bool:=!x.into.toList.isEmpty && (zF x.into && (x.beg.kind == 1 && (decide (yJ x.beg=0) && (decide (bkE x.body=0) && (amt x.pos && amt x.next)))))
theorem xT:(Tryz.prog.info? 49).map (·.size)=some 21:=by kernel_rfl
instance:DecidableEq Blk:=fun a b=>decidable_of_iff (a.index=b.index∧a.data=b.data) (by cases a;cases b;simp)
theorem agU{xs ys:List Blk}{k:Nat}(h1:k < xs.length)(h2:k < ys.length)(h:xs.take k=ys.take k)(he:xs[k]=ys[k]):xs.take (k+1)=ys.take (k+1):=by
 rw [List.take_succ_eq_append_getElem h1,List.take_succ_eq_append_getElem h2,h,he]
theorem ao4{xs ys:List Blk}{k:Nat}(h1:k < xs.length)(h2:k < ys.length)(hn:xs[k]≠ys[k]):xs≠ys:=fun e=>by
 subst e
 exact hn rfl
theorem xy{a b:ByteArray}(h:a≠b):(a.toList == b.toList)=false:=by
 cases hh:(a.toList == b.toList)with
 | false=>rfl
 | true=>
   have h1:=eq_of_beq hh
   rw [ByteArray.toList_eq,ByteArray.toList_eq]at h1
   exact absurd (ByteArray.ext (Array.toList_inj.1 h1)) h
theorem zM(a:ByteArray):(a.toList == a.toList)=true:=by simp
theorem adD(w:World)(A B:Option Addr)(n m c d:Nat)(xs ys:List Blk)(hn:n=xs.length)(hm:m=ys.length)(hN:n≤9223372036854775807)(hM:m≤9223372036854775807)(hr:Rd w 0 w.heap.size A (blks xs))(hs:Rd w 0 w.heap.size B (blks ys)):
 Calls Tryz.prog 111 #[.slice A n c,.slice B m d] w fun e w'=>e= .returned (.bool (decide (xs=ys)))∧Ext w w':=by
 have Hn:=hiD hn
 have Hm:=hiD hm
 have HR:=hiD hr
 have HS:=hiD hs
 by_cases hne:n=m
 ·subst hne
  clear hn hm hr hs
  go_enter Tryz.func111,Tryz.ntmps111
  go_wp2_with fail
  go_loopw [5] (fun i wr=> ∃k:Nat,k≤n∧i= .int .i64 k∧Hid (xs.take k=ys.take k)∧Ext w wr) (fun i _=>n - (intOf i).toNat)
  case atStart=>exact⟨0,Nat.zero_le _,rfl,by rw [Hid];rfl,Ext.refl _⟩
  case round=>
   obtain⟨k,hk,rfl,HK,e1⟩:=hrel
   by_cases hlt:k < n
   ·have l1:k < xs.length:=by rw [←Hn.out];exact hlt
    have l2:k < ys.length:=by rw [←Hm.out];exact hlt
    obtain⟨b1,o1,rfl,_,_,f0,f1⟩:=ack (HR.out.ext e1 (Nat.le_refl _)) l1
    obtain⟨b2,o2,rfl,_,_,g0,g1⟩:=ack (HS.out.ext e1 (Nat.le_refl _)) l2
    have HT:=hiD (agU l1 l2 HK.out)
    have HN:=hiD (ao4 l1 l2)
    generalize xs[k]=x at *
    generalize ys[k]=y at *
    obtain⟨xi,xd⟩:=x
    obtain⟨yi,yd⟩:=y
    by_cases h1:xi=yi
    ·subst h1
     by_cases h2:xd=yd
     ·subst h2
      have c2:=zM xd
      have HT2:=hiD (HT.out rfl)
      go_wp2_with fail
      refine wp_region_held_drew (S:=fun w'=>w'=wr.drew) (by kernel_rfl) rfl (fun hHeld=>?_)
      refine tW 0 9 ?_
      refine dnX ?_
      go_wp2_with fail
      go_roundw
      case rel=>exact⟨k+1,by omega,by go_num,HT2,blo⟩
      case measure=>simp [intOf];omega
     ·have c2:=xy h2
      have HF:=hiD (HN.out (by simp [h2]))
      clear h2
      go_wp2_with fail
      refine wp_region_held_drew (S:=fun w'=>w'=wr.drew) (by kernel_rfl) rfl (fun hHeld=>?_)
      refine tW 0 9 ?_
      refine dnX ?_
      go_wp2_with fail
      go_ret
      exact⟨by rw [decide_eq_false HF.out];rfl,blo⟩
    ·have c1:(xi == yi)=false:=by simp [h1]
     have HF:=hiD (HN.out (by simp [h1]))
     clear h1
     go_wp2_with fail
     refine wp_region_held_drew (S:=fun w'=>w'=wr.drew) (by kernel_rfl) rfl (fun hHeld=>?_)
     refine tW 0 9 ?_
     refine dnX ?_
     go_wp2_with fail
     go_ret
     exact⟨by rw [decide_eq_false HF.out];rfl,blo⟩
   ·obtain rfl:k=n:=by omega
    have HE:Hid (xs=ys):=by
     have h:=HK.out
     rw [List.take_of_length_le (by rw [←Hn.out];exact Nat.le_refl _),List.take_of_length_le (by rw [←Hm.out];exact Nat.le_refl _)]at h
     exact h
    go_wp2_with fail
    go_ret
    exact⟨by rw [decide_eq_true HE.out];rfl,e1⟩
 ·have HF:Hid (xs≠ys):=fun e=>hne (by rw [hn,hm,e])
  have hb:((n:Int) != (m:Int))=true:=by simp;omega
  clear hn hm hr hs
  go_enter Tryz.func111,Tryz.ntmps111
  go_wp2_with fail
  go_ret
  exact⟨by rw [decide_eq_false HF.out];rfl,Ext.refl _⟩
instance:DecidableEq Prp:=fun a b=>decidable_of_iff (a.name=b.name∧a.value=b.value) (by cases a;cases b;simp)
theorem agu{xs ys:List Prp}{k:Nat}(h1:k < xs.length)(h2:k < ys.length)(h:xs.take k=ys.take k)(he:xs[k]=ys[k]):xs.take (k+1)=ys.take (k+1):=by
 rw [List.take_succ_eq_append_getElem h1,List.take_succ_eq_append_getElem h2,h,he]
theorem aoM{xs ys:List Prp}{k:Nat}(h1:k < xs.length)(h2:k < ys.length)(hn:xs[k]≠ys[k]):xs≠ys:=fun e=>by
 subst e
 exact hn rfl
theorem ab1(w:World)(A B:Option Addr)(n m c d:Nat)(xs ys:List Prp)(hn:n=xs.length)(hm:m=ys.length)(hN:n≤9223372036854775807)(hM:m≤9223372036854775807)(hr:Rd w 0 w.heap.size A (prps xs))(hs:Rd w 0 w.heap.size B (prps ys)):
 Calls Tryz.prog 71 #[.slice A n c,.slice B m d] w fun e w'=>e= .returned (.bool (decide (xs=ys)))∧Ext w w':=by
 have Hn:=hiD hn
 have Hm:=hiD hm
 have HR:=hiD hr
 have HS:=hiD hs
 by_cases hne:n=m
 ·subst hne
  clear hn hm hr hs
  go_enter Tryz.func71,Tryz.ntmps71
  go_wp2_with fail
  go_loopw [5] (fun i wr=> ∃k:Nat,k≤n∧i= .int .i64 k∧Hid (xs.take k=ys.take k)∧Ext w wr) (fun i _=>n - (intOf i).toNat)
  case atStart=>exact⟨0,Nat.zero_le _,rfl,by rw [Hid];rfl,Ext.refl _⟩
  case round=>
   obtain⟨k,hk,rfl,HK,e1⟩:=hrel
   by_cases hlt:k < n
   ·have l1:k < xs.length:=by rw [←Hn.out];exact hlt
    have l2:k < ys.length:=by rw [←Hm.out];exact hlt
    obtain⟨b1,o1,rfl,_,_,f0,f1⟩:=acr (HR.out.ext e1 (Nat.le_refl _)) l1
    obtain⟨b2,o2,rfl,_,_,g0,g1⟩:=acr (HS.out.ext e1 (Nat.le_refl _)) l2
    have HT:=hiD (agu l1 l2 HK.out)
    have HN:=hiD (aoM l1 l2)
    generalize xs[k]=x at *
    generalize ys[k]=y at *
    obtain⟨xi,xd⟩:=x
    obtain⟨yi,yd⟩:=y
    by_cases h1:xi=yi
    ·subst h1
     have c1:=zM xi
     by_cases h2:xd=yd
     ·subst h2
      have c2:=zM xd
      have HT2:=hiD (HT.out rfl)
      go_wp2_with fail
      refine wp_region_held_drew (S:=fun w'=>w'=wr.drew) (by kernel_rfl) rfl (fun hHeld=>?_)
      refine tW 0 9 ?_
      refine dnX ?_
      go_wp2_with fail
      go_roundw
      case rel=>exact⟨k+1,by omega,by go_num,HT2,blo⟩
      case measure=>simp [intOf];omega
     ·have c2:=xy h2
      have HF:=hiD (HN.out (by simp [h2]))
      clear h2
      go_wp2_with fail
      refine wp_region_held_drew (S:=fun w'=>w'=wr.drew) (by kernel_rfl) rfl (fun hHeld=>?_)
      refine tW 0 9 ?_
      refine dnX ?_
      go_wp2_with fail
      go_ret
      exact⟨by rw [decide_eq_false HF.out];rfl,blo⟩
    ·have c1:=xy h1
     have HF:=hiD (HN.out (by simp [h1]))
     clear h1
     go_wp2_with fail
     refine wp_region_held_drew (S:=fun w'=>w'=wr.drew) (by kernel_rfl) rfl (fun hHeld=>?_)
     refine tW 0 9 ?_
     refine dnX ?_
     go_wp2_with fail
     go_ret
     exact⟨by rw [decide_eq_false HF.out];rfl,blo⟩
   ·obtain rfl:k=n:=by omega
    have HE:Hid (xs=ys):=by
     have h:=HK.out
     rw [List.take_of_length_le (by rw [←Hn.out];exact Nat.le_refl _),List.take_of_length_le (by rw [←Hm.out];exact Nat.le_refl _)]at h
     exact h
    go_wp2_with fail
    go_ret
    exact⟨by rw [decide_eq_true HE.out];rfl,e1⟩
 ·have HF:Hid (xs≠ys):=fun e=>hne (by rw [hn,hm,e])
  have hb:((n:Int) != (m:Int))=true:=by simp;omega
  clear hn hm hr hs
  go_enter Tryz.func71,Tryz.ntmps71
  go_wp2_with fail
  go_ret
  exact⟨by rw [decide_eq_false HF.out];rfl,Ext.refl _⟩
def adu(x y:Su):Bool:=x.a == y.a && (x.b == y.b && (x.c == y.c && x.d == y.d))
def adf(x y:Rec):Bool:=
 x.kind == y.kind && (x.name.toList == y.name.toList && (x.frm == y.frm && (x.guid == y.guid && (x.index == y.index && (x.count == y.count && (x.data.toList == y.data.toList && (adu (sumR x) (sumR y) && decide (x.own=y.own))))))))
structure Stg.rd (w:World) (x:Stg):Prop where
 begR:Rd w 0 w.heap.size x.beg.oA (prps x.beg.own)
 begL:x.beg.on=x.beg.own.length
 begN:x.beg.on≤100000000
 bodyN:x.bn=x.body.length
 bodyM:x.bn≤200000000
 bodyR:Rd w 0 w.heap.size x.bA (blks x.body)
theorem Stg.ok.rd{w:World}{x:Stg}(h:x.ok w):x.rd w:=⟨h.begR,h.beg.own,h.begN,h.bodyN,by have:=h.bodyM;omega,h.bodyR⟩
theorem Stg.rd.ext{w w':World}{x:Stg}(h:x.rd w)(e:Ext w w'):x.rd w':=⟨Rd.at h.begR e (Nat.le_refl _),h.begL,h.begN,h.bodyN,h.bodyM,Rd.at h.bodyR e (Nat.le_refl _)⟩
def qV(x y:Stg):Bool:=
 x.into.toList == y.into.toList && (adf x.beg y.beg && (decide (x.body=y.body) && (x.pos == y.pos && (x.next == y.next && (adu x.su y.su && x.done == y.done)))))
open Go.Maps Go.Sort Go.Shelf
def strc(s:ByteArray):List Value:= [.string s]
theorem ad5(l:List ByteArray):l.flatMap strc=l.map Value.string:=by
 induction l with
 | nil=>rfl
 | cons b l ih=>rw [List.flatMap_cons,ih];rfl
def sml(s:ByteArray):Prop:=s.size≤1048576
abbrev Txs:=Sl ByteArray
abbrev Txs.At(w:World)(lo hi:Nat)(s:Txs):Prop:=Sl.At w lo hi strc sml s
def Blk.sm(x:Blk):Prop:=Blk.wf x
def Prp.sm(x:Prp):Prop:=sml x.name∧sml x.value
abbrev Bks.At(w:World)(lo hi:Nat)(s:Sl Blk):Prop:=Sl.At w lo hi Blk.cells Blk.sm s
abbrev Pps.At(w:World)(lo hi:Nat)(s:Sl Prp):Prop:=Sl.At w lo hi Prp.cells Prp.sm s
structure Sna where
 name:ByteArray
 guid:Int
 body:Sl Blk
 tags:Txs
 own:Sl Prp
def Sna.cells(x:Sna):List Value:= [.string x.name,.int .i64 x.guid,x.body.val,x.tags.val,x.own.val]
structure Sna.At (w:World) (lo hi:Nat) (x:Sna):Prop where
 name:sml x.name
 guid:(Lit.int .i64 x.guid).wf=true
 body:Bks.At w lo hi x.body
 bodyS:x.body.n≤1048576
 tags:Txs.At w lo hi x.tags
 own:Pps.At w lo hi x.own
 ownS:x.own.n≤1048576
structure Dst where
 path:ByteArray
 origin:ByteArray
 body:Sl Blk
 snaps:Sl Sna
 own:Sl Prp
def Dst.cells(x:Dst):List Value:= [.string x.path,.string x.origin,x.body.val,x.snaps.val,x.own.val]
structure Dst.At (w:World) (lo hi:Nat) (x:Dst):Prop where
 path:sml x.path
 origin:sml x.origin
 body:Bks.At w lo hi x.body
 bodyS:x.body.n≤1048576
 snaps:Sl.At w lo hi Sna.cells (Sna.At w lo hi) x.snaps
 snapsS:x.snaps.n≤1048576
 own:Pps.At w lo hi x.own
 ownS:x.own.n≤1048576
structure Gra where
 user:ByteArray
 path:ByteArray
 perms:Int
def Gra.cells(x:Gra):List Value:= [.string x.user,.string x.path,.int .i64 x.perms]
def Gra.sm(x:Gra):Prop:=sml x.user∧sml x.path∧(Lit.int .i64 x.perms).wf=true
structure Lin where
 user:ByteArray
 kind:Int
 path:ByteArray
 err:Int
def Lin.cells(x:Lin):List Value:= [.string x.user,.int .i64 x.kind,.string x.path,.int .i64 x.err]
def Lin.sm(x:Lin):Prop:=sml x.user∧sml x.path∧(Lit.int .i64 x.kind).wf=true∧(Lit.int .i64 x.err).wf=true
structure Stg.At (w:World) (lo hi:Nat) (x:Stg):Prop where
 begR:Rd w lo hi x.beg.oA (prps x.beg.own)
 beg:x.beg.wf
 begN:x.beg.on≤1048576
 begS:(sumR x.beg).wf
 bodyN:x.bn=x.body.length
 bodyM:x.bn≤1048576
 bodyC:x.bn≤x.bc∧x.bc≤maxLen
 bodyR:Rd w lo hi x.bA (blks x.body)
 bodyW: ∀b∈x.body,b.wf
 into:sml x.into
 pos:(Lit.int .i64 x.pos).wf=true
 next:(Lit.int .i64 x.next).wf=true
 su:x.su.wf
structure Tnt where
 name:ByteArray
 quota:Int
 next:Int
 sets:Sl Dst
 grants:Sl Gra
 stages:Sl Stg
 log:Sl Lin
def Tnt.cells(x:Tnt):List Value:= [.string x.name,.int .i64 x.quota,.int .i64 x.next,x.sets.val,x.grants.val,x.stages.val,x.log.val]
structure Tnt.At (w:World) (lo hi:Nat) (x:Tnt):Prop where
 name:sml x.name
 quota:(Lit.int .i64 x.quota).wf=true
 next:(Lit.int .i64 x.next).wf=true
 sets:Sl.At w lo hi Dst.cells (Dst.At w lo hi) x.sets
 grants:Sl.At w lo hi Gra.cells Gra.sm x.grants
 stages:Sl.At w lo hi Stg.cells (Stg.At w lo hi) x.stages
 log:Sl.At w lo hi Lin.cells Lin.sm x.log
section
variable {w w':World} {lo hi lo' hi':Nat}
theorem Sna.At.imp{x:Sna}(h:Sna.At w lo hi x)(hr: ∀A cs,Rd w lo hi A cs→Rd w' lo' hi' A cs):Sna.At w' lo' hi' x:=⟨h.name,h.guid,Sl.At.imp h.body (hr _ _) (fun _ h=>h),h.bodyS,Sl.At.imp h.tags (hr _ _) (fun _ h=>h),Sl.At.imp h.own (hr _ _) (fun _ h=>h),h.ownS⟩
theorem Dst.At.imp{x:Dst}(h:Dst.At w lo hi x)(hr: ∀A cs,Rd w lo hi A cs→Rd w' lo' hi' A cs):Dst.At w' lo' hi' x:=⟨h.path,h.origin,Sl.At.imp h.body (hr _ _) (fun _ h=>h),h.bodyS,Sl.At.imp h.snaps (hr _ _) (fun _ hx=>Sna.At.imp hx hr),h.snapsS,Sl.At.imp h.own (hr _ _) (fun _ h=>h),h.ownS⟩
theorem Stg.At.imp{x:Stg}(h:Stg.At w lo hi x)(hr: ∀A cs,Rd w lo hi A cs→Rd w' lo' hi' A cs):Stg.At w' lo' hi' x:=⟨hr _ _ h.begR,h.beg,h.begN,h.begS,h.bodyN,h.bodyM,h.bodyC,hr _ _ h.bodyR,h.bodyW,h.into,h.pos,h.next,h.su⟩
theorem Tnt.At.imp{x:Tnt}(h:Tnt.At w lo hi x)(hr: ∀A cs,Rd w lo hi A cs→Rd w' lo' hi' A cs):Tnt.At w' lo' hi' x:=⟨h.name,h.quota,h.next,Sl.At.imp h.sets (hr _ _) (fun _ hx=>Dst.At.imp hx hr),Sl.At.imp h.grants (hr _ _) (fun _ h=>h),Sl.At.imp h.stages (hr _ _) (fun _ hx=>Stg.At.imp hx hr),Sl.At.imp h.log (hr _ _) (fun _ h=>h)⟩
theorem Sna.At.on{x:Sna}(h:Sna.At w lo hi x)(e:Ext w w')(hh:hi≤w.heap.size):Sna.At w' lo w'.heap.size x:=h.imp (abF e hh)
theorem Dst.At.on{x:Dst}(h:Dst.At w lo hi x)(e:Ext w w')(hh:hi≤w.heap.size):Dst.At w' lo w'.heap.size x:=h.imp (abF e hh)
theorem Stg.At.on{x:Stg}(h:Stg.At w lo hi x)(e:Ext w w')(hh:hi≤w.heap.size):Stg.At w' lo w'.heap.size x:=h.imp (abF e hh)
theorem Tnt.At.on{x:Tnt}(h:Tnt.At w lo hi x)(e:Ext w w')(hh:hi≤w.heap.size):Tnt.At w' lo w'.heap.size x:=h.imp (abF e hh)
theorem yG{α:Type}{cells:α→List Value}{I I':α→Prop}{s:Sl α}(h:Sl.At w lo hi cells I s)(e:Ext w w')(hh:hi≤w.heap.size)(hi: ∀x,I x→I' x):Sl.At w' lo w'.heap.size cells I' s:=Sl.At.imp h (abF e hh _ _) hi
end
def zC{α:Type}(p:α→Bool):List α→Int
 | []=> -1
 | x::l=>if p x=true then 0 else if zC p l < 0 then -1 else zC p l+1
theorem ae0{α:Type}(p:α→Bool): ∀l:List α,-1≤zC p l∧zC p l < (l.length:Int)
 | []=>by simp [zC]
 | x::l=>by
   have:=ae0 p l
   rw [zC,List.length_cons]
   split
   ·omega
   ·split <;> omega
theorem abp{α:Type}(p:α→Bool): ∀(l:List α) (k:Nat) (h:k < l.length),(∀x∈l.take k,p x=false)→p l[k]=true→zC p l=(k:Int)
 | x::l,0,_,_,hp=>by rw [zC,if_pos (by simpa using hp)];rfl
 | x::l,k+1,h,hk,hp=>by
   have h1:p x=false:=hk x (by simp)
   have ih:=abp p l k (by simpa using h) (fun y hy=>hk y (by simp [hy])) (by simpa using hp)
   rw [zC,if_neg (by rw [h1];decide),if_neg (by omega),ih]
   omega
theorem aaL{α:Type}(p:α→Bool): ∀l:List α,(∀x∈l,p x=false)→zC p l= -1
 | [],_=>rfl
 | x::l,h=>by
   have h1:p x=false:=h x (by simp)
   have ih:=aaL p l (fun y hy=>h y (by simp [hy]))
   rw [zC,if_neg (by rw [h1];decide),ih];rfl
theorem abX{α:Type}(p:α→Bool): ∀l:List α,0≤zC p l→ ∃h:(zC p l).toNat < l.length,p (l[(zC p l).toNat])=true
 | [],h=>absurd h (by show¬(0:Int)≤ -1;decide)
 | x::l,h=>by
   rw [zC]at h
   by_cases hp:p x=true
   ·have e:zC p (x::l)=0:=by rw [zC,if_pos hp]
    rw [e]
    exact⟨by simp,by simpa using hp⟩
   ·rw [if_neg hp]at h
    by_cases h0:zC p l < 0
    ·rw [if_pos h0]at h;omega
    ·obtain⟨h1,h2⟩:=abX p l (by omega)
     have e:zC p (x::l)=zC p l+1:=by rw [zC,if_neg hp,if_neg h0]
     rw [e]
     have e2:(zC p l+1).toNat=(zC p l).toNat+1:=by omega
     rw [e2]
     exact⟨by simpa using h1,by simpa using h2⟩
def zE(n least:Int):Bool:=decide (least≤n) && decide (n≤1099511627776)
def xN(s:ByteArray):Option ByteArray:=if s.size=0 then none else if zF s=true then some (s.extract 0 (max (Go.Lib.lastIndexByte s 47) 0).toNat)else none
def atI(s:ByteArray):Int:=Go.Lib.index s.data.toList [64]
def zT(s:ByteArray):ByteArray:=s.extract 0 (atI s).toNat
def yP(s:ByteArray):ByteArray:=s.extract ((atI s).toNat+1) s.size
def abg(s:ByteArray):Bool:=decide (0≤atI s) && (zF (zT s) && zd (yP s))
def yR(l:List ByteArray):Bool:=(List.range (l.length - 1)).all fun k=>lessB (l.getD k .empty) (l.getD (k+1) .empty)
def aeS(l:List Int):Bool:=(List.range (l.length - 1)).all fun k=>decide (l.getD k 0 < l.getD (k+1) 0)
def qO(l:List ByteArray)(x:ByteArray):Bool:=l.any fun y=>decide (y=x)
theorem abu(l:List ByteArray)(x:ByteArray):qO l x=true↔x∈l:=by
 rw [qO,List.any_eq_true]
 constructor
 ·rintro⟨y,hy,e⟩
  rw [decide_eq_true_eq]at e
  exact e▸hy
 ·intro h
  exact⟨x,h,decide_eq_true rfl⟩
def qo(l:List ByteArray):Bool:=(List.range l.length).all fun k=>zd (l.getD k .empty) && !qO (l.take k) (l.getD k .empty)
def aad(l:List ByteArray):Bool:=decide (l.length≤4) && (l.all zd && yR l)
def snB(x:Sna):Bool:=zE x.guid 1 && (decide (bkE x.body.xs=0) && (decide (prE x.own.xs=0) && aad x.tags.xs))
def xF(l:List Sna):Bool:=decide (l.length≤16) && (l.all snB && (aeS (l.map Sna.guid) && qo (l.map Sna.name)))
def atS(sets:List Dst)(p:ByteArray):Int:=zC (fun x:Dst=>decide (x.path=p)) sets
def snO(sets:List Dst)(p n:ByteArray):Int:=zC (fun x:Sna=>decide (x.name=n)) ((sets.map fun x=>x.snaps.xs).getD (atS sets p).toNat [])
def orB(sets:List Dst)(x:Dst):Bool:=decide (x.origin.size=0) || (abg x.origin && (decide (zT x.origin≠x.path) && (decide (0≤atS sets (zT x.origin)) && decide (0≤snO sets (zT x.origin) (yP x.origin)))))
def upB(sets:List Dst)(x:Dst):Bool:=match xN x.path with
 | none=>true
 | some up=>decide (0≤atS sets up)
def seB(sets:List Dst)(x:Dst):Bool:=zF x.path && (upB sets x && (decide (prE x.own.xs=0) && (decide (bkE x.body.xs=0) && (xF x.snaps.xs && orB sets x))))
def yV(sets:List Dst):Bool:=decide (sets.length≤32) && (decide (0≤atS sets .empty) && (sets.all (seB sets) && yR (sets.map Dst.path)))
def ltG(x y:Gra):Bool:=lessB x.user y.user || (decide (x.user=y.user) && lessB x.path y.path)
def qz(x:Gra):Bool:=zd x.user && (zF x.path && (decide (1≤x.perms) && decide (x.perms≤255)))
def zG:Gra:=⟨.empty,.empty,0⟩
def grB(l:List Gra):Bool:=decide (l.length≤16) && (l.all qz && (List.range (l.length - 1)).all fun k=>ltG (l.getD k zG) (l.getD (k+1) zG))
def xM(l:List Stg):Bool:=decide (l.length≤4) && (l.all stB && yR (l.map Stg.into))
def liB(x:Lin):Bool:=(decide (x.user.size=0) || zd x.user) && (zF x.path && (zE x.kind 0 && zE x.err 0))
def zH(t:Tnt):Bool:=zd t.name && (zE t.quota 0 && (zE t.next 1 && (yV t.sets.xs && (grB t.grants.xs && (xM t.stages.xs && (decide (t.log.xs.length≤16) && t.log.xs.all liB))))))
def yt(t:Tnt):Int:=if zH t=true then 0 else 9
theorem aeZ{α:Type}(p:α→Bool)(l:List α)(k:Nat)(h:k < l.length):(l.take (k+1)).all p=((l.take k).all p && p l[k]):=by
 rw [List.take_succ_eq_append_getElem h,List.all_append];simp
theorem aaf{α:Type}(p:α→Bool)(l:List α)(k:Nat)(h:k < l.length)(hp:p l[k]=false):l.all p=false:=by
 rw [List.all_eq_false]
 exact⟨l[k],List.getElem_mem h,by rw [hp];decide⟩
theorem aca(l:List ByteArray)(k:Nat)(h:k+1 < l.length)(hp:lessB l[k] l[k+1]=false):yR l=false:=by
 rw [yR,List.all_eq_false]
 refine⟨k,List.mem_range.2 (by omega),?_⟩
 simp [List.getD,List.getElem?_eq_getElem h,List.getElem?_eq_getElem (show k < l.length by omega),hp]
theorem aa1(l:List ByteArray)(hp: ∀k (h:k+1 < l.length),lessB l[k] l[k+1]=true):yR l=true:=by
 rw [yR,List.all_eq_true]
 intro k hk
 have hk:=List.mem_range.1 hk
 simp [List.getD,List.getElem?_eq_getElem (show k+1 < l.length by omega),List.getElem?_eq_getElem (show k < l.length by omega),hp k (by omega)]
theorem anu(l:List Int)(k:Nat)(h:k+1 < l.length)(hp: ¬l[k] < l[k+1]):aeS l=false:=by
 rw [aeS,List.all_eq_false]
 refine⟨k,List.mem_range.2 (by omega),?_⟩
 simp [List.getD,List.getElem?_eq_getElem h,List.getElem?_eq_getElem (show k < l.length by omega)]
 omega
theorem amr(l:List Int)(hp: ∀k (h:k+1 < l.length),l[k] < l[k+1]):aeS l=true:=by
 rw [aeS,List.all_eq_true]
 intro k hk
 have hk:=List.mem_range.1 hk
 simp [List.getD,List.getElem?_eq_getElem (show k+1 < l.length by omega),List.getElem?_eq_getElem (show k < l.length by omega),hp k (by omega)]
theorem akA{y:Int}(h:(Lit.int .i64 y).wf=true): -9223372036854775808≤y∧y≤9223372036854775807:=by
 simp only [Lit.wf,Bool.and_eq_true,decide_eq_true_eq]at h
 exact⟨h.1,h.2⟩
end Go.Proofs.YtckaneapjpiocaaGreatDoor
