/- The texts Pth in one file. -/
import Derived.Test.YtckaneapjpiocaaGreatDoorP7
set_option linter.unusedVariables false
set_option linter.unusedSimpArgs false
set_option maxHeartbeats 1000000
set_option maxRecDepth 100000
namespace Go.Proofs.YtckaneapjpiocaaGreatDoor
open Go.RowKit
def yJ(w:World):Prop:= ∃m:Int,w.cell? ⟨0,0,none⟩=some (.int .i64 m)
theorem yJ.ext{w w':World}(h:yJ w)(e:Ext w w'):yJ w':=by
 obtain⟨m,hm⟩:=h
 exact⟨m,(Below.cell e (World.block_lt_of_cell? w _ hm)).trans hm⟩
theorem ada(s:List UInt8): ∀cur,∀p∈zC cur s,p.length≤cur.length+s.length:=by
 induction s with
 | nil=>intro cur p hp;simp only [zC,List.mem_singleton]at hp;subst hp;simp
 | cons b l ih=>
   intro cur p hp
   rw [zC]at hp
   by_cases h:b=47
   ·rw [if_pos h,List.mem_cons]at hp
    rcases hp with rfl | hp
    ·simp
    ·have:=ih [] p hp
     simp at this ⊢
     omega
   ·rw [if_neg h]at hp
    have:=ih _ p hp
    simp at this ⊢
    omega
theorem agO(s:ByteArray):(⟨s.data.toList.toArray⟩:ByteArray)=s:=rfl
theorem aep(s:ByteArray)(w:World)(hM:yJ w)(hs:s.size < 4294967281)(sep:ByteArray)(hsep:sep=⟨#[47]⟩):
 Calls Tryz.prog 179 #[.string s,.string sep] w fun e w'=> ∃ps:List ByteArray,ps.map (·.data.toList)=yk s.data.toList∧e= .returned (.slice (some ⟨w.heap.size,0,none⟩) ps.length ps.length)∧w'=w.alloc (.cells (ps.map Value.string).toArray 9):=by
 subst hsep
 obtain⟨m,hm⟩:=hM
 refine(Tryz.strings_Split s ⟨#[47]⟩ m w hs hm (by decide)).mono ?_
 rintro e w' ⟨rfl,rfl⟩
 have h1:=Lib.splitB_all ⟨#[47]⟩ (by decide) 0 _ s rfl
 exact⟨_,(Lib.splitB_data ⟨#[47]⟩ 0 _ s).trans (aaT _ _ rfl),by rw [h1],rfl⟩
def yx(s:ByteArray):Bool:=!zi s
theorem aed(s:ByteArray)(w:World)(hm:s.size≤9223372036854775807):Calls Tryz.prog 180 #[.string s] w fun e w'=>e= .returned (.bool (yx s))∧Ext w w':=by
 have hv:=Lib.hid (show yx s=!zi s from rfl)
 have H:=Lib.hid (xf s w hm)
 generalize zi s=b at *
 go_enter Tryz.func180,Tryz.ntmps180
 go_wp2_with fail
 refine H.out.mono ?_
 rintro e w2 ⟨rfl,e2⟩
 go_wp2_with fail
 go_ret
 exact⟨by rw [hv.out];rfl,e2⟩
def ahJ(l:List ByteArray)(w:World)(e:Ending)(w':World):Prop:=
 ∃r:Int,e= .returned (.int .i64 r)∧l.any yx=decide (0≤r)∧ -1≤r∧Ext w w'
theorem afT(w:World)(A:Option Addr)(n c lo hi:Nat)(l:List ByteArray)(hn:n=l.length)(hm:n≤9223372036854775807)(hr:Rd w lo hi A (l.map Value.string))(hh:hi≤w.heap.size)(hsz: ∀s∈l,s.size≤9223372036854775807):
 Calls Tryz.prog 192 #[.slice A n c,.func (.func 180) #[] #[]] w (ahJ l w):=by
 have Hn:=Lib.hid hn
 have HSz:=Lib.hid hsz
 clear hn hsz
 go_enter Tryz.func192,Tryz.ntmps192
 go_wp2_with fail
 go_loopw [8] (fun i wr=> ∃k:Nat,k≤n∧i= .int .i64 k∧(l.take k).any yx=false∧Ext w wr) (fun i _=>n - (intOf i).toNat)
 case atStart=>exact⟨0,Nat.zero_le _,rfl,rfl,Ext.refl _⟩
 case round=>
  obtain⟨k,hk,rfl,hno,e1⟩:=hrel
  have HK:=Lib.hid hno
  clear hno
  by_cases hlt:k < n
  ·obtain⟨b1,o1,rfl,_,_,f0⟩:=qH (hr.ext e1 hh) (k:=k) (by rw [←Hn.out];omega)
   have hl:k < l.length:=by rw [←Hn.out];omega
   obtain⟨y,hy⟩: ∃y,y=l[k]'hl:=⟨_,rfl⟩
   rw [←hy]at f0
   have HY:=Lib.hid hy
   clear hy
   go_wp2_with fail
   refine(aed y _ (by have:=HSz.out y (by rw [HY.out];exact List.getElem_mem _);exact this)).mono ?_
   rintro e w2 ⟨rfl,e2⟩
   cases ho:yx y
   ·go_wp2_with fail
    go_roundw
    case rel=>
     refine⟨k+1,by omega,by go_num,?_,blo⟩
     rw [List.take_succ_eq_append_getElem hl,List.any_append,HK.out,←HY.out]
     simp [ho]
    case measure=>simp [intOf];omega
   ·go_wp2_with fail
    go_ret
    refine⟨k,rfl,?_,by omega,blo⟩
    have h1:l.any yx=true:=List.any_eq_true.2 ⟨y,by rw [HY.out];exact List.getElem_mem _,ho⟩
    rw [h1]
    simp
  ·go_wp2_with fail
   go_ret
   obtain rfl:k=n:=by omega
   have h1:=HK.out
   rw [List.take_of_length_le (by rw [←Hn.out];exact Nat.le_refl _)]at h1
   exact⟨-1,rfl,by rw [h1];rfl,by omega,e1⟩
theorem acq(w:World)(A:Option Addr)(n c lo hi:Nat)(l:List ByteArray)(hn:n=l.length)(hm:n≤9223372036854775807)(hr:Rd w lo hi A (l.map Value.string))(hh:hi≤w.heap.size)(hsz: ∀s∈l,s.size≤9223372036854775807):
 Calls Tryz.prog 150 #[.slice A n c,.func (.func 180) #[] #[]] w fun e w'=>e= .returned (.bool (l.any yx))∧Ext w w':=by
 have Hn:=Lib.hid hn
 have HSz:=Lib.hid hsz
 clear hn hsz
 go_enter Tryz.func150,Tryz.ntmps150
 go_wp2_with fail
 refine(afT w A n c lo hi l Hn.out hm hr hh HSz.out).mono ?_
 rintro e w2 ⟨r,rfl,hany,hr1,e2⟩
 have HA:=Lib.hid hany
 clear hany
 go_wp2_with fail
 go_ret
 exact⟨by rw [HA.out];rfl,e2⟩
theorem acz(s:ByteArray)(h:0 < s.size)(ps:List ByteArray)(hp:ps.map (·.data.toList)=yk s.data.toList):zv s=(decide (ps.length≤4) && !(ps.any yx)):=by
 have h1:decide (s.size=0)=false:=decide_eq_false (by omega)
 have h2:ps.length=(yk s.data.toList).length:=by rw [←hp,List.length_map]
 have h3: ∀qs:List ByteArray,(qs.map (·.data.toList)).all (fun l=>zi ⟨l.toArray⟩)=!(qs.any yx):=by
  intro qs
  induction qs with
  | nil=>rfl
  | cons p qs ih=>
    rw [List.map_cons,List.all_cons,List.any_cons,ih,agO,Bool.not_or,yx,Bool.not_not]
 rw [zv,h1,←hp,h3,List.length_map]
 rfl
theorem ab7(s:ByteArray)(hs:s.size≤9223372036854775807)(ps:List ByteArray)(hp:ps.map (·.data.toList)=yk s.data.toList): ∀p∈ps,p.size≤9223372036854775807:=by
 intro p hm
 have:=ada s.data.toList [] p.data.toList (by rw [show zC [] s.data.toList=ps.map (·.data.toList)from hp.symm];exact List.mem_map_of_mem hm)
 rw [zz,zz]at this
 simp at this
 omega
theorem acl(s:ByteArray)(ps:List ByteArray)(hp:ps.map (·.data.toList)=yk s.data.toList):ps.length≤s.size+1:=by
 have h1:ps.length=(yk s.data.toList).length:=by rw [←hp,List.length_map]
 have h2:=aa9 s.data.toList []
 have h3:s.data.toList.count 47≤s.data.toList.length:=List.count_le_length
 rw [zz]at h3
 have h4:yk s.data.toList=zC [] s.data.toList:=rfl
 rw [h4]at h1
 omega
theorem xW(s:ByteArray)(w:World)(hM:yJ w)(hs:s.size < 4294967281):Calls Tryz.prog 138 #[.string s] w fun e w'=>e= .returned (.bool (zv s))∧Ext w w':=by
 by_cases h0:s.size=0
 ·obtain rfl:=y9 s h0
  have hv:=Lib.hid (show zv ⟨#[]⟩=true from rfl)
  go_enter Tryz.func138,Tryz.ntmps138
  go_wp2_with fail
  go_ret
  exact⟨by rw [hv.out];rfl,Ext.refl _⟩
 ·have HS:=Lib.hid (aep s w hM hs _ rfl)
  have b0:s.toList.isEmpty=false:=by
   rw [ByteArray.toList_eq,List.isEmpty_eq_false_iff]
   intro e
   have:=zz s
   rw [e]at this
   exact h0 this.symm
  have HP:=Lib.hid (fun ps hp=>acz s (by omega) ps hp)
  have HF:=Lib.hid (ab7 s (by omega))
  have HL:=Lib.hid (acl s)
  have HB:=Lib.hid hs
  clear hs
  go_enter Tryz.func138,Tryz.ntmps138
  go_wp2_with fail
  refine HS.out.mono ?_
  rintro e w2 ⟨ps,hp,rfl,hw2⟩
  have hv:=Lib.hid (HP.out ps hp)
  have hf:=Lib.hid (HF.out ps hp)
  have hl:=Lib.hid (HL.out ps hp)
  clear hp
  have hr:=aav w (ps.map Value.string).toArray 9
  rw [←hw2]at hr
  have e2:Ext w w2:=by rw [hw2];exact blo
  have hz:w2.heap.size=w.heap.size+1:=by rw [hw2];simp
  have HR:=Lib.hid (show Rd w2 w.heap.size w2.heap.size (some ⟨w.heap.size,0,none⟩) (ps.map Value.string)by rw [hz];exact hr)
  have HZ:=Lib.hid hz
  clear hw2 hr hz
  by_cases h4:ps.length≤4
  ·have hd:decide ((ps.length:Int)≤4)=true:=by simp;omega
   have hq:zv s=!(ps.any yx):=by rw [hv.out,decide_eq_true h4];rfl
   have hv:=Lib.hid hq
   clear hq
   go_wp2_with fail
   refine(acq _ _ ps.length _ w.heap.size w2.heap.size ps rfl (by have:=hl.out;have:=HB.out;omega) HR.out (Nat.le_refl _) hf.out).mono ?_
   rintro e wa ⟨rfl,ea⟩
   generalize ps.any yx=X at *
   go_wp2_with fail
   go_ret
   exact⟨by rw [hv.out];rfl,blo⟩
  ·have hd:decide ((ps.length:Int)≤4)=false:=by simp;omega
   have hq:zv s=false:=by rw [hv.out,decide_eq_false h4];rfl
   have hv:=Lib.hid hq
   clear hq
   go_wp2_with fail
   go_ret
   exact⟨by rw [hv.out];rfl,blo⟩
end Go.Proofs.YtckaneapjpiocaaGreatDoor
