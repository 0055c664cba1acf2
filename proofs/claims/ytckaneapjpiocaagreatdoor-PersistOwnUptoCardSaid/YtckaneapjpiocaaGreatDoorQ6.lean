/- The texts Chk, Txt, Write, Tex, Enc, PathL in one file. -/
import Derived.Test.YtckaneapjpiocaaGreatDoorQ5
set_option linter.unusedVariables false
set_option linter.unusedSimpArgs false
set_option maxHeartbeats 8000000
set_option maxRecDepth 100000
namespace Go.Proofs.YtckaneapjpiocaaGreatDoor
open Go.RowKit
def yJ(x:Rec):Int:=if x.kind < 1∨4 < x.kind then 23 else if yv x=true then 0 else 9
theorem ad0(w:World)(x:Rec)(hr:Rd w 0 w.heap.size x.oA (prps x.own))(hx:x.wf):
 Calls Tryz.prog 148 #[.agg x.cells.toArray] w fun e w'=>e= .returned (.int .i64 (yJ x))∧Ext w w':=by
 have hmay:x.kind=1∨x.kind=2∨x.kind=3∨x.kind=4→ ∀w1,Ext w w1→Calls Tryz.prog 191 #[.agg x.cells.toArray] w1 fun e w'=>e= .returned (.bool (yv x))∧Ext w1 w':=fun h w1 e1=>by
  rcases h with h | h | h | h
  ·exact amF w1 x (Rd.at hr e1 (Nat.le_refl _)) hx h
  ·exact aml w1 x hx h
  ·exact amb w1 x hx h
  ·exact al2 w1 x hx h
 have HM:=hiD hmay
 have h10:=hx.kind
 clear hmay
 have hv:Hid (yJ x=if x.kind < 1∨4 < x.kind then 23 else if yv x=true then 0 else 9):=hiD rfl
 have hcase:x.kind < 1∨(1≤x.kind∧4 < x.kind)∨(1≤x.kind∧x.kind≤4):=by omega
 obtain⟨k,n,f,g,oA,on,oc,own,i,c,d,s0,s1,s2,s3⟩:=x
 simp only at h10 hcase hr hv
 clear hx
 generalize yJ _=y at *
 generalize yv _=mb at *
 have hk4:Hid ((1≤k∧k≤4)→k=1∨k=2∨k=3∨k=4):=hiD (by omega)
 simp only [Rec.cells]at HM ⊢
 rcases hcase with a0 | ⟨a0,a1⟩ | ⟨a0,a1⟩
 all_goals
  go_enter Tryz.func148,Tryz.ntmps148
  go_wp2_with (go_at_call 191;refine(HM.out (hk4.out ⟨a0,a1⟩) _ blo).mono ?_;rintro e w3 ⟨rfl,e3⟩)
  all_goals (go_ret;refine⟨al5 ?_,blo⟩;rw [hv.out];(first | (simp [*];done) | (simp [*];omega) | (rw [if_neg (by omega)];cases mb <;> simp_all;done) | trace_state))
theorem afj:(Tryz.prog.info? 9).map (fun i=>(i.zero,i.size,i.bytes))=some (some (.string .empty),1,16):=by kernel_rfl
def zW(xs:List Prp):List ByteArray:=xs.flatMap fun x=> [x.name,x.value]
theorem xR(xs:List Prp):(zW xs).length=xs.length * 2:=by
 induction xs with
 | nil=>rfl
 | cons x l ih=>rw [zW,List.flatMap_cons,List.length_append,←zW,ih];simp;omega
theorem aiu(xs:List Prp)(k:Nat)(h:k < xs.length):zW (xs.take (k+1))=zW (xs.take k)++ [xs[k].name,xs[k].value]:=by
 rw [List.take_succ_eq_append_getElem h,zW,List.flatMap_append]
 rfl
theorem adB(w:World)(A:Option Addr)(n c:Nat)(xs:List Prp)(hn:n=xs.length)(hN:n≤100000000000)(hr:Rd w 0 w.heap.size A (prps xs)):
 Calls Tryz.prog 120 #[.slice A n c] w fun e w'=> ∃v,e= .returned v∧w'.ownsRow w.heap.size 9 1 v (n * 2) ((zW xs).map Value.string)∧Ext w w':=by
 obtain⟨i0,hi0,hz0,hz1,hz2⟩:=info_parts afj
 have Hn:=hiD hn
 have HR:=hiD hr
 clear hn hr
 go_enter Tryz.func120,Tryz.ntmps120
 go_wp2_with fail
 go_loopw [3,8] (fun v a wr=> ∃k:Nat,k≤n∧a= .int .i64 k∧wr.ownsRow w.heap.size 9 1 v (k * 2) ((zW (xs.take k)).map Value.string)∧Ext w wr) (fun _ a _=>n - (intOf a).toNat)
 case atStart=>exact⟨0,Nat.zero_le _,rfl,World.ownsRow_nil _ _ _ _,Ext.refl _⟩
 case round=>
  obtain⟨k,hk,rfl,hown,e1⟩:=hrel
  have HOwn:=hiD hown
  clear hown
  by_cases hlt:k < n
  ·have l1:k < xs.length:=by rw [←Hn.out];exact hlt
   obtain⟨b1,o1,rfl,_,_,f0,f1⟩:=acr (HR.out.ext e1 (Nat.le_refl _)) l1
   have HT:=hiD (aiu xs k l1)
   have HO:=hiD (show(k * 2+2) * 16≤140737488355328 by omega)
   generalize xs[k]=x at *
   obtain⟨xn,xv⟩:=x
   dsimp only at f0 f1
   have HB:=hiD (show w.heap.size≤wr.heap.size from e1.size)
   go_upto_region 5 with fail
   generalize hw1:World.alloc wr _=w1;obtain⟨ew1,zw1,Gw1⟩:=aat hw1;have gw1_0:=Gw1 0 _ rfl;have gw1_1:=Gw1 1 _ rfl;have Zw1:=hiD zw1;clear zw1 hw1 Gw1;have rw1:=Ext.refl w1
   have E1:Ext w w1:=e1.trans ew1
   have q0:=gw1_0 w1 (Ext.refl _)
   have q1:=gw1_1 w1 (Ext.refl _)
   have HB1:=hiD (show w.heap.size≤w1.heap.size from E1.size)
   have HOw1:=hiD (ab7 HOwn.out ew1)
   clear gw1_0 gw1_1 rw1 ew1
   iterate 60 (first | at_builtin | go_step)
   refine qR _ rfl (.tmp 12) (.tmp 17) _ rfl 9 i0 _ 1 16 Tryz.underlying109 hi0 hz0 hz1 hz2 rfl (by omega) w.heap.size _ (k * 2) _ rfl (HOw1.out.alloc _) 0 _ _ 2 2 [.string xn,.string xv] rfl rfl
    ((acX _ _ _).m0) (by simp [Value.oneCell']) (by have:=HO.out;simp only [maxLen];omega) HO.out (by have:=HB1.out;simp;omega) ?_
   intro v7 w7 hown7 he7 _ _
   have e9:Ext w w7:=he7 _ (E1.alloc _) (Nat.le_refl _)
   clear he7
   have HOwn7:=hiD hown7
   clear hown7
   go_wp2_with fail
   go_roundw
   case rel=>
    refine⟨k+1,by omega,by go_num,?_,e9⟩
    rw [HT.out,List.map_append,show(k+1) * 2=k * 2+2 by omega]
    exact HOwn7.out
   case measure=>simp [intOf];omega
  ·obtain rfl:k=n:=by omega
   have ht:xs.take k=xs:=List.take_of_length_le (by rw [←Hn.out];exact Nat.le_refl _)
   have h8:=HOwn.out
   rw [ht]at h8
   have HOwn8:=hiD h8
   clear h8
   clear ht
   go_wp2_with fail
   go_ret
   exact⟨_,rfl,HOwn8.out,e1⟩
def xC(s:ByteArray):Bool:=decide (65536 < s.size)
theorem amH(s:ByteArray)(w:World):Calls Tryz.prog 151 #[.string s] w fun e w'=>e= .returned (.bool (xC s))∧Ext w w':=by
 have h:Hid (xC s=decide ((65536:Int) < (s.size:Int))):=by
  have e:(65536 < s.size)=((65536:Int) < (s.size:Int)):=by rw [eq_iff_iff];omega
  simp only [Hid,xC,e]
 go_enter Tryz.func151,Tryz.ntmps151
 go_wp2_with fail
 go_ret
 exact⟨by rw [h.out];rfl,Ext.refl _⟩
def apb(l:List ByteArray)(w:World)(e:Ending)(w':World):Prop:=
 ∃r:Int,e= .returned (.int .i64 r)∧l.any xC=decide (0≤r)∧ -1≤r∧Ext w w'
theorem anV(w:World)(A:Option Addr)(n c lo hi:Nat)(l:List ByteArray)(hn:n=l.length)(hm:n≤9223372036854775807)(hr:Rd w lo hi A (l.map Value.string))(hh:hi≤w.heap.size):
 Calls Tryz.prog 192 #[.slice A n c,.func (.func 151) #[] #[]] w (apb l w):=by
 have Hn:=hiD hn
 clear hn
 go_enter Tryz.func192,Tryz.ntmps192
 go_wp2_with fail
 go_loopw [8] (fun i wr=> ∃k:Nat,k≤n∧i= .int .i64 k∧(l.take k).any xC=false∧Ext w wr) (fun i _=>n - (intOf i).toNat)
 case atStart=>exact⟨0,Nat.zero_le _,rfl,rfl,Ext.refl _⟩
 case round=>
  obtain⟨k,hk,rfl,hno,e1⟩:=hrel
  have HK:=hiD hno
  clear hno
  by_cases hlt:k < n
  ·obtain⟨b1,o1,rfl,_,_,f0⟩:=abL (hr.ext e1 hh) (k:=k) (by rw [←Hn.out];omega)
   have hl:k < l.length:=by rw [←Hn.out];omega
   obtain⟨y,hy⟩: ∃y,y=l[k]'hl:=⟨_,rfl⟩
   rw [←hy]at f0
   have HY:=hiD hy
   clear hy
   go_wp2_with fail
   refine(amH y _).mono ?_
   rintro e w2 ⟨rfl,e2⟩
   cases ho:xC y
   ·go_wp2_with fail
    go_roundw
    case rel=>
     refine⟨k+1,by omega,by go_num,?_,blo⟩
     rw [List.take_succ_eq_append_getElem hl,List.any_append,HK.out,←HY.out]
     simp [ho]
    case measure=>simp [intOf];omega
   ·go_wp2_with fail
    go_ret
    refine⟨k,rfl,?_,by omega,blo⟩
    have h1:l.any xC=true:=List.any_eq_true.2 ⟨y,by rw [HY.out];exact List.getElem_mem _,ho⟩
    rw [h1]
    simp
  ·go_wp2_with fail
   go_ret
   obtain rfl:k=n:=by omega
   have h1:=HK.out
   rw [List.take_of_length_le (by rw [←Hn.out];exact Nat.le_refl _)]at h1
   exact⟨-1,rfl,by rw [h1];rfl,by omega,e1⟩
theorem adY(w:World)(A:Option Addr)(n c lo hi:Nat)(l:List ByteArray)(hn:n=l.length)(hm:n≤9223372036854775807)(hr:Rd w lo hi A (l.map Value.string))(hh:hi≤w.heap.size):
 Calls Tryz.prog 150 #[.slice A n c,.func (.func 151) #[] #[]] w fun e w'=>e= .returned (.bool (l.any xC))∧Ext w w':=by
 have Hn:=hiD hn
 clear hn
 go_enter Tryz.func150,Tryz.ntmps150
 go_wp2_with fail
 refine(anV w A n c lo hi l Hn.out hm hr hh).mono ?_
 rintro e w2 ⟨r,rfl,hany,hr1,e2⟩
 have HA:=hiD hany
 clear hany
 go_wp2_with fail
 go_ret
 exact⟨by rw [HA.out];rfl,e2⟩
def wE(l:List ByteArray):Int:=if 1024 < l.length then 3 else if l.any xC then 5 else 0
def one(s:ByteArray):List UInt8:=zp s.size 3++s.data.toList
def zu(l:List ByteArray):List UInt8:=zp l.length 2++l.flatMap one
def wB(l:List ByteArray):List UInt8:=if wE l=0 then zu l else []
def acc(l:List ByteArray)(k:Nat):List UInt8:=zp l.length 2++(l.take k).flatMap one
theorem ag5(l:List ByteArray)(k:Nat)(hk:k < l.length):acc l (k+1)=acc l k++zp l[k].size 3++l[k].data.toList:=by
 unfold acc
 rw [List.take_succ_eq_append_getElem hk,List.flatMap_append]
 simp [one,List.append_assoc]
theorem ah6(l:List ByteArray)(k:Nat)(hl:l.any xC=false)(hk:k≤l.length):(acc l k).length≤2+k * 65539:=by
 induction k with
 | zero=>simp [acc,zo]
 | succ k ih=>
   have h1:=ih (by omega)
   have h2:xC (l[k]'(by omega))=false:=by
    have:=List.any_eq_false.1 hl (l[k]'(by omega)) (List.getElem_mem _)
    simpa using this
   rw [ag5 l k (by omega),List.length_append,List.length_append,zo,zv]
   simp only [xC,decide_eq_false_iff_not]at h2
   omega
def anU(l:List ByteArray)(w:World)(e:Ending)(w':World):Prop:=
 ∃v,e= .returned (.tuple #[v,.int .i64 (wE l)])∧w'.ownsRow w.heap.size 5 1 v (wB l).length (bytes (wB l))∧Ext w w'
theorem adC(w:World)(A:Option Addr)(n c:Nat)(l:List ByteArray)(hn:n=l.length)(hm:n≤9223372036854775807)(hr:Rd w 0 w.heap.size A (l.map Value.string)):
 Calls Tryz.prog 97 #[.slice A n c] w (anU l w):=by
 obtain⟨i0,hi0,hz0,hz1,hz2⟩:=info_parts aaT
 have Hn:=hiD hn
 by_cases hbig:1024 < n
 ·have hv:Hid (wE l=3∧wB l= []):=by
   have:wE l=3:=by rw [wE,if_pos (by omega)]
   exact⟨this,by rw [wB,this];rfl⟩
  clear hn
  go_enter Tryz.func97,Tryz.ntmps97
  go_wp2_with fail
  go_ret2
  exact⟨.slice none 0 0,by rw [hv.out.1];rfl,by rw [hv.out.2];exact World.ownsRow_nil _ _ _ _,Ext.refl _⟩
 ·cases hlong:l.any xC
  ·have hv:Hid (wE l=0∧wB l=acc l n):=by
    have:wE l=0:=by rw [wE,if_neg (by omega),hlong];rfl
    refine⟨this,?_⟩
    rw [wB,this,if_pos rfl,acc,List.take_of_length_le (by omega)]
    rfl
   have HL:=hiD hlong
   clear hn hlong
   go_enter Tryz.func97,Tryz.ntmps97
   go_wp2_with fail
   refine(adY w A n c 0 w.heap.size l Hn.out hm hr (Nat.le_refl _)).mono ?_
   rintro e w2 ⟨rfl,e2⟩
   rw [HL.out]
   go_wp2_with fail
   refine(qW n _ 2 (by omega) rfl w2 (by omega) (by omega)).mono ?_
   rintro e w3 ⟨v3,rfl,hown3,e3⟩
   have e4:Ext w w3:=blo
   have hown4:w3.ownsRow w.heap.size 5 1 v3 2 (bytes (acc l 0)):=by
    have h:acc l 0=zp n 2:=by rw [acc,←Hn.out];simp
    rw [h]
    exact xw hown3 e2.size
   clear hown3 e2 e3
   go_wp2_with fail
   go_loopw [4,19] (fun v i wr=> ∃k:Nat,k≤n∧i= .int .i64 k∧wr.ownsRow w.heap.size 5 1 v (acc l k).length (bytes (acc l k))∧Ext w wr) (fun _ i _=>n - (intOf i).toNat)
   case atStart=>exact⟨0,Nat.zero_le _,rfl,by have h:(acc l 0).length=2:=by simp [acc,zo]
                                              rw [h];exact hown4,e4⟩
   case round=>
    clear hown4 e4
    obtain⟨k,hk,rfl,hown,e5⟩:=hrel
    by_cases hlt:k < n
    ·obtain⟨b1,o1,rfl,_,_,f0⟩:=abL (hr.at (w':=wr) blo (Nat.le_refl _)) (k:=k) (by rw [←Hn.out];omega)
     have htx:=hiD (ag5 l k (by rw [←Hn.out];omega))
     have hlen:=ah6 l k HL.out (by rw [←Hn.out];omega)
     have hy:(l[k]'(by rw [←Hn.out];omega)).size≤65536:=by
      have:=List.any_eq_false.1 HL.out (l[k]'(by rw [←Hn.out];omega)) (List.getElem_mem _)
      simp only [xC,decide_eq_true_eq]at this
      omega
     generalize l[k]'(by rw [←Hn.out];omega)=y at *
     generalize acc l k=a0 at hlen htx hown ⊢
     go_wp2_with fail
     clear f0
     refine(qW y.size _ 3 (by omega) rfl wr (by omega) (by omega)).mono ?_
     rintro e w6 ⟨v6,rfl,hown6,e6⟩
     obtain⟨A6,c6,rfl,_,_,_⟩:=zr hown6
     have own2:=ab7 hown e6
     have e7:Ext w w6:=blo
     clear hown e5 e6
     go_wp2_with (first
      | (at_builtin
         refine qR _ rfl (.tmp 23) (.tmp 26) _ rfl 5 i0 _ 1 1 Tryz.underlying53 hi0 hz0 hz1 hz2 rfl (by omega) _ _ _ _ rfl own2 _ _ A6 3 c6 (bytes (zp y.size 3)) rfl (by rw [yS,zo]) (Rd.of_own hown6) (adI _) (by simp only [maxLen];omega) (by omega) e7.size ?_
         intro v8 w8 hown8 he8 _ _
         have e8:Ext w w8:=he8 _ e7 (Nat.le_refl _)
         clear he8 own2 e7 hown6)
      | (at_builtin
         refine Lib.wpList_append_own_string _ rfl (.tmp 28) (.tmp 29) _ _ rfl w.heap.size 5 i0 Tryz.underlying53 Tryz.underlying9 hi0 hz0 hz1 hz2 v8 _ _ rfl hown8 y rfl (by simp only [maxLen];omega) (by omega) e8.size ?_
         intro v9 w9 hown9 hg9 _
         have e9:Ext w w9:=adO e8 hown8 hg9 (Nat.le_refl _)
         clear hg9 hown8 e8))
     go_roundw
     case rel=>
      refine⟨k+1,by omega,by go_num,?_,e9⟩
      rw [htx.out,acj,acj,List.length_append,List.length_append,zo,zv]
      exact hown9
     case measure=>simp [intOf];omega
    ·go_wp2_with fail
     obtain rfl:k=n:=by omega
     go_ret2
     exact⟨_,by rw [hv.out.1];rfl,by rw [hv.out.2];exact hown,e5⟩
  ·have hv:Hid (wE l=5∧wB l= []):=by
    have:wE l=5:=by rw [wE,if_neg (by omega),hlong];rfl
    exact⟨this,by rw [wB,this];rfl⟩
   have HL:=hiD hlong
   clear hn hlong
   go_enter Tryz.func97,Tryz.ntmps97
   go_wp2_with fail
   refine(adY w A n c 0 w.heap.size l Hn.out hm hr (Nat.le_refl _)).mono ?_
   rintro e w2 ⟨rfl,e2⟩
   rw [HL.out]
   go_wp2_with fail
   go_ret2
   exact⟨.slice none 0 0,by rw [hv.out.1];rfl,by rw [hv.out.2];exact World.ownsRow_nil _ _ _ _,e2⟩
def sumR(x:Rec):Su:=⟨x.s0,x.s1,x.s2,x.s3⟩
def zl(x:Rec):List ByteArray:=
 if x.kind=1 then [x.name,zm x.frm,zm x.guid]++zW x.own
 else if x.kind=2 then [zm x.index,x.data]
 else if x.kind=3 then [zm x.index,zm x.count]
 else [⟨(qy (sumR x)).toArray⟩]
theorem ai3(w:World)(x:Rec)(hr:Rd w 0 w.heap.size x.oA (prps x.own))(hx:x.wf)(hon:x.on≤100000000)(hk:x.kind=1):
 Calls Tryz.prog 149 #[.agg x.cells.toArray] w fun e w'=> ∃v,e= .returned v∧w'.ownsRow w.heap.size 9 1 v (zl x).length ((zl x).map Value.string)∧Ext w w':=by
 obtain⟨i0,hi0,hz0,hz1,hz2⟩:=info_parts afj
 have HT:=hiD (show zl x= [x.name,zm x.frm,zm x.guid]++zW x.own by rw [zl,if_pos hk])
 have HR:=hiD hr
 have HF:=hiD hx.frm
 have HG:=hiD hx.guid
 have HOn:=hiD hx.own
 have HL:=hiD (xR x.own)
 obtain⟨kind,name,frm,guid,oA,on,oc,own,index,count,data,s0,s1,s2,s3⟩:=x
 dsimp only at hk hon HT HR HF HG HOn HL
 subst hk
 clear hr hx
 simp only [Rec.cells]
 go_enter Tryz.func149,Tryz.ntmps149
 go_upto_region 1 with fail
 generalize hwH:World.alloc w _=w1;have HH:=hiD (Heap.one hwH);clear hwH
 go_wp2_with (refine l1X HH 0 ?_)
 have HHd:=hiD HH.out.drew;clear HH;refine wp_region_held_drew (S:=Heap w [.box w.heap.size [.int .i64 1,.string name,.int .i64 frm,.int .i64 guid,.slice oA on oc,.int .i64 index,.int .i64 count,.string data,.int .u64 s0,.int .u64 s1,.int .u64 s2,.int .u64 s3]]) (by kernel_rfl) HHd.out (fun hHeld=>?_);generalize hwd:World.drew w1=wd at *;clear hwd;have HH0:=HHd;clear HHd
 refine tW 0 1 ?_
 refine tH 1 0 ?_
 refine tW 3 1 ?_
 refine tH 4 0 ?_
 refine tW 5 1 ?_
 refine tH 6 0 ?_
 refine tW 10 1 ?_
 refine tH 11 0 ?_
 clear hHeld
 have HN:=hiD (fun(W:World) (hW:Ext w W)=>(adB W oA on oc own HOn.out (by omega) (Rd.at HR.out hW (Nat.le_refl _))))
 refine aa2 2 7 rfl rfl (by kernel_rfl) (by kernel_rfl) (by kernel_rfl) (fun K hK=>?_) (fun K hK=>?_)
 ·go_simp;generalize hwA:World.alloc _ _=w2;have HH2:=hiD ((HH0).out.allocRow hwA (n:=1) (size:=1) rfl (by simp [maxLen]));clear hwA HH0
  refine hK.out _ _ ((HH2).out.only 1 rfl) (fun hHeld=>?_);clear hK K;refine lyX ?_;clear hHeld
  refine oS 7 (fun K hK=>?_)
  go_simp;generalize hwA:World.alloc _ _=w3;have HH3:=hiD ((HH2).out.allocE hwA);clear hwA HH2
  refine hK.out _ _ ((HH3).out.only 2 rfl) (fun hHeld=>?_);clear hK K;refine lyX ?_;clear hHeld
  refine oS 8 (fun K hK=>?_)
  go_simp;refine(zI w3 _ 2 2 [frm,guid] rfl ((HH3.out.boxRd 0 rfl).m0) (by omega) (by simp [HF.out,HG.out])).mono ?_;rintro e w4 ⟨vw4,rfl,hownw4,ew4⟩;obtain⟨Aw4,cw4,rfl,_,_,_⟩:=zr hownw4;have HH4:=hiD ((HH3).out.addRow ew4 hownw4);clear HH3 hownw4 ew4;go_wp2_with fail
  refine hK.out _ _ ((HH4).out.only 3 rfl) (fun hHeld=>?_);clear hK K;refine lyX ?_;clear hHeld
  refine oS 9 (fun K hK=>?_);refine zO (.tmp 9) (.tmp 15) _ rfl Tryz.underlying109 hi0 hz0 hz1 hz2 rfl (by omega) (HH4).out 2 rfl rfl (m:=2) rfl rfl (Rd.of_own ((HH4).out.rowAt 0 rfl)) (by simp [qU,Value.oneCell']) (by simp only [maxLen];omega) (by omega) ?_;rintro v5 w5 hh5 ⟨A5,c5,rfl⟩;have HH5:=hiD hh5;clear hh5 HH4;refine hK.out _ _ ((HH5).out.only 3 rfl) (fun hHeld=>?_);clear hK K;refine lyX ?_;clear hHeld;refine oS 12 (fun K hK=>?_);go_simp;refine(HN.out w5 HH5.out.ext).mono ?_;rintro e w6 ⟨vw6,rfl,hownw6,ew6⟩;obtain⟨Aw6,cw6,rfl,_,_,_⟩:=zr hownw6;have HH6:=hiD ((HH5).out.addRow ew6 hownw6);clear HH5 hownw6 ew6;go_wp2_with fail;refine hK.out _ _ ((HH6).out.only (3+1) rfl) (fun hHeld=>?_);clear hK K;refine lyX ?_;clear hHeld;refine oS 13 (fun K hK=>?_);refine zO (.tmp 16) (.tmp 19) _ rfl Tryz.underlying109 hi0 hz0 hz1 hz2 rfl (by omega) HH6.out (2+1) rfl rfl (m:=on * 2) rfl (by rw [List.length_map,HL.out,←HOn.out,Nat.mul_one]) (Rd.of_own (HH6.out.rowAt 0 rfl)) (by simp [Value.oneCell']) (by simp only [maxLen];omega) (by omega) ?_;rintro v7 w7 hh7 ⟨A7,c7,rfl⟩;have HH7:=hiD hh7;clear hh7 HH6;refine hK.out _ _ ((HH7).out.only (3+1) rfl) (fun hHeld=>?_);clear hK K;refine lyX ?_
  refine tW 14 1 ?_
  refine dnX ?_;go_wp2_with fail;go_ret;refine⟨_,rfl,?_,HH7.out.ext⟩;have h9:=HH7.out.rowAt (2+1) rfl;have hlen:(zl ⟨1,name,frm,guid,oA,on,oc,own,index,count,data,s0,s1,s2,s3⟩).length=1+2+on * 2:=(by rw [HT.out,List.length_append,HL.out,←HOn.out];rfl);rw [hlen,HT.out,List.map_append];exact h9
 ·go_simp;generalize hwA:World.alloc _ _=w2;have HH2:=hiD ((HH0).out.allocE hwA);clear hwA HH0
  refine hK.out _ _ ((HH2).out.only 1 rfl) (fun hHeld=>?_);clear hK K;refine lyX ?_;clear hHeld
  refine aa2 2 8 rfl rfl (by kernel_rfl) (by kernel_rfl) (by kernel_rfl) (fun K hK=>?_) (fun K hK=>?_)
  ·go_simp;generalize hwA:World.alloc _ _=w3;have HH3:=hiD ((HH2).out.allocRow hwA (n:=1) (size:=1) rfl (by simp [maxLen]));clear hwA HH2
   refine hK.out _ _ ((HH3).out.only 2 rfl) (fun hHeld=>?_);clear hK K;refine lyX ?_;clear hHeld
   refine oS 8 (fun K hK=>?_)
   go_simp;refine(zI w3 _ 2 2 [frm,guid] rfl ((HH3.out.boxRd 1 rfl).m0) (by omega) (by simp [HF.out,HG.out])).mono ?_;rintro e w4 ⟨vw4,rfl,hownw4,ew4⟩;obtain⟨Aw4,cw4,rfl,_,_,_⟩:=zr hownw4;have HH4:=hiD ((HH3).out.addRow ew4 hownw4);clear HH3 hownw4 ew4;go_wp2_with fail
   refine hK.out _ _ ((HH4).out.only 3 rfl) (fun hHeld=>?_);clear hK K;refine lyX ?_;clear hHeld
   refine oS 9 (fun K hK=>?_);refine zO (.tmp 9) (.tmp 15) _ rfl Tryz.underlying109 hi0 hz0 hz1 hz2 rfl (by omega) (HH4).out 1 rfl rfl (m:=2) rfl rfl (Rd.of_own ((HH4).out.rowAt 0 rfl)) (by simp [qU,Value.oneCell']) (by simp only [maxLen];omega) (by omega) ?_;rintro v5 w5 hh5 ⟨A5,c5,rfl⟩;have HH5:=hiD hh5;clear hh5 HH4;refine hK.out _ _ ((HH5).out.only 3 rfl) (fun hHeld=>?_);clear hK K;refine lyX ?_;clear hHeld;refine oS 12 (fun K hK=>?_);go_simp;refine(HN.out w5 HH5.out.ext).mono ?_;rintro e w6 ⟨vw6,rfl,hownw6,ew6⟩;obtain⟨Aw6,cw6,rfl,_,_,_⟩:=zr hownw6;have HH6:=hiD ((HH5).out.addRow ew6 hownw6);clear HH5 hownw6 ew6;go_wp2_with fail;refine hK.out _ _ ((HH6).out.only (3+1) rfl) (fun hHeld=>?_);clear hK K;refine lyX ?_;clear hHeld;refine oS 13 (fun K hK=>?_);refine zO (.tmp 16) (.tmp 19) _ rfl Tryz.underlying109 hi0 hz0 hz1 hz2 rfl (by omega) HH6.out (1+1) rfl rfl (m:=on * 2) rfl (by rw [List.length_map,HL.out,←HOn.out,Nat.mul_one]) (Rd.of_own (HH6.out.rowAt 0 rfl)) (by simp [Value.oneCell']) (by simp only [maxLen];omega) (by omega) ?_;rintro v7 w7 hh7 ⟨A7,c7,rfl⟩;have HH7:=hiD hh7;clear hh7 HH6;refine hK.out _ _ ((HH7).out.only (3+1) rfl) (fun hHeld=>?_);clear hK K;refine lyX ?_
   refine tW 14 1 ?_
   refine dnX ?_;go_wp2_with fail;go_ret;refine⟨_,rfl,?_,HH7.out.ext⟩;have h9:=HH7.out.rowAt (1+1) rfl;have hlen:(zl ⟨1,name,frm,guid,oA,on,oc,own,index,count,data,s0,s1,s2,s3⟩).length=1+2+on * 2:=(by rw [HT.out,List.length_append,HL.out,←HOn.out];rfl);rw [hlen,HT.out,List.map_append];exact h9
  ·go_simp;refine(zI w2 _ 2 2 [frm,guid] rfl ((HH2.out.boxRd 0 rfl).m0) (by omega) (by simp [HF.out,HG.out])).mono ?_;rintro e w3 ⟨vw3,rfl,hownw3,ew3⟩;obtain⟨Aw3,cw3,rfl,_,_,_⟩:=zr hownw3;have HH3:=hiD ((HH2).out.addRow ew3 hownw3);clear HH2 hownw3 ew3;go_wp2_with fail
   refine hK.out _ _ ((HH3).out.only 2 rfl) (fun hHeld=>?_);clear hK K;refine lyX ?_;clear hHeld
   refine oS 2 (fun K hK=>?_)
   go_simp;generalize hwA:World.alloc _ _=w4;have HH4:=hiD ((HH3).out.allocRow hwA (n:=1) (size:=1) rfl (by simp [maxLen]));clear hwA HH3
   refine hK.out _ _ ((HH4).out.only 3 rfl) (fun hHeld=>?_);clear hK K;refine lyX ?_;clear hHeld
   refine oS 9 (fun K hK=>?_);refine zO (.tmp 9) (.tmp 15) _ rfl Tryz.underlying109 hi0 hz0 hz1 hz2 rfl (by omega) (HH4).out 0 rfl rfl (m:=2) rfl rfl (Rd.of_own ((HH4).out.rowAt 1 rfl)) (by simp [qU,Value.oneCell']) (by simp only [maxLen];omega) (by omega) ?_;rintro v5 w5 hh5 ⟨A5,c5,rfl⟩;have HH5:=hiD hh5;clear hh5 HH4;refine hK.out _ _ ((HH5).out.only 3 rfl) (fun hHeld=>?_);clear hK K;refine lyX ?_;clear hHeld;refine oS 12 (fun K hK=>?_);go_simp;refine(HN.out w5 HH5.out.ext).mono ?_;rintro e w6 ⟨vw6,rfl,hownw6,ew6⟩;obtain⟨Aw6,cw6,rfl,_,_,_⟩:=zr hownw6;have HH6:=hiD ((HH5).out.addRow ew6 hownw6);clear HH5 hownw6 ew6;go_wp2_with fail;refine hK.out _ _ ((HH6).out.only (3+1) rfl) (fun hHeld=>?_);clear hK K;refine lyX ?_;clear hHeld;refine oS 13 (fun K hK=>?_);refine zO (.tmp 16) (.tmp 19) _ rfl Tryz.underlying109 hi0 hz0 hz1 hz2 rfl (by omega) HH6.out (0+1) rfl rfl (m:=on * 2) rfl (by rw [List.length_map,HL.out,←HOn.out,Nat.mul_one]) (Rd.of_own (HH6.out.rowAt 0 rfl)) (by simp [Value.oneCell']) (by simp only [maxLen];omega) (by omega) ?_;rintro v7 w7 hh7 ⟨A7,c7,rfl⟩;have HH7:=hiD hh7;clear hh7 HH6;refine hK.out _ _ ((HH7).out.only (3+1) rfl) (fun hHeld=>?_);clear hK K;refine lyX ?_
   refine tW 14 1 ?_
   refine dnX ?_;go_wp2_with fail;go_ret;refine⟨_,rfl,?_,HH7.out.ext⟩;have h9:=HH7.out.rowAt (0+1) rfl;have hlen:(zl ⟨1,name,frm,guid,oA,on,oc,own,index,count,data,s0,s1,s2,s3⟩).length=1+2+on * 2:=(by rw [HT.out,List.length_append,HL.out,←HOn.out];rfl);rw [hlen,HT.out,List.map_append];exact h9
theorem aiQ(w:World)(x:Rec)(hx:x.wf)(hk:x.kind=2):
 Calls Tryz.prog 149 #[.agg x.cells.toArray] w fun e w'=> ∃v,e= .returned v∧w'.ownsRow w.heap.size 9 1 v (zl x).length ((zl x).map Value.string)∧Ext w w':=by
 obtain⟨i0,hi0,hz0,hz1,hz2⟩:=info_parts afj
 have HT:=hiD (show zl x= [zm x.index,x.data]by rw [zl,if_neg (by omega),if_pos hk])
 have HF:=hiD hx.index
 obtain⟨kind,name,frm,guid,oA,on,oc,own,index,count,data,s0,s1,s2,s3⟩:=x
 dsimp only at hk HT HF
 subst hk
 clear hx
 simp only [Rec.cells]
 go_enter Tryz.func149,Tryz.ntmps149
 go_upto_region 1 with fail
 generalize hwH:World.alloc w _=w1;have HH:=hiD (Heap.one hwH);clear hwH
 go_wp2_with (refine l1X HH 0 ?_)
 have HHd:=hiD HH.out.drew;clear HH;refine wp_region_held_drew (S:=Heap w [.box w.heap.size [.int .i64 2,.string name,.int .i64 frm,.int .i64 guid,.slice oA on oc,.int .i64 index,.int .i64 count,.string data,.int .u64 s0,.int .u64 s1,.int .u64 s2,.int .u64 s3]]) (by kernel_rfl) HHd.out (fun hHeld=>?_);generalize hwd:World.drew w1=wd at *;clear hwd;have HH0:=HHd;clear HHd
 refine tW 0 1 ?_
 refine tH 1 0 ?_
 refine tW 4 1 ?_
 refine tH 5 0 ?_
 clear hHeld
 refine aa2 2 6 rfl rfl (by kernel_rfl) (by kernel_rfl) (by kernel_rfl) (fun K hK=>?_) (fun K hK=>?_)
 ·go_simp;generalize hwA:World.alloc _ _=w2;have HH2:=hiD ((HH0).out.allocE hwA);clear hwA HH0
  refine hK.out _ _ ((HH2).out.only 1 rfl) (fun hHeld=>?_);clear hK K;refine lyX ?_;clear hHeld
  refine aa2 3 6 rfl rfl (by kernel_rfl) (by kernel_rfl) (by kernel_rfl) (fun K hK=>?_) (fun K hK=>?_)
  ·go_simp;refine(zI w2 _ 1 1 [index] rfl ((HH2.out.boxRd 0 rfl).m0) (by omega) (by simp [HF.out])).mono ?_;rintro e w3 ⟨vw3,rfl,hownw3,ew3⟩;obtain⟨Aw3,cw3,rfl,_,_,_⟩:=zr hownw3;have HH3:=hiD ((HH2).out.addRow ew3 hownw3);clear HH2 hownw3 ew3;go_wp2_with fail
   refine hK.out _ _ ((HH3).out.only 2 rfl) (fun hHeld=>?_);clear hK K;refine lyX ?_;clear hHeld
   refine oS 6 (fun K hK=>?_)
   go_simp;generalize hwA:World.alloc _ _=w4;have HH4:=hiD ((HH3).out.allocRow hwA (n:=1) (size:=1) rfl (by simp [maxLen]));clear hwA HH3
   refine hK.out _ _ ((HH4).out.only 3 rfl) (fun hHeld=>?_);clear hK K;refine lyX ?_;clear hHeld
   refine oS 7 (fun K hK=>?_);refine zO (.tmp 26) (.tmp 29) _ rfl Tryz.underlying109 hi0 hz0 hz1 hz2 rfl (by omega) (HH4).out 1 rfl rfl (m:=1) rfl rfl (Rd.of_own ((HH4).out.rowAt 0 rfl)) (by simp [Value.oneCell']) (by simp only [maxLen];omega) (by omega) ?_;rintro v5 w5 hh5 ⟨A5,c5,rfl⟩;have HH5:=hiD hh5;clear hh5 HH4;refine hK.out _ _ ((HH5).out.only 3 rfl) (fun hHeld=>?_);clear hK K;refine lyX ?_
   refine tW 8 1 ?_
   refine dnX ?_;go_wp2_with fail;go_ret;refine⟨_,rfl,?_,HH5.out.ext⟩;have h9:=HH5.out.rowAt 1 rfl;rw [HT.out];exact h9
  ·go_simp;generalize hwA:World.alloc _ _=w3;have HH3:=hiD ((HH2).out.allocRow hwA (n:=1) (size:=1) rfl (by simp [maxLen]));clear hwA HH2
   refine hK.out _ _ ((HH3).out.only 2 rfl) (fun hHeld=>?_);clear hK K;refine lyX ?_;clear hHeld
   refine oS 3 (fun K hK=>?_)
   go_simp;refine(zI w3 _ 1 1 [index] rfl ((HH3.out.boxRd 1 rfl).m0) (by omega) (by simp [HF.out])).mono ?_;rintro e w4 ⟨vw4,rfl,hownw4,ew4⟩;obtain⟨Aw4,cw4,rfl,_,_,_⟩:=zr hownw4;have HH4:=hiD ((HH3).out.addRow ew4 hownw4);clear HH3 hownw4 ew4;go_wp2_with fail
   refine hK.out _ _ ((HH4).out.only 3 rfl) (fun hHeld=>?_);clear hK K;refine lyX ?_;clear hHeld
   refine oS 7 (fun K hK=>?_);refine zO (.tmp 26) (.tmp 29) _ rfl Tryz.underlying109 hi0 hz0 hz1 hz2 rfl (by omega) (HH4).out 0 rfl rfl (m:=1) rfl rfl (Rd.of_own ((HH4).out.rowAt 1 rfl)) (by simp [Value.oneCell']) (by simp only [maxLen];omega) (by omega) ?_;rintro v5 w5 hh5 ⟨A5,c5,rfl⟩;have HH5:=hiD hh5;clear hh5 HH4;refine hK.out _ _ ((HH5).out.only 3 rfl) (fun hHeld=>?_);clear hK K;refine lyX ?_
   refine tW 8 1 ?_
   refine dnX ?_;go_wp2_with fail;go_ret;refine⟨_,rfl,?_,HH5.out.ext⟩;have h9:=HH5.out.rowAt 0 rfl;rw [HT.out];exact h9
 ·go_simp;generalize hwA:World.alloc _ _=w2;have HH2:=hiD ((HH0).out.allocRow hwA (n:=1) (size:=1) rfl (by simp [maxLen]));clear hwA HH0
  refine hK.out _ _ ((HH2).out.only 1 rfl) (fun hHeld=>?_);clear hK K;refine lyX ?_;clear hHeld
  refine oS 2 (fun K hK=>?_)
  go_simp;generalize hwA:World.alloc _ _=w3;have HH3:=hiD ((HH2).out.allocE hwA);clear hwA HH2
  refine hK.out _ _ ((HH3).out.only 2 rfl) (fun hHeld=>?_);clear hK K;refine lyX ?_;clear hHeld
  refine oS 3 (fun K hK=>?_)
  go_simp;refine(zI w3 _ 1 1 [index] rfl ((HH3.out.boxRd 0 rfl).m0) (by omega) (by simp [HF.out])).mono ?_;rintro e w4 ⟨vw4,rfl,hownw4,ew4⟩;obtain⟨Aw4,cw4,rfl,_,_,_⟩:=zr hownw4;have HH4:=hiD ((HH3).out.addRow ew4 hownw4);clear HH3 hownw4 ew4;go_wp2_with fail
  refine hK.out _ _ ((HH4).out.only 3 rfl) (fun hHeld=>?_);clear hK K;refine lyX ?_;clear hHeld
  refine oS 7 (fun K hK=>?_);refine zO (.tmp 26) (.tmp 29) _ rfl Tryz.underlying109 hi0 hz0 hz1 hz2 rfl (by omega) (HH4).out 0 rfl rfl (m:=1) rfl rfl (Rd.of_own ((HH4).out.rowAt 2 rfl)) (by simp [Value.oneCell']) (by simp only [maxLen];omega) (by omega) ?_;rintro v5 w5 hh5 ⟨A5,c5,rfl⟩;have HH5:=hiD hh5;clear hh5 HH4;refine hK.out _ _ ((HH5).out.only 3 rfl) (fun hHeld=>?_);clear hK K;refine lyX ?_
  refine tW 8 1 ?_
  refine dnX ?_;go_wp2_with fail;go_ret;refine⟨_,rfl,?_,HH5.out.ext⟩;have h9:=HH5.out.rowAt 0 rfl;rw [HT.out];exact h9
theorem ai0(w:World)(x:Rec)(hx:x.wf)(hk:x.kind=3):
 Calls Tryz.prog 149 #[.agg x.cells.toArray] w fun e w'=> ∃v,e= .returned v∧w'.ownsRow w.heap.size 9 1 v (zl x).length ((zl x).map Value.string)∧Ext w w':=by
 have HT:=hiD (show zl x= [zm x.index,zm x.count]by rw [zl,if_neg (by omega),if_neg (by omega),if_pos hk])
 have HF:=hiD hx.index
 have HG:=hiD hx.count
 obtain⟨kind,name,frm,guid,oA,on,oc,own,index,count,data,s0,s1,s2,s3⟩:=x
 dsimp only at hk HT HF HG
 subst hk
 clear hx
 simp only [Rec.cells]
 go_enter Tryz.func149,Tryz.ntmps149
 go_upto_region 1 with fail
 generalize hwH:World.alloc w _=w1;have HH:=hiD (Heap.one hwH);clear hwH
 go_wp2_with (refine l1X HH 0 ?_)
 generalize hwA:World.alloc _ _=w2
 have HH2:=hiD (HH.out.allocE hwA)
 clear hwA HH
 refine(zI w2 _ 2 2 [index,count] rfl ((HH2.out.boxRd 0 rfl).m0) (by omega) (by simp [HF.out,HG.out])).mono ?_
 rintro e w3 ⟨v3,rfl,hown3,e3⟩
 have HO:=hiD (xw hown3 HH2.out.ext.size)
 have HX:=hiD (HH2.out.ext.trans e3)
 clear hown3 e3
 go_wp2_with fail
 go_ret
 refine⟨_,rfl,?_,HX.out⟩
 rw [HT.out]
 exact HO.out
theorem aiV(w:World)(x:Rec)(hs:(sumR x).wf)(h1:x.kind≠1)(h2:x.kind≠2)(h3:x.kind≠3):
 Calls Tryz.prog 149 #[.agg x.cells.toArray] w fun e w'=> ∃v,e= .returned v∧w'.ownsRow w.heap.size 9 1 v (zl x).length ((zl x).map Value.string)∧Ext w w':=by
 have HT:=hiD (show zl x= [⟨(qy (sumR x)).toArray⟩]by rw [zl,if_neg h1,if_neg h2,if_neg h3])
 obtain⟨kind,name,frm,guid,oA,on,oc,own,index,count,data,s0,s1,s2,s3⟩:=x
 dsimp only at h1 h2 h3 HT
 have d1:(kind == 1)=false:=by simpa using h1
 have d2:(kind == 2)=false:=by simpa using h2
 have d3:(kind == 3)=false:=by simpa using h3
 have HC:=hiD (fun W=>show Calls Tryz.prog 93 #[.agg #[.int .u64 s0,.int .u64 s1,.int .u64 s2,.int .u64 s3]] W fun e w'=> ∃v,e= .returned v∧w'.ownsRow W.heap.size 5 1 v 32 (bytes (qy (sumR ⟨kind,name,frm,guid,oA,on,oc,own,index,count,data,s0,s1,s2,s3⟩)))∧Ext W w' from ae8 ⟨s0,s1,s2,s3⟩ W hs)
 have HL:=hiD (aak (sumR ⟨kind,name,frm,guid,oA,on,oc,own,index,count,data,s0,s1,s2,s3⟩))
 generalize hO:qy (sumR ⟨kind,name,frm,guid,oA,on,oc,own,index,count,data,s0,s1,s2,s3⟩)=O at *
 clear hO hs h1 h2 h3
 simp only [Rec.cells]
 go_enter Tryz.func149,Tryz.ntmps149
 go_upto_region 1 with fail
 generalize hwH:World.alloc w _=w1;have HH:=hiD (Heap.one hwH);clear hwH
 go_wp2_with (first | (refine l1X HH 0 ?_) | (refine lSX HH qw 0 ?_))
 refine(HC.out w1).mono ?_
 rintro e w2 ⟨v2,rfl,hown2,e2⟩
 obtain⟨A2,c2,rfl,_,_,_⟩:=zr hown2
 have hcv:=qB (P:=Tryz.prog) w2 53 9 5 Tryz.underlying53 Tryz.underlying5 Tryz.underlying9 _ _ A2 32 c2 O HL.out.symm (Rd.of_own hown2)
 have HX:=hiD (HH.out.ext.trans e2)
 clear hown2 e2 HH
 go_wp2_with fail
 go_ret
 refine⟨_,rfl,?_,HX.out.trans ((Ext.refl _).alloc _)⟩
 rw [HT.out]
 exact xw (World.ownsRow_lit w2 #[.string ⟨O.toArray⟩] 1 (Nat.le_refl _) (by simp [maxLen]) rfl) HX.out.size
theorem aka(w:World)(x:Rec)(hr:Rd w 0 w.heap.size x.oA (prps x.own))(hx:x.wf)(hon:x.on≤100000000)(hs:(sumR x).wf):
 Calls Tryz.prog 149 #[.agg x.cells.toArray] w fun e w'=> ∃v,e= .returned v∧w'.ownsRow w.heap.size 9 1 v (zl x).length ((zl x).map Value.string)∧Ext w w':=by
 by_cases h1:x.kind=1
 ·exact ai3 w x hr hx hon h1
 ·by_cases h2:x.kind=2
  ·exact aiQ w x hx h2
  ·by_cases h3:x.kind=3
   ·exact ai0 w x hx h3
   ·exact aiV w x hs h1 h2 h3
theorem aa4(z:Int):(zm z).size=8:=by
 show(zp z 8).toArray.size=8
 rw [List.size_toArray,zo]
theorem aaV(xs:List Prp)(h:prE xs=0):xs.length≤8∧ ∀x∈xs,x.name.size≤16∧x.value.size≤32:=by
 have h8: ¬8 < xs.length:=fun h'=>by rw [prE,if_pos h']at h;cases h
 have hb:aaz xs xs.length=false:=by
  rw [prE,if_neg h8]at h
  cases hq:aaz xs xs.length with
  | false=>rfl
  | true=>rw [hq]at h;cases h
 refine⟨by omega,fun x hx=>?_⟩
 obtain⟨k,hk,rfl⟩:=List.getElem_of_mem hx
 have hbk:qD xs k=false:=by
  cases hq:qD xs k with
  | false=>rfl
  | true=>rw [ads xs k _ hk hq]at hb;cases hb
 simp only [qD,Bool.or_eq_false_iff,Bool.not_eq_false']at hbk
 have h1:=hbk.1.1
 have h2:=hbk.1.2
 simp only [zd,aaO,Bool.and_eq_true,decide_eq_true_eq]at h1 h2
 have e1:nm xs k=xs[k].name:=by simp [nm,hk]
 have e2:vl xs k=xs[k].value:=by simp [vl,hk]
 rw [e1]at h1
 rw [e2]at h2
 exact⟨h1.1.2,h2.1⟩
theorem acP(x:Rec)(h:yJ x=0):(zl x).length≤19∧ ∀s∈zl x,s.size≤32:=by
 have hm:yv x=true:=by
  unfold yJ at h
  split at h
  ·cases h
  ·split at h
   ·assumption
   ·cases h
 unfold yv at hm
 unfold zl
 by_cases h1:x.kind=1
 ·rw [if_pos h1]at hm ⊢
  simp only [Bool.and_eq_true,decide_eq_true_eq]at hm
  have hn:x.name.size≤16:=by
   have:=hm.1.1.1.1.1.1.1.1.1
   simp only [zd,Bool.and_eq_true,decide_eq_true_eq]at this
   exact this.1.2
  obtain⟨hp1,hp2⟩:=aaV x.own hm.1.1.1.1.2
  refine⟨by rw [List.length_append,xR];simp;omega,fun s hs=>?_⟩
  rcases List.mem_append.1 hs with hs | hs
  ·simp only [List.mem_cons,List.not_mem_nil,or_false]at hs
   rcases hs with rfl | rfl | rfl
   ·omega
   ·rw [aa4];omega
   ·rw [aa4];omega
  ·simp only [zW,List.mem_flatMap,List.mem_cons,List.not_mem_nil,or_false]at hs
   obtain⟨p,hp,rfl | rfl⟩:=hs
   ·have:=(hp2 p hp).1;omega
   ·exact(hp2 p hp).2
 ·rw [if_neg h1]at hm ⊢
  by_cases h2:x.kind=2
  ·rw [if_pos h2]at hm ⊢
   simp only [Bool.and_eq_true,decide_eq_true_eq]at hm
   have hd:x.data.size=16:=hm.1.1.1.1.1.1.2
   refine⟨by simp,fun s hs=>?_⟩
   simp only [List.mem_cons,List.not_mem_nil,or_false]at hs
   rcases hs with rfl | rfl
   ·rw [aa4];omega
   ·omega
  ·rw [if_neg h2]at hm ⊢
   by_cases h3:x.kind=3
   ·rw [if_pos h3]at hm ⊢
    refine⟨by simp,fun s hs=>?_⟩
    simp only [List.mem_cons,List.not_mem_nil,or_false]at hs
    rcases hs with rfl | rfl <;> (rw [aa4];omega)
   ·rw [if_neg h3]at hm ⊢
    refine⟨by simp,fun s hs=>?_⟩
    simp only [List.mem_cons,List.not_mem_nil,or_false]at hs
    subst hs
    show(qy (sumR x)).toArray.size≤32
    rw [List.size_toArray,aak]
    exact Nat.le_refl _
theorem adP(x:Rec)(h:yJ x=0):wE (zl x)=0:=by
 obtain⟨h1,h2⟩:=acP x h
 rw [wE,if_neg (by omega),if_neg]
 intro hq
 obtain⟨s,hs,hl⟩:=List.any_eq_true.1 hq
 have:=h2 s hs
 simp only [xC,decide_eq_true_eq]at hl
 omega
theorem ahT(x:Rec)(h:yJ x=0):1≤x.kind∧x.kind≤4:=by
 unfold yJ at h
 split at h
 ·cases h
 ·omega
theorem amK(l:List ByteArray)(h: ∀s∈l,s.size≤32):(zu l).length≤2+l.length * 35:=by
 unfold zu
 rw [List.length_append,zo]
 suffices (l.flatMap one).length≤l.length * 35 by omega
 induction l with
 | nil=>simp
 | cons s l ih=>
   have h1:=h s (by simp)
   have h2:=ih (fun t ht=>h t (by simp [ht]))
   have h3:(one s).length≤35:=by
    simp only [one,List.length_append,zo]
    have:s.data.toList.length=s.size:=Array.length_toList
    omega
   simp only [List.flatMap_cons,List.length_append,List.length_cons]
   omega
def yh(x:Rec):List UInt8:=if yJ x=0 then [UInt8.ofNat x.kind.toNat]++zp (wB (zl x)).length 2++wB (zl x)else []
theorem aeW(x:Rec):(yh x).length≤1000:=by
 unfold yh
 split
 ·rename_i h
  obtain⟨h1,h2⟩:=acP x h
  have h3:=amK (zl x) h2
  rw [wB,if_pos (adP x h)]
  simp only [List.length_append,zo,List.length_cons,List.length_nil]
  omega
 ·simp
def adh(x:Rec)(w:World)(e:Ending)(w':World):Prop:=
 ∃v,e= .returned (.tuple #[v,.int .i64 (yJ x)])∧w'.ownsRow w.heap.size 5 1 v (yh x).length (bytes (yh x))∧Ext w w'
theorem ze:(Tryz.prog.info? 46).map (·.size)=some 12:=by kernel_rfl
theorem ao2(k:Int)(h:1≤k∧k≤4):bytes [UInt8.ofNat k.toNat]= [.int .u8 (IntKind.u8.wrap k)]:=by
 rcases(show k=1∨k=2∨k=3∨k=4 by omega)with rfl | rfl | rfl | rfl <;> rfl
theorem ahk(w:World)(x:Rec)(hr:Rd w 0 w.heap.size x.oA (prps x.own))(hx:x.wf)(hon:x.on≤100000000)(hs:(sumR x).wf)(hE:yJ x=0):
 Calls Tryz.prog 92 #[.agg x.cells.toArray] w (adh x w):=by
 have HCk:=hiD (fun W (hW:Ext w W)=>ad0 W x (Rd.at hr hW (Nat.le_refl _)) hx)
 have HTx:=hiD (fun W (hW:Ext w W)=>aka W x (Rd.at hr hW (Nat.le_refl _)) hx hon hs)
 have HFit:=hiD (adP x hE)
 have hk:=ahT x hE
 have HEl:=hiD (aeW x)
 have HSm:=hiD (acP x hE)
 have HB:=hiD (show yh x= [UInt8.ofNat x.kind.toNat]++zp (wB (zl x)).length 2++wB (zl x)by rw [yh,if_pos hE])
 have HOut:=hiD (fun(e:Ending) (w':World) (h: ∃v,e= .returned (.tuple #[v,.int .i64 0])∧w'.ownsRow w.heap.size 5 1 v (yh x).length (bytes (yh x))∧Ext w w')=>show adh x w e w' by
  obtain⟨v,h1,h2⟩:=h
  exact⟨v,by rw [hE];exact h1,h2⟩)
 rw [hE]at HCk
 clear hr hx hs hE
 obtain⟨B,hB⟩: ∃B,B=yh x:=⟨_,rfl⟩
 rw [←hB]at HEl HB HOut
 obtain⟨tx,htx⟩: ∃tx,tx=zl x:=⟨_,rfl⟩
 rw [←htx]at HTx HFit HSm HB
 obtain⟨OUT,hOUT⟩: ∃OUT:Ending→World→Prop,OUT=adh x w:=⟨_,rfl⟩
 rw [←hOUT]at HOut ⊢
 clear hB htx hOUT
 obtain⟨kind,name,frm,guid,oA,on,oc,own,index,count,data,s0,s1,s2,s3⟩:=x
 simp only [Rec.cells]at HCk HTx ⊢
 dsimp only at hk HB hon
 have HKO:=hiD (ao2 kind hk)
 obtain⟨i0,hi0,hz0,hz1,hz2⟩:=info_parts aaT
 obtain⟨hk1,hk2⟩:=hk
 go_enter Tryz.func92,Tryz.ntmps92
 go_upto_region 1 with fail
 generalize hwH:World.alloc w _=w1;have HH:=hiD (Heap.one hwH);clear hwH
 go_wp2_with (refine lSX HH ze 0 ?_)
 refine cX HH (HCk.out w1 HH.out.ext) ?_
 clear HH
 intro w2 HH2
 have HH:=HH2
 clear HH2
 go_wp2_with (refine lSX HH ze 0 ?_)
 refine(HTx.out w2 HH.out.ext).mono ?_
 rintro e w3 ⟨v3,rfl,hown3,e3⟩
 obtain⟨A3,c3,rfl,_,_,_⟩:=zr hown3
 have HH3:=hiD (HH.out.addRow e3 hown3)
 clear HH hown3 e3
 have hsm:=HSm.out.1
 have HWr:=hiD (adC w3 A3 tx.length c3 tx rfl (by omega) ((Rd.of_own (HH3.out.rowAt 0 rfl)).m0))
 clear hsm
 go_wp2_with fail
 refine HWr.out.mono ?_
 rintro e w4 ⟨v4,rfl,hown4,e4⟩
 obtain⟨A4,c4,rfl,_,_,_⟩:=zr hown4
 have HH4:=hiD (HH3.out.addRow e4 hown4)
 clear HH3 hown4 e4 HWr
 rw [HFit.out]
 have hlen:(wB tx).length≤1000:=by have:=HEl.out;rw [HB.out,List.length_append,List.length_append]at this;omega
 have HLt:=hiD (show B.length=1+2+(wB tx).length by rw [HB.out,List.length_append,List.length_append,zo];rfl)
 generalize wB tx=bs at *
 obtain⟨m,hm⟩: ∃m,m=bs.length:=⟨_,rfl⟩
 rw [←hm]at HH4 HB HLt hlen ⊢
 have HM:=hiD hm
 clear hm
 have hkb:kind % 256=kind:=by omega
 have HH:=HH4
 clear HH4
 go_wp2_with fail
 have HL:Heap w [.box w.heap.size [.int .i64 kind,.string name,.int .i64 frm,.int .i64 guid,.slice oA on oc,.int .i64 index,.int .i64 count,.string data,.int .u64 s0,.int .u64 s1,.int .u64 s2,.int .u64 s3]] w4.drew:=(HH.out.only 2 rfl).drew
 refine wp_region_held_drew (S:=Heap w [.box w.heap.size [.int .i64 kind,.string name,.int .i64 frm,.int .i64 guid,.slice oA on oc,.int .i64 index,.int .i64 count,.string data,.int .u64 s0,.int .u64 s1,.int .u64 s2,.int .u64 s3]]) (by kernel_rfl) HL (fun hHeld=>?_)
 have HH0:=hiD HH.out.drew
 clear HH HL
 generalize hwd:World.drew w4=wd at *
 clear hwd
 refine tW 0 1 ?_
 refine tH 1 0 ?_
 refine tW 2 1 ?_
 refine tW 4 2 ?_
 refine tW 7 1 ?_
 clear hHeld
 refine aa2 3 6 rfl rfl (by kernel_rfl) (by kernel_rfl) (by kernel_rfl) (fun K hK=>?_) (fun K hK=>?_)
 ·go_simp;generalize hwA:World.alloc _ _=w5;have HH5:=hiD ((HH0).out.allocRow hwA (n:=1) (size:=1) rfl (by simp [maxLen]));clear hwA HH0
  refine hK.out _ _ ((HH5).out.only 3 rfl) (fun hHeld=>?_);clear hK K;refine lyX ?_;clear hHeld
  refine oS 6 (fun K hK=>?_)
  go_simp;refine(qW (m:Int) _ 2 (by omega) rfl w5 (by omega) (by omega)).mono ?_;rintro e w6 ⟨vw6,rfl,hownw6,ew6⟩;obtain⟨Aw6,cw6,rfl,_,_,_⟩:=zr hownw6;have HH6:=hiD ((HH5).out.addRow ew6 hownw6);clear HH5 hownw6 ew6;go_wp2_with fail
  refine hK.out _ _ ((HH6).out.only 4 rfl) (fun hHeld=>?_);clear hK K;refine lyX ?_;clear hHeld
  refine oS 8 (fun K hK=>?_);go_simp;generalize hwA:World.alloc _ _=w7;have HH7:=hiD ((HH6).out.allocE hwA);clear hwA HH6;refine hK.out _ _ ((HH7).out.only 5 rfl) (fun hHeld=>?_);clear hK K;refine lyX ?_;clear hHeld;refine oS 9 (fun K hK=>?_);go_simp;refine(acs w7 _ 3 3 [⟨(some ⟨wd.heap.size,0,none⟩),1,1, [UInt8.ofNat kind.toNat]⟩,⟨Aw6,2,cw6,zp (m:Int) 2⟩,⟨A4,m,c4,bs⟩] rfl ((HH7.out.boxRd 0 rfl).m0) (fun x hx=>(by simp only [List.mem_cons,List.not_mem_nil,or_false]at hx;rcases hx with rfl | rfl | rfl;exact⟨rfl,by rw [HKO.out];exact(Rd.of_own (HH7.out.rowAt 2 rfl)).m0⟩;exact⟨(zo _ _).symm,(Rd.of_own (HH7.out.rowAt 1 rfl)).m0⟩;exact⟨HM.out,(Rd.of_own (HH7.out.rowAt 3 rfl)).m0⟩)) (by omega) (by simp only [zV,List.flatMap_cons,List.flatMap_nil,List.length_append,List.length_cons,List.length_nil,zo,←HM.out];omega)).mono ?_;rintro e w8 ⟨v8,rfl,hown8,e8⟩;have HO:=hiD (xw hown8 HH7.out.ext.size);have HX:=hiD (HH7.out.ext.trans e8);have HS8:=hiD (HH7.out.later e8);clear hown8 e8;go_wp2_with fail;refine hK.out _ _ ((HS8).out.only 5 rfl) (fun hHeld=>?_);clear hK K;refine lyX ?_
  refine tW 10 2 ?_
  refine dnX ?_;go_wp2_with fail;refine HOut.out _ _ ⟨_,rfl,?_,HX.out⟩;have h9:=HO.out;have hc:zV [⟨(some ⟨wd.heap.size,0,none⟩),1,1, [UInt8.ofNat kind.toNat]⟩,⟨Aw6,2,cw6,zp (m:Int) 2⟩,⟨A4,m,c4,bs⟩]=B:=(by rw [HB.out];simp [zV,List.append_assoc]);rw [hc]at h9;exact h9
 ·go_simp;refine(qW (m:Int) _ 2 (by omega) rfl wd (by omega) (by omega)).mono ?_;rintro e w5 ⟨vw5,rfl,hownw5,ew5⟩;obtain⟨Aw5,cw5,rfl,_,_,_⟩:=zr hownw5;have HH5:=hiD ((HH0).out.addRow ew5 hownw5);clear HH0 hownw5 ew5;go_wp2_with fail
  refine hK.out _ _ ((HH5).out.only 3 rfl) (fun hHeld=>?_);clear hK K;refine lyX ?_;clear hHeld
  refine oS 3 (fun K hK=>?_)
  go_simp;generalize hwA:World.alloc _ _=w6;have HH6:=hiD ((HH5).out.allocRow hwA (n:=1) (size:=1) rfl (by simp [maxLen]));clear hwA HH5
  refine hK.out _ _ ((HH6).out.only 4 rfl) (fun hHeld=>?_);clear hK K;refine lyX ?_;clear hHeld
  refine oS 8 (fun K hK=>?_);go_simp;generalize hwA:World.alloc _ _=w7;have HH7:=hiD ((HH6).out.allocE hwA);clear hwA HH6;refine hK.out _ _ ((HH7).out.only 5 rfl) (fun hHeld=>?_);clear hK K;refine lyX ?_;clear hHeld;refine oS 9 (fun K hK=>?_);go_simp;refine(acs w7 _ 3 3 [⟨(some ⟨w5.heap.size,0,none⟩),1,1, [UInt8.ofNat kind.toNat]⟩,⟨Aw5,2,cw5,zp (m:Int) 2⟩,⟨A4,m,c4,bs⟩] rfl ((HH7.out.boxRd 0 rfl).m0) (fun x hx=>(by simp only [List.mem_cons,List.not_mem_nil,or_false]at hx;rcases hx with rfl | rfl | rfl;exact⟨rfl,by rw [HKO.out];exact(Rd.of_own (HH7.out.rowAt 1 rfl)).m0⟩;exact⟨(zo _ _).symm,(Rd.of_own (HH7.out.rowAt 2 rfl)).m0⟩;exact⟨HM.out,(Rd.of_own (HH7.out.rowAt 3 rfl)).m0⟩)) (by omega) (by simp only [zV,List.flatMap_cons,List.flatMap_nil,List.length_append,List.length_cons,List.length_nil,zo,←HM.out];omega)).mono ?_;rintro e w8 ⟨v8,rfl,hown8,e8⟩;have HO:=hiD (xw hown8 HH7.out.ext.size);have HX:=hiD (HH7.out.ext.trans e8);have HS8:=hiD (HH7.out.later e8);clear hown8 e8;go_wp2_with fail;refine hK.out _ _ ((HS8).out.only 5 rfl) (fun hHeld=>?_);clear hK K;refine lyX ?_
  refine tW 10 2 ?_
  refine dnX ?_;go_wp2_with fail;refine HOut.out _ _ ⟨_,rfl,?_,HX.out⟩;have h9:=HO.out;have hc:zV [⟨(some ⟨w5.heap.size,0,none⟩),1,1, [UInt8.ofNat kind.toNat]⟩,⟨Aw5,2,cw5,zp (m:Int) 2⟩,⟨A4,m,c4,bs⟩]=B:=(by rw [HB.out];simp [zV,List.append_assoc]);rw [hc]at h9;exact h9
theorem ahs(w:World)(x:Rec)(hr:Rd w 0 w.heap.size x.oA (prps x.own))(hx:x.wf)(hE:yJ x≠0):
 Calls Tryz.prog 92 #[.agg x.cells.toArray] w (adh x w):=by
 have HCk:=hiD (fun W (hW:Ext w W)=>ad0 W x (Rd.at hr hW (Nat.le_refl _)) hx)
 have HOut:=hiD (fun(e:Ending) (w':World) (h:e= .returned (.tuple #[.slice none 0 0,.int .i64 (yJ x)])∧Ext w w')=>show adh x w e w' from
  ⟨_,h.1,by rw [yh,if_neg hE];exact World.ownsRow_nil _ _ _ _,h.2⟩)
 have d1:(yJ x != 0)=true:=by simpa using hE
 clear hr hx hE
 generalize yJ x=E at *
 obtain⟨OUT,hOUT⟩: ∃OUT:Ending→World→Prop,OUT=adh x w:=⟨_,rfl⟩
 rw [←hOUT]at HOut ⊢
 clear hOUT
 obtain⟨kind,name,frm,guid,oA,on,oc,own,index,count,data,s0,s1,s2,s3⟩:=x
 simp only [Rec.cells]at HCk ⊢
 go_enter Tryz.func92,Tryz.ntmps92
 go_upto_region 1 with fail
 generalize hwH:World.alloc w _=w1;have HH:=hiD (Heap.one hwH);clear hwH
 go_wp2_with (refine lSX HH ze 0 ?_)
 refine(HCk.out w1 HH.out.ext).mono ?_
 rintro e w2 ⟨rfl,e2⟩
 go_wp2_with fail
 exact HOut.out _ _ ⟨rfl,HH.out.ext.trans e2⟩
theorem aiN(w:World)(x:Rec)(hr:Rd w 0 w.heap.size x.oA (prps x.own))(hx:x.wf)(hon:x.on≤100000000)(hs:(sumR x).wf):
 Calls Tryz.prog 92 #[.agg x.cells.toArray] w (adh x w):=by
 by_cases hE:yJ x=0
 ·exact ahk w x hr hx hon hs hE
 ·exact ahs w x hr hx hE
open Go.Lib (index count splitK)
def zP:List UInt8→List UInt8→List (List UInt8)
 | cur, []=> [cur]
 | cur,c::l=>if c=47 then cur::zP [] l else zP (cur++ [c]) l
def xB(l:List UInt8):List (List UInt8):=zP [] l
theorem ajn(b:UInt8)(l:List UInt8):index (b::l) [47]=if b=47 then 0 else if index l [47] == -1 then -1 else index l [47] +1:=by
 rw [index]
 by_cases h:b=47
 ·subst h;simp
 ·have:([47]:List UInt8).isPrefixOf (b::l)=false:=by
   simp [List.isPrefixOf,Ne.symm h]
  rw [this,if_neg h]
  simp
theorem afc(s:List UInt8): ∀cur,zP cur s=if index s [47] == -1 then [cur++s]else(cur++s.take (index s [47]).toNat)::zP [] (s.drop ((index s [47]).toNat+1)):=by
 induction s with
 | nil=>intro cur;simp [zP,index]
 | cons b l ih=>
   intro cur
   rw [ajn]
   by_cases h:b=47
   ·subst h;simp [zP]
   ·rw [zP,if_neg h,if_neg h,ih]
    have hge:=Go.Lib.index_ge l [47]
    by_cases h2:index l [47] == -1
    ·rw [if_pos h2,if_pos h2,if_pos (by rfl)]
     simp
    ·rw [if_neg h2,if_neg h2]
     have h3:index l [47]≠ -1:=by simpa using h2
     have h4:((index l [47] +1) == -1)=false:=by simp;omega
     rw [h4,if_neg (by decide),show(index l [47] +1).toNat=(index l [47]).toNat+1 by omega]
     simp
theorem adS: ∀(k:Nat) (s:List UInt8),count s [47]=k→splitK [47] 0 k s=xB s
 | 0,s,h=>by
   have hi:index s [47]= -1:=by
    have hge:=Go.Lib.index_ge s [47]
    refine Decidable.byContradiction fun hn=>?_
    have:=Go.Lib.count_hit (s:=s) (sub:= [47]) (i:=(index s [47]).toNat) (by simp) (by omega)
    omega
   rw [xB,afc,hi]
   rfl
 | k+1,s,h=>by
   have hge:=Go.Lib.index_ge s [47]
   have hn: ¬(index s [47] == -1)=true:=fun e=>by
    have:=Go.Lib.count_miss (s:=s) (sub:= [47]) (by simpa using e)
    omega
   have hc:=Go.Lib.count_hit (s:=s) (sub:= [47]) (i:=(index s [47]).toNat) (by simp) (by have:index s [47]≠ -1:=(by simpa using hn);omega)
   have hk:count (s.drop ((index s [47]).toNat+1)) [47]=k:=by simp only [List.length_singleton]at hc;omega
   have ih:=adS k _ hk
   rw [splitK,if_neg hn,xB,afc,if_neg hn,List.nil_append,Nat.add_zero]
   congr 1
theorem aeD(s:List UInt8): ∀cur,(zP cur s).length=s.count 47+1:=by
 induction s with
 | nil=>intro cur;rfl
 | cons b l ih=>
   intro cur
   rw [zP]
   by_cases h:b=47
   ·subst h;rw [if_pos rfl,List.length_cons,ih];simp
   ·rw [if_neg h,ih,List.count_cons_of_ne h]
def zF(s:ByteArray):Bool:=decide (s.size=0) || (decide ((xB s.data.toList).length≤4) && (xB s.data.toList).all fun l=>zd ⟨l.toArray⟩)
end Go.Proofs.YtckaneapjpiocaaGreatDoor
