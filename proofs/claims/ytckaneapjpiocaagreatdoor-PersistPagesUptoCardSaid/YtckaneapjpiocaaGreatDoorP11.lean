/- The texts Rpth, Tr2, Rprp, Rchb in one file. -/
import Derived.Test.YtckaneapjpiocaaGreatDoorP10
set_option linter.unusedVariables false
set_option linter.unusedSimpArgs false
set_option maxHeartbeats 4000000
set_option maxRecDepth 100000
namespace Go.Proofs.YtckaneapjpiocaaGreatDoor
open Go.RowKit
theorem ahF:(Tryz.prog.info? 9).map (fun i=>(i.zero,i.size,i.bytes))=some (some (.string .empty),1,16):=by kernel_rfl
theorem aaG(s:ByteArray)(a b:Nat):(s.extract a b).data.toList=(s.data.toList.take b).drop a:=by
 rw [ByteArray.data_extract,Array.toList_extract,List.extract_eq_take_drop,List.take_drop]
 by_cases h:a≤b
 ·rw [Nat.add_sub_cancel' h]
 ·have h1:b - a=0:=by omega
  rw [h1,Nat.add_zero,List.drop_eq_nil_of_le (by simp;omega),List.drop_eq_nil_of_le (by simp;omega)]
def ag0(s:ByteArray)(w:World)(e:Ending)(w':World):Prop:=
 ∃(ps:List ByteArray) (v:Value),e= .returned v∧ps.map (·.data.toList)=yk s.data.toList∧w'.ownsRow w.heap.size 9 1 v ps.length (ps.map Value.string)∧Ext w w'
theorem ahD(s:ByteArray)(t k:Nat)(hk:k < s.size)(ht:t≤k)(out:List ByteArray)(h:yk s.data.toList=out.map (·.data.toList)++zC ((s.data.toList.take k).drop t) (s.data.toList.drop k)):
 (s[k]'hk≠47→yk s.data.toList=out.map (·.data.toList)++zC ((s.data.toList.take (k+1)).drop t) (s.data.toList.drop (k+1)))∧
 (s[k]'hk=47→yk s.data.toList=(out++ [s.extract t k]).map (·.data.toList)++zC ((s.data.toList.take (k+1)).drop (k+1)) (s.data.toList.drop (k+1))):=by
 have hl:k < s.data.toList.length:=by rw [zz];exact hk
 have hg:s.data.toList[k]'hl=s[k]'hk:=rfl
 rw [List.drop_eq_getElem_cons hl,zC,hg]at h
 constructor
 ·intro hn
  rw [if_neg hn]at h
  rw [h,List.take_succ_eq_append_getElem hl,List.drop_append_of_le_length (by rw [List.length_take];omega),hg]
 ·intro he
  rw [if_pos he]at h
  have z:(s.data.toList.take (k+1)).drop (k+1)= []:=List.drop_eq_nil_of_le (by rw [List.length_take];omega)
  rw [h,List.map_append,List.map_cons,List.map_nil,aaG,List.append_assoc,List.singleton_append,z]
theorem ahe(s:ByteArray)(t:Nat)(out:List ByteArray)(h:yk s.data.toList=out.map (·.data.toList)++zC ((s.data.toList.take s.size).drop t) (s.data.toList.drop s.size)):(out++ [s.extract t s.size]).map (·.data.toList)=yk s.data.toList:=by
 have z:s.data.toList.drop s.size= []:=List.drop_eq_nil_of_le (by rw [zz];exact Nat.le_refl _)
 rw [z,zC]at h
 rw [h,List.map_append,List.map_cons,List.map_nil,aaG]
theorem aeg(s:ByteArray)(w:World)(hs:s.size < 4294967281):Calls Tryz.prog 134 #[.string s,.int .u8 47] w (ag0 s w):=by
 obtain⟨i0,hi0,hz0,hz1,hz2⟩:=info_parts ahF
 have HB:=Lib.hid (ahD s)
 have HE:=Lib.hid (ahe s)
 go_enter Tryz.func134,Tryz.ntmps134
 go_wp2_with fail
 go_loopw [5,6,7] (fun o a i wr=> ∃(k t:Nat) (out:List ByteArray),k≤s.size∧i= .int .i64 k∧a= .int .i64 t∧t≤k∧out.length≤k∧
  wr.ownsRow w.heap.size 9 1 o out.length (out.map Value.string)∧yk s.data.toList=out.map (·.data.toList)++zC ((s.data.toList.take k).drop t) (s.data.toList.drop k)∧Ext w wr) (fun _ _ i _=>s.size - (intOf i).toNat)
 case atStart=>exact⟨0,0, [],Nat.zero_le _,rfl,rfl,Nat.le_refl _,Nat.le_refl _,World.ownsRow_nil _ _ _ _,rfl,Ext.refl _⟩
 case round=>
  obtain⟨k,t,out,hk,rfl,rfl,ht,hol,hown0,hrun,e1⟩:=hrel
  have hown:=Lib.hid hown0
  clear hown0
  have HR:=Lib.hid hrun
  clear hrun
  by_cases hlt:k < s.size
  ·obtain⟨G1,G2⟩:=HB.out t k hlt ht out HR.out
   have H1:=Lib.hid G1
   have H2:=Lib.hid G2
   clear G1 G2
   obtain⟨y,hy⟩: ∃y,s[k]'hlt=y:=⟨_,rfl⟩
   rw [hy]at H1 H2
   by_cases h47:y=47
   ·subst h47
    have H3:=Lib.hid (H2.out rfl)
    clear H1 H2
    have HO:=Lib.hid (show(out.length+1) * 16≤140737488355328 by omega)
    have HO2:=Lib.hid (show w.heap.size≤(wr.alloc (.cells #[.string (s.extract t k)] 9)).heap.size by have:=e1.size;simp;omega)
    go_upto_region 7 with fail
    iterate 60 (first | at_builtin | go_step)
    refine qk _ rfl (.tmp 19) (.tmp 24) _ rfl 9 i0 _ 1 16 Tryz.underlying109 hi0 hz0 hz1 hz2 rfl (by omega) _ _ out.length _ rfl (hown.out.alloc _) 0 _ _ 1 1 [.string (s.extract t k)] rfl rfl
     ((aav _ _ _).m0) (by simp [Value.oneCell']) (by have:=HO.out;simp only [maxLen];omega) HO.out HO2.out ?_
    intro v7 w7 hown7 he7 _ _
    have e9:Ext w w7:=he7 _ (e1.alloc _) (Nat.le_refl _)
    clear he7 hown
    go_wp2_with fail
    go_roundw
    case rel=>
     refine⟨k+1,k+1,out++ [s.extract t k],by omega,by go_num,by go_num,by omega,?_,?_,H3.out,e9⟩
     ·rw [List.length_append];simp;omega
     ·rw [List.length_append,List.map_append];exact hown7
    case measure=>simp [intOf];omega
   ·have H3:=Lib.hid (H1.out h47)
    have hb: ¬y.toNat=47:=fun e=>h47 (UInt8.toNat_inj.1 e)
    clear H1 H2
    go_wp2_with fail
    go_roundw
    case rel=>exact⟨k+1,t,out,by omega,by go_num,rfl,by omega,by omega,hown.out,H3.out,e1⟩
    case measure=>simp [intOf];omega
  ·obtain rfl:k=s.size:=by omega
   have H3:=Lib.hid (HE.out t out HR.out)
   have HO:=Lib.hid (show(out.length+1) * 16≤140737488355328 by omega)
   have HO2:=Lib.hid (show w.heap.size≤(wr.alloc (.cells #[.string (s.extract t s.size)] 9)).heap.size by have:=e1.size;simp;omega)
   go_upto_region 9 with fail
   iterate 60 (first | at_builtin | go_step)
   refine qk _ rfl (.tmp 28) (.tmp 32) _ rfl 9 i0 _ 1 16 Tryz.underlying109 hi0 hz0 hz1 hz2 rfl (by omega) _ _ out.length _ rfl (hown.out.alloc _) 0 _ _ 1 1 [.string (s.extract t s.size)] rfl rfl
    ((aav _ _ _).m0) (by simp [Value.oneCell']) (by have:=HO.out;simp only [maxLen];omega) HO.out HO2.out ?_
   intro v7 w7 hown7 he7 _ _
   have e9:Ext w w7:=he7 _ (e1.alloc _) (Nat.le_refl _)
   clear he7 hown
   go_wp2_with fail
   go_ret
   refine⟨out++ [s.extract t s.size],v7,rfl,H3.out,?_,e9⟩
   rw [List.length_append,List.map_append];exact hown7
theorem x7(s:ByteArray)(w:World)(hs:s.size < 4294967281):Calls Tryz.prog 73 #[.string s] w fun e w'=>e= .returned (.bool (zv s))∧Ext w w':=by
 by_cases h0:s.size=0
 ·obtain rfl:=y9 s h0
  have hv:=Lib.hid (show zv ⟨#[]⟩=true from rfl)
  go_enter Tryz.func73,Tryz.ntmps73
  go_wp2_with fail
  go_ret
  exact⟨by rw [hv.out];rfl,Ext.refl _⟩
 ·have HS:=Lib.hid (aeg s w hs)
  have b0:s.toList.isEmpty=false:=by
   rw [ByteArray.toList_eq,List.isEmpty_eq_false_iff]
   intro e
   have:=zz s
   rw [e]at this
   exact h0 this.symm
  have HP:=Lib.hid (fun ps hp=>acz s (by omega) ps hp)
  have HF:=Lib.hid (ab7 s (by omega))
  have HL:=Lib.hid (acl s)
  have HB:=Lib.hid hs
  clear hs
  go_enter Tryz.func73,Tryz.ntmps73
  go_wp2_with fail
  refine HS.out.mono ?_
  rintro e w2 ⟨ps,v,rfl,hp,hown,e2⟩
  have hv:=Lib.hid (HP.out ps hp)
  have hf:=Lib.hid (HF.out ps hp)
  have hl:=Lib.hid (HL.out ps hp)
  clear hp
  obtain⟨A,c,rfl,hc,hc2,_⟩:=zo hown
  have HR:=Lib.hid (Rd.of_own hown)
  clear hown
  have hbig:ps.length≤4294967299:=by have:=hl.out;have:=HB.out;omega
  go_wp2_with fail
  go_loopw [4] (fun i wr=> ∃k:Nat,k≤ps.length∧i= .int .i64 k∧(ps.take k).any yx=false∧Ext w2 wr) (fun i _=>ps.length - (intOf i).toNat)
  case atStart=>exact⟨0,Nat.zero_le _,rfl,rfl,Ext.refl _⟩
  case round=>
   obtain⟨k,hk,rfl,hno,e3⟩:=hrel
   have HK:=Lib.hid hno
   clear hno
   by_cases hlt:k < ps.length
   ·obtain⟨b1,o1,rfl,_,_,f0⟩:=qH (HR.out.ext e3 (Nat.le_refl _)) (k:=k) (by omega)
    obtain⟨y,hy⟩: ∃y,y=ps[k]'hlt:=⟨_,rfl⟩
    rw [←hy]at f0
    have HY:=Lib.hid hy
    clear hy
    have HLT:=Lib.hid hlt
    go_wp2_with fail
    refine(y0 y _ (by have:=hf.out y (by rw [HY.out];exact List.getElem_mem _);exact this)).mono ?_
    rintro e w4 ⟨rfl,e4⟩
    cases ho:zi y
    ·have hq:zv s=false:=by
      rw [hv.out]
      have h1:ps.any yx=true:=List.any_eq_true.2 ⟨y,by rw [HY.out];exact List.getElem_mem _,by rw [yx,ho];rfl⟩
      rw [h1]
      simp
     have hv:=Lib.hid hq
     clear hq
     go_wp2_with fail
     go_ret
     exact⟨by rw [hv.out];rfl,blo⟩
    ·go_wp2_with fail
     go_roundw
     case rel=>
      refine⟨k+1,HLT.out,by go_num,?_,blo⟩
      rw [List.take_succ_eq_append_getElem hlt,List.any_append,HK.out,←HY.out]
      simp [yx,ho]
     case measure=>(have:=HLT.out;simp [intOf];omega)
   ·obtain rfl:k=ps.length:=by omega
    have h1:=HK.out
    rw [List.take_of_length_le (Nat.le_refl _)]at h1
    have hq:zv s=decide (ps.length≤4):=by rw [hv.out,h1];simp
    have hv:=Lib.hid hq
    clear hq h1
    by_cases h4:ps.length≤4
    ·have hd:decide ((ps.length:Int)≤4)=true:=by simp;omega
     have hq:zv s=true:=by rw [hv.out,decide_eq_true h4]
     have hv:=Lib.hid hq
     clear hq
     go_wp2_with fail
     go_ret
     exact⟨by rw [hv.out];rfl,blo⟩
    ·have hd:decide ((ps.length:Int)≤4)=false:=by simp;omega
     have hq:zv s=false:=by rw [hv.out,decide_eq_false h4]
     have hv:=Lib.hid hq
     clear hq
     go_wp2_with fail
     go_ret
     exact⟨by rw [hv.out];rfl,blo⟩
open Go.Maps Go.Sort Go.Shelf
theorem adV(s:ByteArray)(w:World)(hM:yJ w)(hs:s.size≤1048576):
 Calls Tryz.prog 137 #[.string s] w fun e w'=>e= .returned (.tuple #[.string ((yB s).getD ⟨#[]⟩),.bool (yB s).isSome])∧Ext w w':=by
 by_cases h0:s.size=0
 ·obtain rfl:=y9 s h0
  have hv:=Lib.hid (show yB ⟨#[]⟩=none from rfl)
  go_enter Tryz.func137,Tryz.ntmps137
  go_wp2_with fail
  go_ret2
  exact⟨by rw [hv.out];rfl,Ext.refl _⟩
 ·have b0:s.toList.isEmpty=false:=by
   rw [ByteArray.toList_eq,List.isEmpty_eq_false_iff]
   intro e
   have:=zz s
   rw [e]at this
   exact h0 this.symm
  have HP:=Lib.hid (xW s w hM (by omega))
  have HL:=Lib.hid (fun W=>Tryz.strings_LastIndexByte s 47 (by omega) W)
  have HV:=Lib.hid (show yB s=if zv s=true then some (s.extract 0 (max (Go.Lib.lastIndexByte s 47) 0).toNat)else none by rw [yB,if_neg h0])
  have hb: -1≤Go.Lib.lastIndexByte s 47∧Go.Lib.lastIndexByte s 47 < (s.size:Int):=by
   rcases Go.Lib.lastIndexByte_spec s 47 with⟨e,_⟩ | ⟨i,hi,e,_⟩ <;> rw [e] <;> omega
  generalize Go.Lib.lastIndexByte s 47=k at *
  generalize zv s=pb at *
  generalize yB s=V at *
  clear h0
  cases pb with
  | false=>
    obtain rfl:V=none:=HV.out
    go_enter Tryz.func137,Tryz.ntmps137
    go_wp2_with (refine HP.out.mono ?_;rintro e w2 ⟨rfl,e2⟩)
    go_ret2
    exact⟨rfl,e2⟩
  | true=>
    obtain rfl:V=some (s.extract 0 (max k 0).toNat):=HV.out
    go_enter Tryz.func137,Tryz.ntmps137
    go_upto_region 3 with(refine HP.out.mono ?_;rintro e w2 ⟨rfl,e2⟩)
    go_wp2_with fail
    refine(HL.out _).mono ?_
    rintro e w3 ⟨rfl,rfl⟩
    go_wp2_with fail
    go_ret2
    exact⟨rfl,e2⟩
theorem agB(s:ByteArray)(k:Nat):(⟨(s.data.toList.take k).toArray⟩:ByteArray)=s.extract 0 k:=by
 have h:=aaG s 0 k
 rw [List.drop_zero]at h
 cases hq:s.extract 0 k with
 | mk d=>rw [hq]at h;congr 1;exact Array.toList_inj.1 (by rw [←h])
theorem afU(s:ByteArray)(k:Nat):(⟨(s.data.toList.drop k).toArray⟩:ByteArray)=s.extract k s.size:=by
 have h:=aaG s k s.size
 rw [List.take_of_length_le (by rw [zz];exact Nat.le_refl _)]at h
 cases hq:s.extract k s.size with
 | mk d=>rw [hq]at h;congr 1;exact Array.toList_inj.1 (by rw [←h])
theorem agV(s:ByteArray):(zH s).size≤s.size:=by rw [zH,ByteArray.size_extract];omega
theorem ag5(s:ByteArray):(z8 s).size≤s.size:=by rw [z8,ByteArray.size_extract];omega
theorem adK(s:ByteArray)(w:World)(hM:yJ w)(hs:s.size≤1048576):
 Calls Tryz.prog 183 #[.string s] w fun e w'=>e= .returned (if qg s=true then .tuple #[.string (zH s),.string (z8 s),.int .i64 0]else .tuple #[.string ⟨#[]⟩,.string ⟨#[]⟩,.int .i64 31])∧Ext w w':=by
 obtain⟨m,hm⟩:=id hM
 have HC:=Lib.hid (Tryz.strings_Cut s ⟨#[64]⟩ m w (by omega) hm)
 have HP:=Lib.hid (fun W (hW:Ext w W)=>xW (zH s) W (hM.ext hW) (by have:=agV s;omega))
 have HN:=Lib.hid (fun W=>xf (z8 s) W (by have:=ag5 s;omega))
 have HV:=Lib.hid (show qg s=(decide (0≤atI s) && (zv (zH s) && zi (z8 s)))from rfl)
 have HK:=Lib.hid (show 0≤atI s→Go.Lib.cut s.data.toList [64]=((zH s).data.toList,(z8 s).data.toList,true)from fun h=>by
  unfold atI at h
  rw [Go.Lib.cut,if_pos h,zH,z8,←agB,←afU];rfl)
 have HJ:=Lib.hid (show¬0≤atI s→Go.Lib.cut s.data.toList [64]=(s.data.toList, [],false)from fun h=>by
  unfold atI at h
  rw [Go.Lib.cut,if_neg h])
 generalize qg s=V at *
 clear hm hM hs
 by_cases h0:0≤atI s
 ·have hk:=HK.out h0
  rw [decide_eq_true h0]at HV
  rw [show(⟨#[64]⟩:ByteArray).data.toList= [64]from rfl,hk]at HC
  simp only at HC
  rw [show(⟨(zH s).data.toList.toArray⟩:ByteArray)=zH s from rfl,show(⟨(z8 s).data.toList.toArray⟩:ByteArray)=z8 s from rfl]at HC
  clear HK HJ hk h0
  generalize zH s=p at *
  generalize z8 s=q at *
  cases hp:zv p with
  | false=>
    rw [hp]at HV HP
    obtain rfl:V=false:=HV.out
    go_enter Tryz.func183,Tryz.ntmps183
    go_wp2_with fail
    refine HC.out.mono ?_
    rintro e w2 ⟨rfl,nn,rfl⟩
    have E2:Ext w (w.drewN nn):=Ext.drewN (Ext.refl w) nn
    go_wp2_with fail
    refine(HP.out _ E2).mono ?_
    rintro e w3 ⟨rfl,e3⟩
    have HE:=Lib.hid (E2.trans e3)
    clear E2 e3
    go_wp2_with fail
    go_ret3
    exact⟨rfl,HE.out⟩
  | true=>
    rw [hp]at HV HP
    cases hq:zi q with
    | false=>
      rw [hq]at HV HN
      obtain rfl:V=false:=HV.out
      go_enter Tryz.func183,Tryz.ntmps183
      go_wp2_with fail
      refine HC.out.mono ?_
      rintro e w2 ⟨rfl,nn,rfl⟩
      have E2:Ext w (w.drewN nn):=Ext.drewN (Ext.refl w) nn
      go_wp2_with fail
      refine(HP.out _ E2).mono ?_
      rintro e w3 ⟨rfl,e3⟩
      have HE:=Lib.hid (E2.trans e3)
      clear E2 e3
      go_wp2_with fail
      refine(HN.out _).mono ?_
      rintro e w4 ⟨rfl,e4⟩
      go_wp2_with fail
      go_ret3
      exact⟨rfl,HE.out.trans e4⟩
    | true=>
      rw [hq]at HV HN
      obtain rfl:V=true:=HV.out
      go_enter Tryz.func183,Tryz.ntmps183
      go_wp2_with fail
      refine HC.out.mono ?_
      rintro e w2 ⟨rfl,nn,rfl⟩
      have E2:Ext w (w.drewN nn):=Ext.drewN (Ext.refl w) nn
      go_wp2_with fail
      refine(HP.out _ E2).mono ?_
      rintro e w3 ⟨rfl,e3⟩
      have HE:=Lib.hid (E2.trans e3)
      clear E2 e3
      go_wp2_with fail
      refine(HN.out _).mono ?_
      rintro e w4 ⟨rfl,e4⟩
      go_wp2_with fail
      go_ret3
      exact⟨rfl,HE.out.trans e4⟩
 ·have hk:=HJ.out h0
  rw [decide_eq_false h0]at HV
  obtain rfl:V=false:=HV.out
  rw [show(⟨#[64]⟩:ByteArray).data.toList= [64]from rfl,hk]at HC
  simp only at HC
  clear HK HJ hk h0 HP HN
  go_enter Tryz.func183,Tryz.ntmps183
  go_wp2_with fail
  refine HC.out.mono ?_
  rintro e w2 ⟨rfl,nn,rfl⟩
  have E2:Ext w (w.drewN nn):=Ext.drewN (Ext.refl w) nn
  go_wp2_with fail
  go_ret3
  exact⟨rfl,E2⟩
theorem ado(w:World)(s:ByteArray):Calls Tryz.prog 123 #[.string s] w fun e w'=>e= .returned (.bool false)∧w'=w:=by
 go_enter Tryz.func123,Tryz.ntmps123
 go_wp2_with fail
 go_ret
 exact⟨by simp,rfl⟩
theorem aen(w:World)(a b:ByteArray):Calls Tryz.prog 230 #[.string a,.string b] w fun e w'=>e= .returned (.bool (zd a b))∧w'=w:=by
 have HL:=Lib.hid (show zd a b=Op.bytesLess a.toList b.toList from rfl)
 generalize zd a b=V at *
 go_enter Tryz.func230,Tryz.ntmps230
 go_wp2_with (refine(ado _ _).mono ?_;rintro e wN ⟨rfl,rfl⟩)
 go_ret
 exact⟨by rw [HL.out];simp,rfl⟩
def qJ(l:List ByteArray):Bool:=(List.range (l.length - 1)).all fun k=>!zd (l.getD (k+1) .empty) (l.getD k .empty)
theorem aem(w:World)(A:Option Addr)(n c:Nat)(l:List ByteArray)(hn:n=l.length)(hm:n≤9223372036854775807)(hr:Rd w 0 w.heap.size A (l.map Value.string)):
 Calls Tryz.prog 211 #[.slice A n c] w fun e w'=>e= .returned (.bool (qJ l))∧Ext w w':=by
 have Hn:=Lib.hid hn
 have HNo:=Lib.hid (fun(k:Nat) (h:k+1 < l.length) (hp:zd l[k+1] l[k]=true)=>show qJ l=false by
  rw [qJ,List.all_eq_false]
  refine⟨k,List.mem_range.2 (by omega),?_⟩
  simp [List.getD,List.getElem?_eq_getElem h,List.getElem?_eq_getElem (show k < l.length by omega),hp])
 have HYes:=Lib.hid (fun(hp: ∀k (h:k+1 < l.length),zd l[k+1] l[k]=false)=>show qJ l=true by
  rw [qJ,List.all_eq_true]
  intro k hk
  have hk:=List.mem_range.1 hk
  simp [List.getD,List.getElem?_eq_getElem (show k+1 < l.length by omega),List.getElem?_eq_getElem (show k < l.length by omega),hp k (by omega)])
 generalize qJ l=V at *
 clear hn
 go_enter Tryz.func211,Tryz.ntmps211
 go_wp2_with fail
 go_loopw [3] (fun i wr=> ∃k:Int,-1≤k∧k < (n:Int)∧i= .int .i64 k∧Hid (∀j (h:j+1 < l.length),k≤(j:Int)→zd l[j+1] l[j]=false)∧Ext w wr) (fun i _=>(intOf i).toNat)
 case atStart=>exact⟨(n:Int) - 1,by omega,by omega,by go_num,Lib.hid (fun j h hj=>by have:=Hn.out;omega),Ext.refl _⟩
 case round=>
  obtain⟨k,hk,hkn,rfl,HK,e1⟩:=hrel
  by_cases hlt:0 < k
  ·obtain⟨j,rfl⟩: ∃j:Nat,k=(j:Int)+1:=⟨(k - 1).toNat,by omega⟩
   have l1:j+1 < l.length:=by rw [←Hn.out];omega
   have l0:j < l.length:=by omega
   obtain⟨b1,o1,rfl,_,_,f1⟩:=qH (Rd.at hr e1 (Nat.le_refl _)) l1
   obtain⟨b2,o2,hh,_,_,f0⟩:=qH (Rd.at hr e1 (Nat.le_refl _)) l0
   obtain⟨rfl,rfl⟩:b1=b2∧o1=o2:=by simpa using hh
   have HB:=Lib.hid (HNo.out j l1)
   have HT:=Lib.hid (fun(hp:zd l[j+1] l[j]=false) (i:Nat) (h:i+1 < l.length) (hi:(j:Int)≤(i:Int))=>show zd l[i+1] l[i]=false from by
    rcases Nat.lt_or_ge j i with h1 | h1
    ·exact HK.out i h (by omega)
    ·obtain rfl:i=j:=by omega
     exact hp)
   generalize l[j+1]=x at *
   generalize l[j]=y at *
   have q0:(0:Int)≤(j:Int)+1:=by omega
   have q1:(j:Int)+1 < (n:Int):=hkn
   have q2:(j:Int) < (n:Int):=by omega
   have q3:IntKind.i64.wrap (j:Int)=(j:Int):=IntWalk.i64_in _ (by omega)
   clear hh l0 l1
   have c0: ∀W,Ext wr W→W.cell? ⟨b1,o1+(j+1),none⟩=some (.string x):=fun W hW=>(Below.cell hW (World.block_lt_of_cell? wr _ f1)).trans f1
   have c1: ∀W,Ext wr W→W.cell? ⟨b1,o1+j,none⟩=some (.string y):=fun W hW=>(Below.cell hW (World.block_lt_of_cell? wr _ f0)).trans f0
   clear f0 f1
   go_upto_region 4 with fail
   refine wp_region_held_drew (S:=fun W=>Ext wr W) (by kernel_rfl) (Ext.drew (Ext.refl wr)) (fun hHeld=>?_)
   refine tW 0 9 ?_
   clear hHeld
   refine oS 9 (fun K hK=>?_)
   go_simp
   refine(aen _ x y).mono ?_
   rintro e w3 ⟨rfl,rfl⟩
   go_wp2_with fail
   refine hK.out _ _ (Ext.drew (Ext.refl wr)) (fun hHeld=>?_)
   clear hK K
   (try simp only [Act.put,lyA,lyB,lyC])
   refine wpAnyH_done (by kernel_rfl) ?_ _
   clear hHeld c0 c1
   cases hb:zd x y with
   | true=>
     go_wp2_with fail
     go_ret
     exact⟨by rw [HB.out hb];rfl,Ext.drew e1⟩
   | false=>
     have HT2:=Lib.hid (HT.out hb)
     clear HT HB hb
     go_wp2_with fail
     go_roundw
     case rel=>exact⟨(j:Int),by omega,by omega,by go_num,HT2,Ext.drew e1⟩
     case measure=>(first | (simp [intOf];done) | (simp [intOf];omega))
  ·go_wp2_with fail
   go_ret
   exact⟨by rw [HYes.out (fun j h=>HK.out j h (by omega))];rfl,e1⟩
theorem ad8{P:Program}(w:World)(t e:TypeId)(inf:TypeInfo)(ht:P.underlying t=some (.slice e))(hi:P.info? e=some inf)(A:Option Addr)(n c m:Nat)(M:Int)(hM:M=(m:Int))(hm:m≤c):
 (Instr.slice t (.slice A n c) none (some (.int .i64 M)) none).run P w= .ok (.slice A m c) w:=by
 subst hM
 have hb:(Instr.sliceBounds true n c none (some (.int .i64 (m:Int))) none).run P w= .ok (0,m,c) w:=by
  simp [Instr.sliceBounds,run_sliceBound (P:=P) w .i64 (m:Int) c .sliceAcap (by omega) (by omega)]
 cases A with
 | none=>simp [Instr.slice,run_underlying ht,hb,sizeOf,typeInfo,hi]
 | some a=>simp [Instr.slice,run_underlying ht,hb,sizeOf,typeInfo,hi,Addr.add]
theorem ahr(l:List ByteArray)(k:Nat)(h:k < l.length)(hp:zi l[k]=false∨xg (l.take k) l[k]=true):yM l=false:=by
 rw [yM,List.all_eq_false]
 refine⟨k,List.mem_range.2 h,?_⟩
 simp only [List.getD,List.getElem?_eq_getElem h,Option.getD_some]
 rcases hp with hp | hp <;> rw [hp] <;> simp
theorem adg(l:List ByteArray)(hp: ∀k (h:k < l.length),zi l[k]=true∧xg (l.take k) l[k]=false):yM l=true:=by
 rw [yM,List.all_eq_true]
 intro k hk
 have hk:=List.mem_range.1 hk
 simp only [List.getD,List.getElem?_eq_getElem hk,Option.getD_some]
 rw [(hp k hk).1,(hp k hk).2];rfl
theorem acE(l:List ByteArray)(x:ByteArray):Go.Lib.containsS l x=xg l x:=by
 cases h:xg l x with
 | true=>exact(Go.Lib.containsS_iff l x).2 ((qj l x).1 h)
 | false=>
   cases h2:Go.Lib.containsS l x with
   | false=>rfl
   | true=>rw [(qj l x).2 ((Go.Lib.containsS_iff l x).1 h2)]at h;exact h
theorem aby(w:World)(A:Option Addr)(n c:Nat)(l:List ByteArray)(hn:n=l.length)(hc:n≤c)(hm:c≤maxLen)(hr:Rd w 0 w.heap.size A (l.map Value.string))(hs: ∀s∈l,sml s):
 Calls Tryz.prog 182 #[.slice A n c] w fun e w'=>e= .returned (.bool (yM l))∧Ext w w':=by
 obtain⟨i0,hi0,hz0,hz1,hz2⟩:=info_parts acx
 have Hn:=Lib.hid hn
 have HS:=Lib.hid hs
 have HNo:=Lib.hid (ahr l)
 have HYes:=Lib.hid (adg l)
 have hm2:n≤9223372036854775807:=Nat.le_trans (Nat.le_trans hc hm) (by decide)
 generalize yM l=V at *
 clear hn hs
 go_enter Tryz.func182,Tryz.ntmps182
 go_wp2_with fail
 go_loopw [3,4,7] (fun _ _ i wr=> ∃k:Nat,k≤n∧i= .int .i64 k∧Hid (∀j (h:j < l.length),j < k→zi l[j]=true∧xg (l.take j) l[j]=false)∧Ext w wr) (fun _ _ i _=>n - (intOf i).toNat)
 case atStart=>exact⟨0,Nat.zero_le _,rfl,Lib.hid (fun j h hj=>absurd hj (Nat.not_lt_zero _)),Ext.refl _⟩
 case round=>
  obtain⟨k,hk,rfl,HK,e1⟩:=hrel
  by_cases hlt:k < n
  ·have l1:k < l.length:=by rw [←Hn.out];exact hlt
   obtain⟨b1,o1,rfl,_,hb1,f1⟩:=qH (Rd.at hr e1 (Nat.le_refl _)) l1
   have HCs:=Lib.hid (fun(W:World) (hW:Ext wr W) (x:ByteArray)=>show Calls Tryz.prog 212 #[.slice (some ⟨b1,o1,none⟩) k c,.string x] W (fun e w'=>e= .returned (.bool (xg (l.take k) x))∧w'=W)from by
    refine(Tryz.slices_Contains_string b1 o1 k c l x W (by omega) (by omega) (fun j hj=>?_)).mono ?_
    ·obtain⟨b2,o2,hh,_,hb2,f2⟩:=qH (Rd.at hr e1 (Nat.le_refl _)) hj
     obtain⟨rfl,rfl⟩:b1=b2∧o1=o2:=by simpa using hh
     rw [Below.cell hW hb2,f2]
     simp [List.getD,hj]
    ·rintro e w' ⟨rfl,rfl⟩
     exact⟨by rw [acE],rfl⟩)
   have HNm:=Lib.hid (fun W=>xf l[k] W (Nat.le_trans (HS.out _ (List.getElem_mem l1)) (by decide)))
   have HB:=Lib.hid (HNo.out k l1)
   have HT:=Lib.hid (fun(hp:zi l[k]=true∧xg (l.take k) l[k]=false) (j:Nat) (h:j < l.length) (hj:j < k+1)=>show zi l[j]=true∧xg (l.take j) l[j]=false from by
    rcases Nat.lt_or_ge j k with h1 | h1
    ·exact HK.out j h h1
    ·obtain rfl:j=k:=by omega
     exact hp)
   generalize l[k]=x at *
   have hs1:=fun W=>ad8 (P:=Tryz.prog) W 109 9 i0 Tryz.underlying109 hi0 (some ⟨b1,o1,none⟩) n c k (k:Int) rfl (by omega)
   cases hb:zi x with
   | false=>
     rw [hb]at HNm
     have HF:=Lib.hid (HB.out (.inl hb))
     clear hb HB HT
     go_wp2_with fail
     refine(HNm.out _).mono ?_
     rintro e w2 ⟨rfl,e2⟩
     have HE:=Lib.hid (e1.trans e2)
     go_wp2_with fail
     go_ret
     exact⟨by rw [HF.out];rfl,HE.out⟩
   | true=>
     rw [hb]at HNm
     cases hd:xg (l.take k) x with
     | true=>
       have HF:=Lib.hid (HB.out (.inr hd))
       clear hb HB HT
       go_wp2_with fail
       refine(HNm.out _).mono ?_
       rintro e w2 ⟨rfl,e2⟩
       have HE:=Lib.hid (e1.trans e2)
       have HE2:=Lib.hid e2
       clear e1 e2
       go_wp2_with fail
       refine(HCs.out _ HE2.out x).mono ?_
       rintro e w3 ⟨rfl,rfl⟩
       rw [hd]
       go_wp2_with fail
       go_ret
       exact⟨by rw [HF.out];rfl,HE.out⟩
     | false=>
       have HT2:=Lib.hid (HT.out ⟨hb,hd⟩)
       clear hb HB HT
       go_wp2_with fail
       refine(HNm.out _).mono ?_
       rintro e w2 ⟨rfl,e2⟩
       have HE:=Lib.hid (e1.trans e2)
       have HE2:=Lib.hid e2
       clear e1 e2
       go_wp2_with fail
       refine(HCs.out _ HE2.out x).mono ?_
       rintro e w3 ⟨rfl,rfl⟩
       rw [hd]
       go_wp2_with fail
       go_roundw
       case rel=>exact⟨k+1,by omega,by go_num,HT2,HE.out⟩
       case measure=>(first | (simp [intOf];done) | (simp [intOf];omega))
  ·obtain rfl:k=n:=by omega
   go_wp2_with fail
   go_ret
   exact⟨by rw [HYes.out (fun j h=>HK.out j h (by rw [Hn.out];exact h))];rfl,e1⟩
theorem agE(a b:UInt8)(x y:List UInt8):Op.bytesLess (a::x) (b::y)=(decide (a < b) || (decide (a=b) && Op.bytesLess x y)):=by
 simp only [Op.bytesLess]
 by_cases h1:a < b
 ·simp [h1]
 ·by_cases h2:b < a
  ·have:a≠b:=fun e=>by subst e;exact h1 h2
   simp [h1,h2,this]
  ·have:a=b:=UInt8.le_antisymm (UInt8.not_lt.1 h2) (UInt8.not_lt.1 h1)
   subst this
   simp [h1]
theorem agz: ∀x y:List UInt8,Op.bytesLess x y=decide (x < y)
 | [], []=>by simp [Op.bytesLess]
 | _::_, []=>by simp [Op.bytesLess]
 | [],_::_=>by simp [Op.bytesLess]
 | a::x,b::y=>by rw [agE,agz x y,Bool.eq_iff_iff,decide_eq_true_eq,List.cons_lt_cons_iff];simp
theorem acO(a b:ByteArray):zd a b=decide (a.toList < b.toList):=agz _ _
theorem qu{a b c:ByteArray}(h1:zd a b=true)(h2:zd b c=true):zd a c=true:=by
 rw [acO,decide_eq_true_eq]at *
 exact List.lt_trans h1 h2
theorem xY(a:ByteArray):zd a a=false:=by
 rw [acO,decide_eq_false_iff_not]
 exact List.lt_irrefl _
theorem abc{a b:ByteArray}(h:zd a b=true):zd b a=false:=by
 cases h2:zd b a with
 | false=>rfl
 | true=>exact absurd (qu h h2) (by rw [xY];decide)
theorem aaf{a b:ByteArray}(h1:zd a b=false)(h2:zd b a=false):a=b:=by
 have h:=yq a b
 rw [h1,h2,Bool.false_or]at h
 have e:b.toList=a.toList:=by simpa using h
 rw [Lib.toList_data,Lib.toList_data]at e
 cases a;cases b
 congr 1
 exact(Array.toList_inj.1 e).symm
theorem ahv(l:List ByteArray):xy l=(decide (l.length≤4) && (yM l && qJ l)):=by
 unfold xy
 congr 1
 cases hr:(l.all zi && xp l)with
 | true=>
   rw [Bool.and_eq_true]at hr
   obtain⟨h1,h2⟩:=hr
   have hlt: ∀k (h:k+1 < l.length),zd l[k] l[k+1]=true:=fun k h=>by
    cases hp:zd l[k] l[k+1]with
    | true=>rfl
    | false=>rw [aaw l k h hp]at h2;cases h2
   have htr: ∀d k (h:k+d+1 < l.length),zd l[k] l[k+d+1]=true:=fun d=>by
    induction d with
    | zero=>exact fun k h=>hlt k h
    | succ d ih=>exact fun k h=>qu (ih k (by omega)) (hlt (k+d+1) h)
   have u:yM l=true:=adg l fun k h=>⟨List.all_eq_true.1 h1 _ (List.getElem_mem h),by
    cases hh:xg (l.take k) l[k]with
    | false=>rfl
    | true=>
      obtain⟨j,hj,e⟩:=List.getElem_of_mem ((qj _ _).1 hh)
      have hj2:j < k:=by have:=hj;rw [List.length_take]at this;omega
      rw [List.getElem_take]at e
      have h3:=htr (k - j - 1) j (by omega)
      simp only [show j+(k - j - 1)+1=k by omega]at h3
      rw [e,xY]at h3;cases h3⟩
   have s:qJ l=true:=by
    rw [qJ,List.all_eq_true]
    intro k hk
    have hk:=List.mem_range.1 hk
    simp only [List.getD,List.getElem?_eq_getElem (show k+1 < l.length by omega),List.getElem?_eq_getElem (show k < l.length by omega),Option.getD_some]
    cases h5:zd l[k+1] l[k]with
    | false=>rfl
    | true=>rw [abc (hlt k (by omega))]at h5;cases h5
   rw [u,s];rfl
 | false=>
   symm
   cases hq:(yM l && qJ l)with
   | false=>rfl
   | true=>
     rw [Bool.and_eq_true]at hq
     obtain⟨h1,h2⟩:=hq
     rw [yM,List.all_eq_true]at h1
     rw [qJ,List.all_eq_true]at h2
     have hn:l.all zi=true:=List.all_eq_true.2 fun x hx=>by
      obtain⟨k,hk,rfl⟩:=List.getElem_of_mem hx
      have h3:=h1 k (List.mem_range.2 hk)
      simp only [List.getD,List.getElem?_eq_getElem hk,Option.getD_some,Bool.and_eq_true]at h3
      exact h3.1
     have hr2:xp l=true:=qX l fun k h=>by
      have h3:=h1 (k+1) (List.mem_range.2 h)
      have h4:=h2 k (List.mem_range.2 (by omega))
      simp only [List.getD,List.getElem?_eq_getElem h,List.getElem?_eq_getElem (show k < l.length by omega),Option.getD_some,Bool.and_eq_true,Bool.not_eq_true']at h3 h4
      cases h5:zd l[k] l[k+1]with
      | true=>rfl
      | false=>
        have e:=aaf h5 h4
        have:xg (l.take (k+1)) l[k+1]=true:=(qj _ _).2 (by rw [←e];exact List.mem_take_iff_getElem.2 ⟨k,by omega,rfl⟩)
        rw [this]at h3;exact absurd h3.2 (by decide)
     rw [hn,hr2]at hr;cases hr
theorem adA(w:World)(s:Txs)(h:Txs.At w 0 w.heap.size s):
 Calls Tryz.prog 181 #[s.val] w fun e w'=>e= .returned (.bool (xy s.xs))∧Ext w w':=by
 have hr: ∀W,Ext w W→Rd W 0 W.heap.size s.A (s.xs.map Value.string):=fun W hW=>by rw [←acp];exact Rd.at h.rd hW (Nat.le_refl _)
 have HU:=Lib.hid (fun W (hW:Ext w W)=>aby W s.A s.n s.c s.xs h.len h.le h.cap (hr W hW) h.all)
 have HSo:=Lib.hid (fun W (hW:Ext w W)=>aem W s.A s.n s.c s.xs h.len (Nat.le_trans (Nat.le_trans h.le h.cap) (by decide)) (hr W hW))
 have HV:=Lib.hid (ahv s.xs)
 rw [←h.len]at HV
 generalize xy s.xs=V at *
 generalize yM s.xs=U at *
 generalize qJ s.xs=R at *
 clear h hr
 obtain⟨A,n,c,xs⟩:=s
 simp only [Sl.val]at *
 by_cases h4:n≤4
 ·have q4:decide ((n:Int)≤4)=true:=by simp;omega
  rw [decide_eq_true h4]at HV
  cases U with
  | false=>
    obtain rfl:V=false:=HV.out
    go_enter Tryz.func181,Tryz.ntmps181
    go_wp2_with fail
    refine(HU.out _ (Ext.refl _)).mono ?_
    rintro e w2 ⟨rfl,e2⟩
    go_wp2_with fail
    go_ret
    exact⟨rfl,e2⟩
  | true=>
    obtain rfl:V=R:=HV.out
    go_enter Tryz.func181,Tryz.ntmps181
    go_wp2_with fail
    refine(HU.out _ (Ext.refl _)).mono ?_
    rintro e w2 ⟨rfl,e2⟩
    have HE:=Lib.hid e2
    clear e2
    go_wp2_with fail
    refine(HSo.out _ HE.out).mono ?_
    rintro e w3 ⟨rfl,e3⟩
    go_wp2_with fail
    go_ret
    exact⟨by simp,HE.out.trans e3⟩
 ·have q4:decide ((n:Int)≤4)=false:=by simp;omega
  rw [decide_eq_false h4]at HV
  obtain rfl:V=false:=HV.out
  go_enter Tryz.func181,Tryz.ntmps181
  go_wp2_with fail
  go_ret
  exact⟨by simp,Ext.refl _⟩
set_option linter.unusedSimpArgs false in
theorem qS(w:World)(A:Option Addr)(n c:Nat)(xs:List Prp)(hn:n=xs.length)(hm:n≤9223372036854775807)(hr:Rd w 0 w.heap.size A (prps xs))(hwf: ∀x∈xs,x.name.size≤9223372036854775807∧x.value.size≤9223372036854775807):
 Calls Tryz.prog 56 #[.slice A n c] w fun e w'=>e= .returned (.int .i64 (prE xs))∧Ext w w':=by
 have Hn:=Lib.hid hn
 have HW:=Lib.hid hwf
 clear hn hwf
 go_enter Tryz.func56,Tryz.ntmps56
 go_wp2_with fail
 go_loopw [3] (fun i wr=> ∃k:Nat,k≤n∧i= .int .i64 k∧Hid (xH xs k=false)∧Ext w wr) (fun i _=>n - (intOf i).toNat)
 case atStart=>exact⟨0,Nat.zero_le _,rfl,by rw [Hid];rfl,Ext.refl _⟩
 case round=>
  obtain⟨k,hk,rfl,HK,e1⟩:=hrel
  by_cases hlt:k < n
  ·have hl:k < xs.length:=by rw [←Hn.out];omega
   have hmem:=HW.out xs[k] (List.getElem_mem _)
   obtain⟨b1,o1,rfl,_,hb1,f0,f1⟩:=aaL hr hl
   have hba:Hid (yP xs k=(!zi xs[k].name || !xP xs[k].value || (decide (0 < k) && !zd (nm xs (k - 1)) xs[k].name))):=by rw [Hid,yP,acw xs k hl,agv xs k hl]
   have hbs:=Lib.hid (aaP xs k)
   have hba2:=Lib.hid (aaD xs k xs.length hl)
   generalize xs[k]=y at *
   have g0: ∀w',Ext wr w'→w'.cell? ⟨b1,o1+k * 2,none⟩=some (.string y.name):=fun w' h=>by rw [Below.cell (e1.trans h) hb1];exact f0
   have g1: ∀w',Ext wr w'→w'.cell? ⟨b1,o1+k * 2+1,none⟩=some (.string y.value):=fun w' h=>by rw [Below.cell (e1.trans h) hb1];exact f1
   clear f0 f1
   have hv:Hid (yP xs k=true→prE xs=9):=Lib.hid fun h=>by
    rw [prE,if_pos (hba2.out h)]
    split <;> rfl
   have p0:(0:Int)≤(k:Int):=by omega
   have p1:(k:Int) < (n:Int):=by omega
   go_wp2_with fail
   refine wp_region_held_drew (S:=fun w'=>Ext wr w') (by kernel_rfl) blo (fun hHeld=>?_)
   refine tW 0 5 ?_
   refine oS 5 (fun K hK=>?_);go_simp
   refine(y0 y.name _ hmem.1).mono ?_
   rintro e wa ⟨rfl,ea⟩
   go_wp2_with fail;refine hK.out _ _ blo (fun hHeld=>?_);clear hK K;(try simp only [Act.put,lyA,lyB,lyC])
   cases ho:zi y.name
   ·have hv:=Lib.hid (hv.out (by rw [hba.out,ho];rfl))
    refine tW 6 2 ?_
    refine sW 8 7 ?_
    refine tW 15 2 ?_
    refine sW 17 16 ?_
    refine tW 33 1 ?_
    refine wpAnyH_done (by kernel_rfl) ?_ _
    go_wp2_with fail
    go_ret
    exact⟨by rw [hv.out];rfl,blo⟩
   ·refine tS 6 ?_;(try simp only [Act.put,lyA,lyB,lyC])
    refine tW 7 6 ?_
    refine oS 13 (fun K hK=>?_);go_simp
    refine(ad5 y.value _ hmem.2).mono ?_
    rintro e wb ⟨rfl,eb⟩
    go_wp2_with fail;refine hK.out _ _ blo (fun hHeld=>?_);clear hK K;(try simp only [Act.put,lyA,lyB,lyC])
    cases hp:xP y.value
    ·have hv:=Lib.hid (hv.out (by rw [hba.out,ho,hp];rfl))
     refine tW 14 3 ?_
     refine sW 17 16 ?_
     refine tW 33 1 ?_
     refine wpAnyH_done (by kernel_rfl) ?_ _
     go_wp2_with fail
     go_ret
     exact⟨by rw [hv.out];rfl,blo⟩
    ·refine tS 14 ?_;(try simp only [Act.put,lyA,lyB,lyC])
     refine tW 15 2 ?_
     cases k with
     | zero=>
       have hbf:Hid (yP xs 0=false):=by rw [hba.out,ho,hp];rfl
       refine tW 17 3 ?_
       refine sW 20 12 ?_
       refine tW 32 2 ?_
       refine wpAnyH_done (by kernel_rfl) ?_ _
       go_wp2_with fail
       go_roundw
       case rel=>
        refine⟨1,by omega,by go_num,Lib.hid (by rw [hbs.out,HK.out,hbf.out];rfl),blo⟩
       case measure=>(first | (simp [intOf];done) | (simp [intOf];omega))
     | succ j=>
       obtain⟨b2,o2,hbo,_,_,f2,_⟩:=aaL hr (k:=j) (by omega)
       obtain⟨rfl,rfl⟩:b1=b2∧o1=o2:=by simpa using hbo
       rw [←acw xs j (by omega)]at f2
       have f3: ∀w',Ext wr w'→w'.cell? ⟨b1,o1+j * 2,none⟩=some (.string (nm xs j)):=fun w' h=>by rw [Below.cell (e1.trans h) hb1];exact f2
       have hd:decide (0 < j+1)=true:=by simp
       have hba:Hid (yP xs (j+1)=!zd (nm xs j) y.name):=by
        have h:=hba.out
        rw [Nat.add_sub_cancel,ho,hp,hd]at h
        exact h
       clear f2 hbo hd
       have hjn:(j:Int) < (n:Int):=by omega
       have p1:(j:Int)+1 < (n:Int):=by omega
       have p0:(0:Int)≤(j:Int)+1:=by omega
       have hs0:IntKind.i64.wrap (j:Int)=(j:Int):=IntWalk.i64_in _ (by omega)
       generalize nm xs j=z at *
       refine tW 17 14 ?_
       cases hq:zd z y.name
       ·have hv:=Lib.hid (hv.out (by rw [hba.out,hq];rfl))
        have hq2:(Op.bytesLess y.name.toList z.toList || y.name.toList == z.toList)=true:=by rw [←aac];exact congrArg (!·) hq
        refine tW 31 3 ?_
        refine wpAnyH_done (by kernel_rfl) ?_ _
        go_wp2_with fail
        go_ret
        exact⟨by rw [hv.out];rfl,blo⟩
       ·have hbf:Hid (yP xs (j+1)=false):=by rw [Hid,hba.out,hq];rfl
        have hq2:(Op.bytesLess y.name.toList z.toList || y.name.toList == z.toList)=false:=by rw [←aac];exact congrArg (!·) hq
        refine tW 31 3 ?_
        refine wpAnyH_done (by kernel_rfl) ?_ _
        go_wp2_with fail
        go_roundw
        case rel=>
         refine⟨j+2,by omega,by go_num,Lib.hid (by rw [hbs.out,HK.out,hbf.out];rfl),blo⟩
        case measure=>(first | (simp [intOf];done) | (simp [intOf];omega))
  ·obtain rfl:k=n:=by omega
   by_cases h8:8 < k
   ·have hv:Hid (prE xs=9):=by rw [Hid,prE,if_pos (by rw [←Hn.out];exact h8)]
    go_wp2_with fail
    go_ret
    exact⟨by rw [hv.out];rfl,e1⟩
   ·have hv:Hid (prE xs=0):=by
     have h1:=HK.out
     rw [Hn.out]at h1 h8
     rw [Hid,prE,if_neg h8,h1]
     rfl
    go_wp2_with fail
    go_ret
    exact⟨by rw [hv.out];rfl,e1⟩
theorem ym(w:World)(a b:Int)(h1: -9223372036854775808≤a)(h2:a≤9223372036854775807):
 Calls Tryz.prog 30 #[.int .i64 a,.int .i64 b] w fun e w'=>e= .returned (.bool (decide (b≤a) && decide (a≤1099511627776)))∧Ext w w':=by
 go_enter Tryz.func30,Tryz.ntmps30
 go_wp2_with fail
 all_goals (go_ret;refine⟨x9 ?_,Ext.refl _⟩;(first | (simp [*];done) | (simp [*];omega)))
theorem afh(w:World)(x:Rec)(hr:Rd w 0 w.heap.size x.oA (prps x.own))(hx:x.wf)(hk:x.kind=1):
 Calls Tryz.prog 79 #[.agg x.cells.toArray] w fun e w'=>e= .returned (.bool (zX x))∧Ext w w':=by
 have HS:=Lib.hid (show zX x=(zi x.name && decide (0≤x.frm) && decide (x.frm≤1099511627776) && decide (1≤x.guid) && decide (x.guid≤1099511627776) && decide (prE x.own=0) && x.index == 0 && x.count == 0 && x.data.toList == [] && yL x)by rw [zX,if_pos hk])
 obtain⟨k,n,f,g,oA,on,oc,own,i,c,d,s0,s1,s2,s3⟩:=x
 obtain⟨⟨h1,h2⟩,⟨h3,h4⟩,⟨h5,h6⟩,⟨h7,h8⟩,⟨h9,h10⟩,h11,h12,h13,h14,h15⟩:=hx
 simp only at hk h1 h2 h3 h4 h5 h6 h7 h8 h9 h10 h11 h12 h13 h14 h15 hr
 subst hk
 have H13:=Lib.hid h13
 have H15:=Lib.hid h15
 clear h13 h15
 generalize zX _=b at HS
 have hp:Hid (decide (prE own=0)=(prE own == 0)):=Lib.hid (by rw [Bool.eq_iff_iff];simp)
 have HP:=Lib.hid (fun w1 (e1:Ext w w1)=>qS w1 oA on oc own H13.out h14 (Rd.at hr e1 (Nat.le_refl _)) H15.out)
 generalize prE own=pe at *
 simp only [Rec.cells]
 go_enter Tryz.func79,Tryz.ntmps79
 go_upto_region 1 with(fail)
 generalize hw1:World.alloc w _=w1;obtain⟨ew1,zw1,Gw1⟩:=aag hw1;have gw1_0:=Gw1 0 _ rfl;have gw1_1:=Gw1 1 _ rfl;have gw1_2:=Gw1 2 _ rfl;have gw1_3:=Gw1 3 _ rfl;have gw1_4:=Gw1 4 _ rfl;have gw1_5:=Gw1 5 _ rfl;have gw1_6:=Gw1 6 _ rfl;have gw1_7:=Gw1 7 _ rfl;have gw1_8:=Gw1 8 _ rfl;have gw1_9:=Gw1 9 _ rfl;have gw1_10:=Gw1 10 _ rfl;have gw1_11:=Gw1 11 _ rfl;have Zw1:=Lib.hid zw1;clear zw1 hw1 Gw1;have rw1:=Ext.refl w1
 go_wp2_with (first
  | (go_at_call 29;(with_reducible refine(y0 n _ h11).mono ?_);rintro e wa ⟨rfl,ea⟩;have xa:Ext w1 wa:=blo)
  | (go_at_call 30;(with_reducible refine(ym _ f 0 h1 h2).mono ?_);rintro e wb ⟨rfl,eb⟩;have xb:Ext w1 wb:=blo)
  | (go_at_call 30;(with_reducible refine(ym _ g 1 h3 h4).mono ?_);rintro e wc ⟨rfl,ec⟩;have xc:Ext w1 wc:=blo)
  | (go_at_call 56;refine(HP.out _ blo).mono ?_;rintro e wd ⟨rfl,ed⟩;have xd:Ext w1 wd:=blo))
 all_goals (go_ret;refine⟨x9 ?_,blo⟩;rw [HS.out];(first | (simp [*,yL];done) | (rw [hp.out];simp [*,yL];done) | trace_state))
end Go.Proofs.YtckaneapjpiocaaGreatDoor
