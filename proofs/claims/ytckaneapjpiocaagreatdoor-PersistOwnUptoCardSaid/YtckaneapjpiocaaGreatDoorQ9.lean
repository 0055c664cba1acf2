/- The texts Rpth, Tr2, Rprp, Rchb, Rblk in one file. -/
import Derived.Test.YtckaneapjpiocaaGreatDoorQ7
set_option linter.unusedVariables false
set_option linter.unusedSimpArgs false
set_option maxHeartbeats 4000000
set_option maxRecDepth 100000
namespace Go.Proofs.YtckaneapjpiocaaGreatDoor
open Go.RowKit
theorem ao6:(Tryz.prog.info? 9).map (fun i=>(i.zero,i.size,i.bytes))=some (some (.string .empty),1,16):=by kernel_rfl
theorem adk(s:ByteArray)(a b:Nat):(s.extract a b).data.toList=(s.data.toList.take b).drop a:=by
 rw [ByteArray.data_extract,Array.toList_extract,List.extract_eq_take_drop,List.take_drop]
 by_cases h:a≤b
 ·rw [Nat.add_sub_cancel' h]
 ·have h1:b - a=0:=by omega
  rw [h1,Nat.add_zero,List.drop_eq_nil_of_le (by simp;omega),List.drop_eq_nil_of_le (by simp;omega)]
def anx(s:ByteArray)(w:World)(e:Ending)(w':World):Prop:=
 ∃(ps:List ByteArray) (v:Value),e= .returned v∧ps.map (·.data.toList)=xB s.data.toList∧w'.ownsRow w.heap.size 9 1 v ps.length (ps.map Value.string)∧Ext w w'
theorem ao7(s:ByteArray)(t k:Nat)(hk:k < s.size)(ht:t≤k)(out:List ByteArray)(h:xB s.data.toList=out.map (·.data.toList)++zP ((s.data.toList.take k).drop t) (s.data.toList.drop k)):
 (s[k]'hk≠47→xB s.data.toList=out.map (·.data.toList)++zP ((s.data.toList.take (k+1)).drop t) (s.data.toList.drop (k+1)))∧
 (s[k]'hk=47→xB s.data.toList=(out++ [s.extract t k]).map (·.data.toList)++zP ((s.data.toList.take (k+1)).drop (k+1)) (s.data.toList.drop (k+1))):=by
 have hl:k < s.data.toList.length:=by rw [zv];exact hk
 have hg:s.data.toList[k]'hl=s[k]'hk:=rfl
 rw [List.drop_eq_getElem_cons hl,zP,hg]at h
 constructor
 ·intro hn
  rw [if_neg hn]at h
  rw [h,List.take_succ_eq_append_getElem hl,List.drop_append_of_le_length (by rw [List.length_take];omega),hg]
 ·intro he
  rw [if_pos he]at h
  have z:(s.data.toList.take (k+1)).drop (k+1)= []:=List.drop_eq_nil_of_le (by rw [List.length_take];omega)
  rw [h,List.map_append,List.map_cons,List.map_nil,adk,List.append_assoc,List.singleton_append,z]
theorem aoP(s:ByteArray)(t:Nat)(out:List ByteArray)(h:xB s.data.toList=out.map (·.data.toList)++zP ((s.data.toList.take s.size).drop t) (s.data.toList.drop s.size)):(out++ [s.extract t s.size]).map (·.data.toList)=xB s.data.toList:=by
 have z:s.data.toList.drop s.size= []:=List.drop_eq_nil_of_le (by rw [zv];exact Nat.le_refl _)
 rw [z,zP]at h
 rw [h,List.map_append,List.map_cons,List.map_nil,adk]
theorem aiH(s:ByteArray)(w:World)(hs:s.size < 4294967281):Calls Tryz.prog 134 #[.string s,.int .u8 47] w (anx s w):=by
 obtain⟨i0,hi0,hz0,hz1,hz2⟩:=info_parts ao6
 have HB:=hiD (ao7 s)
 have HE:=hiD (aoP s)
 go_enter Tryz.func134,Tryz.ntmps134
 go_wp2_with fail
 go_loopw [5,6,7] (fun o a i wr=> ∃(k t:Nat) (out:List ByteArray),k≤s.size∧i= .int .i64 k∧a= .int .i64 t∧t≤k∧out.length≤k∧
  wr.ownsRow w.heap.size 9 1 o out.length (out.map Value.string)∧xB s.data.toList=out.map (·.data.toList)++zP ((s.data.toList.take k).drop t) (s.data.toList.drop k)∧Ext w wr) (fun _ _ i _=>s.size - (intOf i).toNat)
 case atStart=>exact⟨0,0, [],Nat.zero_le _,rfl,rfl,Nat.le_refl _,Nat.le_refl _,World.ownsRow_nil _ _ _ _,rfl,Ext.refl _⟩
 case round=>
  obtain⟨k,t,out,hk,rfl,rfl,ht,hol,hown0,hrun,e1⟩:=hrel
  have hown:=hiD hown0
  clear hown0
  have HR:=hiD hrun
  clear hrun
  by_cases hlt:k < s.size
  ·obtain⟨G1,G2⟩:=HB.out t k hlt ht out HR.out
   have H1:=hiD G1
   have H2:=hiD G2
   clear G1 G2
   obtain⟨y,hy⟩: ∃y,s[k]'hlt=y:=⟨_,rfl⟩
   rw [hy]at H1 H2
   by_cases h47:y=47
   ·subst h47
    have H3:=hiD (H2.out rfl)
    clear H1 H2
    have HO:=hiD (show(out.length+1) * 16≤140737488355328 by omega)
    have HO2:=hiD (show w.heap.size≤(wr.alloc (.cells #[.string (s.extract t k)] 9)).heap.size by have:=e1.size;simp;omega)
    go_upto_region 7 with fail
    iterate 60 (first | at_builtin | go_step)
    refine qR _ rfl (.tmp 19) (.tmp 24) _ rfl 9 i0 _ 1 16 Tryz.underlying109 hi0 hz0 hz1 hz2 rfl (by omega) _ _ out.length _ rfl (hown.out.alloc _) 0 _ _ 1 1 [.string (s.extract t k)] rfl rfl
     ((acX _ _ _).m0) (by simp [Value.oneCell']) (by have:=HO.out;simp only [maxLen];omega) HO.out HO2.out ?_
    intro v7 w7 hown7 he7 _ _
    have e9:Ext w w7:=he7 _ (e1.alloc _) (Nat.le_refl _)
    clear he7 hown
    go_wp2_with fail
    go_roundw
    case rel=>
     refine⟨k+1,k+1,out++ [s.extract t k],by omega,by go_num,by go_num,by omega,?_,?_,H3.out,e9⟩
     ·rw [List.length_append];simp;omega
     ·rw [List.length_append,List.map_append];exact hown7
    case measure=>simp [intOf];omega
   ·have H3:=hiD (H1.out h47)
    have hb: ¬y.toNat=47:=fun e=>h47 (UInt8.toNat_inj.1 e)
    clear H1 H2
    go_wp2_with fail
    go_roundw
    case rel=>exact⟨k+1,t,out,by omega,by go_num,rfl,by omega,by omega,hown.out,H3.out,e1⟩
    case measure=>simp [intOf];omega
  ·obtain rfl:k=s.size:=by omega
   have H3:=hiD (HE.out t out HR.out)
   have HO:=hiD (show(out.length+1) * 16≤140737488355328 by omega)
   have HO2:=hiD (show w.heap.size≤(wr.alloc (.cells #[.string (s.extract t s.size)] 9)).heap.size by have:=e1.size;simp;omega)
   go_upto_region 9 with fail
   iterate 60 (first | at_builtin | go_step)
   refine qR _ rfl (.tmp 28) (.tmp 32) _ rfl 9 i0 _ 1 16 Tryz.underlying109 hi0 hz0 hz1 hz2 rfl (by omega) _ _ out.length _ rfl (hown.out.alloc _) 0 _ _ 1 1 [.string (s.extract t s.size)] rfl rfl
    ((acX _ _ _).m0) (by simp [Value.oneCell']) (by have:=HO.out;simp only [maxLen];omega) HO.out HO2.out ?_
   intro v7 w7 hown7 he7 _ _
   have e9:Ext w w7:=he7 _ (e1.alloc _) (Nat.le_refl _)
   clear he7 hown
   go_wp2_with fail
   go_ret
   refine⟨out++ [s.extract t s.size],v7,rfl,H3.out,?_,e9⟩
   rw [List.length_append,List.map_append];exact hown7
theorem aa8(s:ByteArray)(w:World)(hs:s.size < 4294967281):Calls Tryz.prog 73 #[.string s] w fun e w'=>e= .returned (.bool (zF s))∧Ext w w':=by
 by_cases h0:s.size=0
 ·obtain rfl:=ql s h0
  have hv:=hiD (show zF ⟨#[]⟩=true from rfl)
  go_enter Tryz.func73,Tryz.ntmps73
  go_wp2_with fail
  go_ret
  exact⟨by rw [hv.out];rfl,Ext.refl _⟩
 ·have HS:=hiD (aiH s w hs)
  have b0:s.toList.isEmpty=false:=by
   rw [ByteArray.toList_eq,List.isEmpty_eq_false_iff]
   intro e
   have:=zv s
   rw [e]at this
   exact h0 this.symm
  have HP:=hiD (fun ps hp=>ahd s (by omega) ps hp)
  have HF:=hiD (agf s (by omega))
  have HL:=hiD (af7 s)
  have HB:=hiD hs
  clear hs
  go_enter Tryz.func73,Tryz.ntmps73
  go_wp2_with fail
  refine HS.out.mono ?_
  rintro e w2 ⟨ps,v,rfl,hp,hown,e2⟩
  have hv:=hiD (HP.out ps hp)
  have hf:=hiD (HF.out ps hp)
  have hl:=hiD (HL.out ps hp)
  clear hp
  obtain⟨A,c,rfl,hc,hc2,_⟩:=zr hown
  have HR:=hiD (Rd.of_own hown)
  clear hown
  have hbig:ps.length≤4294967299:=by have:=hl.out;have:=HB.out;omega
  go_wp2_with fail
  go_loopw [4] (fun i wr=> ∃k:Nat,k≤ps.length∧i= .int .i64 k∧(ps.take k).any xY=false∧Ext w2 wr) (fun i _=>ps.length - (intOf i).toNat)
  case atStart=>exact⟨0,Nat.zero_le _,rfl,rfl,Ext.refl _⟩
  case round=>
   obtain⟨k,hk,rfl,hno,e3⟩:=hrel
   have HK:=hiD hno
   clear hno
   by_cases hlt:k < ps.length
   ·obtain⟨b1,o1,rfl,_,_,f0⟩:=abL (HR.out.ext e3 (Nat.le_refl _)) (k:=k) (by omega)
    obtain⟨y,hy⟩: ∃y,y=ps[k]'hlt:=⟨_,rfl⟩
    rw [←hy]at f0
    have HY:=hiD hy
    clear hy
    have HLT:=hiD hlt
    go_wp2_with fail
    refine(qN y _ (by have:=hf.out y (by rw [HY.out];exact List.getElem_mem _);exact this)).mono ?_
    rintro e w4 ⟨rfl,e4⟩
    cases ho:zd y
    ·have hq:zF s=false:=by
      rw [hv.out]
      have h1:ps.any xY=true:=List.any_eq_true.2 ⟨y,by rw [HY.out];exact List.getElem_mem _,by rw [xY,ho];rfl⟩
      rw [h1]
      simp
     have hv:=hiD hq
     clear hq
     go_wp2_with fail
     go_ret
     exact⟨by rw [hv.out];rfl,blo⟩
    ·go_wp2_with fail
     go_roundw
     case rel=>
      refine⟨k+1,HLT.out,by go_num,?_,blo⟩
      rw [List.take_succ_eq_append_getElem hlt,List.any_append,HK.out,←HY.out]
      simp [xY,ho]
     case measure=>(have:=HLT.out;simp [intOf];omega)
   ·obtain rfl:k=ps.length:=by omega
    have h1:=HK.out
    rw [List.take_of_length_le (Nat.le_refl _)]at h1
    have hq:zF s=decide (ps.length≤4):=by rw [hv.out,h1];simp
    have hv:=hiD hq
    clear hq h1
    by_cases h4:ps.length≤4
    ·have hd:decide ((ps.length:Int)≤4)=true:=by simp;omega
     have hq:zF s=true:=by rw [hv.out,decide_eq_true h4]
     have hv:=hiD hq
     clear hq
     go_wp2_with fail
     go_ret
     exact⟨by rw [hv.out];rfl,blo⟩
    ·have hd:decide ((ps.length:Int)≤4)=false:=by simp;omega
     have hq:zF s=false:=by rw [hv.out,decide_eq_false h4]
     have hv:=hiD hq
     clear hq
     go_wp2_with fail
     go_ret
     exact⟨by rw [hv.out];rfl,blo⟩
open Go.Maps Go.Sort Go.Shelf
theorem aiO(s:ByteArray)(w:World)(hM:xf w)(hs:s.size≤1048576):
 Calls Tryz.prog 137 #[.string s] w fun e w'=>e= .returned (.tuple #[.string ((xN s).getD ⟨#[]⟩),.bool (xN s).isSome])∧Ext w w':=by
 by_cases h0:s.size=0
 ·obtain rfl:=ql s h0
  have hv:=hiD (show xN ⟨#[]⟩=none from rfl)
  go_enter Tryz.func137,Tryz.ntmps137
  go_wp2_with fail
  go_ret2
  exact⟨by rw [hv.out];rfl,Ext.refl _⟩
 ·have b0:s.toList.isEmpty=false:=by
   rw [ByteArray.toList_eq,List.isEmpty_eq_false_iff]
   intro e
   have:=zv s
   rw [e]at this
   exact h0 this.symm
  have HP:=hiD (aaZ s w hM (by omega))
  have HL:=hiD (fun W=>Tryz.strings_LastIndexByte s 47 (by omega) W)
  have HV:=hiD (show xN s=if zF s=true then some (s.extract 0 (max (Go.Lib.lastIndexByte s 47) 0).toNat)else none by rw [xN,if_neg h0])
  have hb: -1≤Go.Lib.lastIndexByte s 47∧Go.Lib.lastIndexByte s 47 < (s.size:Int):=by
   rcases Go.Lib.lastIndexByte_spec s 47 with⟨e,_⟩ | ⟨i,hi,e,_⟩ <;> rw [e] <;> omega
  generalize Go.Lib.lastIndexByte s 47=k at *
  generalize zF s=pb at *
  generalize xN s=V at *
  clear h0
  cases pb with
  | false=>
    obtain rfl:V=none:=HV.out
    go_enter Tryz.func137,Tryz.ntmps137
    go_wp2_with (refine HP.out.mono ?_;rintro e w2 ⟨rfl,e2⟩)
    go_ret2
    exact⟨rfl,e2⟩
  | true=>
    obtain rfl:V=some (s.extract 0 (max k 0).toNat):=HV.out
    go_enter Tryz.func137,Tryz.ntmps137
    go_upto_region 3 with(refine HP.out.mono ?_;rintro e w2 ⟨rfl,e2⟩)
    go_wp2_with fail
    refine(HL.out _).mono ?_
    rintro e w3 ⟨rfl,rfl⟩
    go_wp2_with fail
    go_ret2
    exact⟨rfl,e2⟩
theorem anJ(s:ByteArray)(k:Nat):(⟨(s.data.toList.take k).toArray⟩:ByteArray)=s.extract 0 k:=by
 have h:=adk s 0 k
 rw [List.drop_zero]at h
 cases hq:s.extract 0 k with
 | mk d=>rw [hq]at h;congr 1;exact Array.toList_inj.1 (by rw [←h])
theorem al6(s:ByteArray)(k:Nat):(⟨(s.data.toList.drop k).toArray⟩:ByteArray)=s.extract k s.size:=by
 have h:=adk s k s.size
 rw [List.take_of_length_le (by rw [zv];exact Nat.le_refl _)]at h
 cases hq:s.extract k s.size with
 | mk d=>rw [hq]at h;congr 1;exact Array.toList_inj.1 (by rw [←h])
theorem an4(s:ByteArray):(zT s).size≤s.size:=by rw [zT,ByteArray.size_extract];omega
theorem anE(s:ByteArray):(yP s).size≤s.size:=by rw [yP,ByteArray.size_extract];omega
theorem aiw(s:ByteArray)(w:World)(hM:xf w)(hs:s.size≤1048576):
 Calls Tryz.prog 183 #[.string s] w fun e w'=>e= .returned (if abg s=true then .tuple #[.string (zT s),.string (yP s),.int .i64 0]else .tuple #[.string ⟨#[]⟩,.string ⟨#[]⟩,.int .i64 31])∧Ext w w':=by
 obtain⟨m,hm⟩:=id hM
 have HC:=hiD (Tryz.strings_Cut s ⟨#[64]⟩ m w (by omega) hm)
 have HP:=hiD (fun W (hW:Ext w W)=>aaZ (zT s) W (hM.ext hW) (by have:=an4 s;omega))
 have HN:=hiD (fun W=>qq (yP s) W (by have:=anE s;omega))
 have HV:=hiD (show abg s=(decide (0≤atI s) && (zF (zT s) && zd (yP s)))from rfl)
 have HK:=hiD (show 0≤atI s→Go.Lib.cut s.data.toList [64]=((zT s).data.toList,(yP s).data.toList,true)from fun h=>by
  unfold atI at h
  rw [Go.Lib.cut,if_pos h,zT,yP,←anJ,←al6];rfl)
 have HJ:=hiD (show¬0≤atI s→Go.Lib.cut s.data.toList [64]=(s.data.toList, [],false)from fun h=>by
  unfold atI at h
  rw [Go.Lib.cut,if_neg h])
 generalize abg s=V at *
 clear hm hM hs
 by_cases h0:0≤atI s
 ·have hk:=HK.out h0
  rw [decide_eq_true h0]at HV
  rw [show(⟨#[64]⟩:ByteArray).data.toList= [64]from rfl,hk]at HC
  simp only at HC
  rw [show(⟨(zT s).data.toList.toArray⟩:ByteArray)=zT s from rfl,show(⟨(yP s).data.toList.toArray⟩:ByteArray)=yP s from rfl]at HC
  clear HK HJ hk h0
  generalize zT s=p at *
  generalize yP s=q at *
  cases hp:zF p with
  | false=>
    rw [hp]at HV HP
    obtain rfl:V=false:=HV.out
    go_enter Tryz.func183,Tryz.ntmps183
    go_wp2_with fail
    refine HC.out.mono ?_
    rintro e w2 ⟨rfl,nn,rfl⟩
    have E2:Ext w (w.drewN nn):=Ext.drewN (Ext.refl w) nn
    go_wp2_with fail
    refine(HP.out _ E2).mono ?_
    rintro e w3 ⟨rfl,e3⟩
    have HE:=hiD (E2.trans e3)
    clear E2 e3
    go_wp2_with fail
    go_ret3
    exact⟨rfl,HE.out⟩
  | true=>
    rw [hp]at HV HP
    cases hq:zd q with
    | false=>
      rw [hq]at HV HN
      obtain rfl:V=false:=HV.out
      go_enter Tryz.func183,Tryz.ntmps183
      go_wp2_with fail
      refine HC.out.mono ?_
      rintro e w2 ⟨rfl,nn,rfl⟩
      have E2:Ext w (w.drewN nn):=Ext.drewN (Ext.refl w) nn
      go_wp2_with fail
      refine(HP.out _ E2).mono ?_
      rintro e w3 ⟨rfl,e3⟩
      have HE:=hiD (E2.trans e3)
      clear E2 e3
      go_wp2_with fail
      refine(HN.out _).mono ?_
      rintro e w4 ⟨rfl,e4⟩
      go_wp2_with fail
      go_ret3
      exact⟨rfl,HE.out.trans e4⟩
    | true=>
      rw [hq]at HV HN
      obtain rfl:V=true:=HV.out
      go_enter Tryz.func183,Tryz.ntmps183
      go_wp2_with fail
      refine HC.out.mono ?_
      rintro e w2 ⟨rfl,nn,rfl⟩
      have E2:Ext w (w.drewN nn):=Ext.drewN (Ext.refl w) nn
      go_wp2_with fail
      refine(HP.out _ E2).mono ?_
      rintro e w3 ⟨rfl,e3⟩
      have HE:=hiD (E2.trans e3)
      clear E2 e3
      go_wp2_with fail
      refine(HN.out _).mono ?_
      rintro e w4 ⟨rfl,e4⟩
      go_wp2_with fail
      go_ret3
      exact⟨rfl,HE.out.trans e4⟩
 ·have hk:=HJ.out h0
  rw [decide_eq_false h0]at HV
  obtain rfl:V=false:=HV.out
  rw [show(⟨#[64]⟩:ByteArray).data.toList= [64]from rfl,hk]at HC
  simp only at HC
  clear HK HJ hk h0 HP HN
  go_enter Tryz.func183,Tryz.ntmps183
  go_wp2_with fail
  refine HC.out.mono ?_
  rintro e w2 ⟨rfl,nn,rfl⟩
  have E2:Ext w (w.drewN nn):=Ext.drewN (Ext.refl w) nn
  go_wp2_with fail
  go_ret3
  exact⟨rfl,E2⟩
theorem ain(w:World)(s:ByteArray):Calls Tryz.prog 123 #[.string s] w fun e w'=>e= .returned (.bool false)∧w'=w:=by
 go_enter Tryz.func123,Tryz.ntmps123
 go_wp2_with fail
 go_ret
 exact⟨by simp,rfl⟩
theorem ajO(w:World)(a b:ByteArray):Calls Tryz.prog 230 #[.string a,.string b] w fun e w'=>e= .returned (.bool (lessB a b))∧w'=w:=by
 have HL:=hiD (show lessB a b=Op.bytesLess a.toList b.toList from rfl)
 generalize lessB a b=V at *
 go_enter Tryz.func230,Tryz.ntmps230
 go_wp2_with (refine(ain _ _).mono ?_;rintro e wN ⟨rfl,rfl⟩)
 go_ret
 exact⟨by rw [HL.out];simp,rfl⟩
def abQ(l:List ByteArray):Bool:=(List.range (l.length - 1)).all fun k=>!lessB (l.getD (k+1) .empty) (l.getD k .empty)
theorem aiK(w:World)(A:Option Addr)(n c:Nat)(l:List ByteArray)(hn:n=l.length)(hm:n≤9223372036854775807)(hr:Rd w 0 w.heap.size A (l.map Value.string)):
 Calls Tryz.prog 211 #[.slice A n c] w fun e w'=>e= .returned (.bool (abQ l))∧Ext w w':=by
 have Hn:=hiD hn
 have HNo:=hiD (fun(k:Nat) (h:k+1 < l.length) (hp:lessB l[k+1] l[k]=true)=>show abQ l=false by
  rw [abQ,List.all_eq_false]
  refine⟨k,List.mem_range.2 (by omega),?_⟩
  simp [List.getD,List.getElem?_eq_getElem h,List.getElem?_eq_getElem (show k < l.length by omega),hp])
 have HYes:=hiD (fun(hp: ∀k (h:k+1 < l.length),lessB l[k+1] l[k]=false)=>show abQ l=true by
  rw [abQ,List.all_eq_true]
  intro k hk
  have hk:=List.mem_range.1 hk
  simp [List.getD,List.getElem?_eq_getElem (show k+1 < l.length by omega),List.getElem?_eq_getElem (show k < l.length by omega),hp k (by omega)])
 generalize abQ l=V at *
 clear hn
 go_enter Tryz.func211,Tryz.ntmps211
 go_wp2_with fail
 go_loopw [3] (fun i wr=> ∃k:Int,-1≤k∧k < (n:Int)∧i= .int .i64 k∧Hid (∀j (h:j+1 < l.length),k≤(j:Int)→lessB l[j+1] l[j]=false)∧Ext w wr) (fun i _=>(intOf i).toNat)
 case atStart=>exact⟨(n:Int) - 1,by omega,by omega,by go_num,hiD (fun j h hj=>by have:=Hn.out;omega),Ext.refl _⟩
 case round=>
  obtain⟨k,hk,hkn,rfl,HK,e1⟩:=hrel
  by_cases hlt:0 < k
  ·obtain⟨j,rfl⟩: ∃j:Nat,k=(j:Int)+1:=⟨(k - 1).toNat,by omega⟩
   have l1:j+1 < l.length:=by rw [←Hn.out];omega
   have l0:j < l.length:=by omega
   obtain⟨b1,o1,rfl,_,_,f1⟩:=abL (Rd.at hr e1 (Nat.le_refl _)) l1
   obtain⟨b2,o2,hh,_,_,f0⟩:=abL (Rd.at hr e1 (Nat.le_refl _)) l0
   obtain⟨rfl,rfl⟩:b1=b2∧o1=o2:=by simpa using hh
   have HB:=hiD (HNo.out j l1)
   have HT:=hiD (fun(hp:lessB l[j+1] l[j]=false) (i:Nat) (h:i+1 < l.length) (hi:(j:Int)≤(i:Int))=>show lessB l[i+1] l[i]=false from by
    rcases Nat.lt_or_ge j i with h1 | h1
    ·exact HK.out i h (by omega)
    ·obtain rfl:i=j:=by omega
     exact hp)
   generalize l[j+1]=x at *
   generalize l[j]=y at *
   have q0:(0:Int)≤(j:Int)+1:=by omega
   have q1:(j:Int)+1 < (n:Int):=hkn
   have q2:(j:Int) < (n:Int):=by omega
   have q3:IntKind.i64.wrap (j:Int)=(j:Int):=IntWalk.i64_in _ (by omega)
   clear hh l0 l1
   have c0: ∀W,Ext wr W→W.cell? ⟨b1,o1+(j+1),none⟩=some (.string x):=fun W hW=>(Below.cell hW (World.block_lt_of_cell? wr _ f1)).trans f1
   have c1: ∀W,Ext wr W→W.cell? ⟨b1,o1+j,none⟩=some (.string y):=fun W hW=>(Below.cell hW (World.block_lt_of_cell? wr _ f0)).trans f0
   clear f0 f1
   go_upto_region 4 with fail
   refine wp_region_held_drew (S:=fun W=>Ext wr W) (by kernel_rfl) (Ext.drew (Ext.refl wr)) (fun hHeld=>?_)
   refine tW 0 9 ?_
   clear hHeld
   refine oS 9 (fun K hK=>?_)
   go_simp
   refine(ajO _ x y).mono ?_
   rintro e w3 ⟨rfl,rfl⟩
   go_wp2_with fail
   refine hK.out _ _ (Ext.drew (Ext.refl wr)) (fun hHeld=>?_)
   clear hK K
   refine lyX ?_
   refine dnX ?_
   clear hHeld c0 c1
   cases hb:lessB x y with
   | true=>
     go_wp2_with fail
     go_ret
     exact⟨by rw [HB.out hb];rfl,Ext.drew e1⟩
   | false=>
     have HT2:=hiD (HT.out hb)
     clear HT HB hb
     go_wp2_with fail
     go_roundw
     case rel=>exact⟨(j:Int),by omega,by omega,by go_num,HT2,Ext.drew e1⟩
     case measure=>(first | (simp [intOf];done) | (simp [intOf];omega))
  ·go_wp2_with fail
   go_ret
   exact⟨by rw [HYes.out (fun j h=>HK.out j h (by omega))];rfl,e1⟩
theorem aju{P:Program}(w:World)(t e:TypeId)(inf:TypeInfo)(ht:P.underlying t=some (.slice e))(hi:P.info? e=some inf)(A:Option Addr)(n c m:Nat)(M:Int)(hM:M=(m:Int))(hm:m≤c):
 (Instr.slice t (.slice A n c) none (some (.int .i64 M)) none).run P w= .ok (.slice A m c) w:=by
 subst hM
 have hb:(Instr.sliceBounds true n c none (some (.int .i64 (m:Int))) none).run P w= .ok (0,m,c) w:=by
  simp [Instr.sliceBounds,run_sliceBound (P:=P) w .i64 (m:Int) c .sliceAcap (by omega) (by omega)]
 cases A with
 | none=>simp [Instr.slice,run_underlying ht,hb,sizeOf,typeInfo,hi]
 | some a=>simp [Instr.slice,run_underlying ht,hb,sizeOf,typeInfo,hi,Addr.add]
theorem aoU(l:List ByteArray)(k:Nat)(h:k < l.length)(hp:zd l[k]=false∨qO (l.take k) l[k]=true):qo l=false:=by
 rw [qo,List.all_eq_false]
 refine⟨k,List.mem_range.2 h,?_⟩
 simp only [List.getD,List.getElem?_eq_getElem h,Option.getD_some]
 rcases hp with hp | hp <;> rw [hp] <;> simp
theorem ah0(l:List ByteArray)(hp: ∀k (h:k < l.length),zd l[k]=true∧qO (l.take k) l[k]=false):qo l=true:=by
 rw [qo,List.all_eq_true]
 intro k hk
 have hk:=List.mem_range.1 hk
 simp only [List.getD,List.getElem?_eq_getElem hk,Option.getD_some]
 rw [(hp k hk).1,(hp k hk).2];rfl
theorem ahf(l:List ByteArray)(x:ByteArray):Go.Lib.containsS l x=qO l x:=by
 cases h:qO l x with
 | true=>exact(Go.Lib.containsS_iff l x).2 ((abu l x).1 h)
 | false=>
   cases h2:Go.Lib.containsS l x with
   | false=>rfl
   | true=>rw [(abu l x).2 ((Go.Lib.containsS_iff l x).1 h2)]at h;exact h
theorem afo(w:World)(A:Option Addr)(n c:Nat)(l:List ByteArray)(hn:n=l.length)(hc:n≤c)(hm:c≤maxLen)(hr:Rd w 0 w.heap.size A (l.map Value.string))(hs: ∀s∈l,sml s):
 Calls Tryz.prog 182 #[.slice A n c] w fun e w'=>e= .returned (.bool (qo l))∧Ext w w':=by
 obtain⟨i0,hi0,hz0,hz1,hz2⟩:=info_parts abd
 have Hn:=hiD hn
 have HS:=hiD hs
 have HNo:=hiD (aoU l)
 have HYes:=hiD (ah0 l)
 have hm2:n≤9223372036854775807:=Nat.le_trans (Nat.le_trans hc hm) (by decide)
 generalize qo l=V at *
 clear hn hs
 go_enter Tryz.func182,Tryz.ntmps182
 go_wp2_with fail
 go_loopw [3,4,7] (fun _ _ i wr=> ∃k:Nat,k≤n∧i= .int .i64 k∧Hid (∀j (h:j < l.length),j < k→zd l[j]=true∧qO (l.take j) l[j]=false)∧Ext w wr) (fun _ _ i _=>n - (intOf i).toNat)
 case atStart=>exact⟨0,Nat.zero_le _,rfl,hiD (fun j h hj=>absurd hj (Nat.not_lt_zero _)),Ext.refl _⟩
 case round=>
  obtain⟨k,hk,rfl,HK,e1⟩:=hrel
  by_cases hlt:k < n
  ·have l1:k < l.length:=by rw [←Hn.out];exact hlt
   obtain⟨b1,o1,rfl,_,hb1,f1⟩:=abL (Rd.at hr e1 (Nat.le_refl _)) l1
   have HCs:=hiD (fun(W:World) (hW:Ext wr W) (x:ByteArray)=>show Calls Tryz.prog 212 #[.slice (some ⟨b1,o1,none⟩) k c,.string x] W (fun e w'=>e= .returned (.bool (qO (l.take k) x))∧w'=W)from by
    refine(Tryz.slices_Contains_string b1 o1 k c l x W (by omega) (by omega) (fun j hj=>?_)).mono ?_
    ·obtain⟨b2,o2,hh,_,hb2,f2⟩:=abL (Rd.at hr e1 (Nat.le_refl _)) hj
     obtain⟨rfl,rfl⟩:b1=b2∧o1=o2:=by simpa using hh
     rw [Below.cell hW hb2,f2]
     simp [List.getD,hj]
    ·rintro e w' ⟨rfl,rfl⟩
     exact⟨by rw [ahf],rfl⟩)
   have HNm:=hiD (fun W=>qq l[k] W (Nat.le_trans (HS.out _ (List.getElem_mem l1)) (by decide)))
   have HB:=hiD (HNo.out k l1)
   have HT:=hiD (fun(hp:zd l[k]=true∧qO (l.take k) l[k]=false) (j:Nat) (h:j < l.length) (hj:j < k+1)=>show zd l[j]=true∧qO (l.take j) l[j]=false from by
    rcases Nat.lt_or_ge j k with h1 | h1
    ·exact HK.out j h h1
    ·obtain rfl:j=k:=by omega
     exact hp)
   generalize l[k]=x at *
   have hs1:=fun W=>aju (P:=Tryz.prog) W 109 9 i0 Tryz.underlying109 hi0 (some ⟨b1,o1,none⟩) n c k (k:Int) rfl (by omega)
   cases hb:zd x with
   | false=>
     rw [hb]at HNm
     have HF:=hiD (HB.out (.inl hb))
     clear hb HB HT
     go_wp2_with fail
     refine(HNm.out _).mono ?_
     rintro e w2 ⟨rfl,e2⟩
     have HE:=hiD (e1.trans e2)
     go_wp2_with fail
     go_ret
     exact⟨by rw [HF.out];rfl,HE.out⟩
   | true=>
     rw [hb]at HNm
     cases hd:qO (l.take k) x with
     | true=>
       have HF:=hiD (HB.out (.inr hd))
       clear hb HB HT
       go_wp2_with fail
       refine(HNm.out _).mono ?_
       rintro e w2 ⟨rfl,e2⟩
       have HE:=hiD (e1.trans e2)
       have HE2:=hiD e2
       clear e1 e2
       go_wp2_with fail
       refine(HCs.out _ HE2.out x).mono ?_
       rintro e w3 ⟨rfl,rfl⟩
       rw [hd]
       go_wp2_with fail
       go_ret
       exact⟨by rw [HF.out];rfl,HE.out⟩
     | false=>
       have HT2:=hiD (HT.out ⟨hb,hd⟩)
       clear hb HB HT
       go_wp2_with fail
       refine(HNm.out _).mono ?_
       rintro e w2 ⟨rfl,e2⟩
       have HE:=hiD (e1.trans e2)
       have HE2:=hiD e2
       clear e1 e2
       go_wp2_with fail
       refine(HCs.out _ HE2.out x).mono ?_
       rintro e w3 ⟨rfl,rfl⟩
       rw [hd]
       go_wp2_with fail
       go_roundw
       case rel=>exact⟨k+1,by omega,by go_num,HT2,HE.out⟩
       case measure=>(first | (simp [intOf];done) | (simp [intOf];omega))
  ·obtain rfl:k=n:=by omega
   go_wp2_with fail
   go_ret
   exact⟨by rw [HYes.out (fun j h=>HK.out j h (by rw [Hn.out];exact h))];rfl,e1⟩
theorem anF(a b:UInt8)(x y:List UInt8):Op.bytesLess (a::x) (b::y)=(decide (a < b) || (decide (a=b) && Op.bytesLess x y)):=by
 simp only [Op.bytesLess]
 by_cases h1:a < b
 ·simp [h1]
 ·by_cases h2:b < a
  ·have:a≠b:=fun e=>by subst e;exact h1 h2
   simp [h1,h2,this]
  ·have:a=b:=UInt8.le_antisymm (UInt8.not_lt.1 h2) (UInt8.not_lt.1 h1)
   subst this
   simp [h1]
theorem ane: ∀x y:List UInt8,Op.bytesLess x y=decide (x < y)
 | [], []=>by simp [Op.bytesLess]
 | _::_, []=>by simp [Op.bytesLess]
 | [],_::_=>by simp [Op.bytesLess]
 | a::x,b::y=>by rw [anF,ane x y,Bool.eq_iff_iff,decide_eq_true_eq,List.cons_lt_cons_iff];simp
theorem agY(a b:ByteArray):lessB a b=decide (a.toList < b.toList):=ane _ _
theorem abH{a b c:ByteArray}(h1:lessB a b=true)(h2:lessB b c=true):lessB a c=true:=by
 rw [agY,decide_eq_true_eq]at *
 exact List.lt_trans h1 h2
theorem aa7(a:ByteArray):lessB a a=false:=by
 rw [agY,decide_eq_false_iff_not]
 exact List.lt_irrefl _
theorem aeB{a b:ByteArray}(h:lessB a b=true):lessB b a=false:=by
 cases h2:lessB b a with
 | false=>rfl
 | true=>exact absurd (abH h h2) (by rw [aa7];decide)
theorem acx{a b:ByteArray}(h1:lessB a b=false)(h2:lessB b a=false):a=b:=by
 have h:=xP a b
 rw [h1,h2,Bool.false_or]at h
 have e:b.toList=a.toList:=by simpa using h
 rw [Lib.toList_data,Lib.toList_data]at e
 cases a;cases b
 congr 1
 exact(Array.toList_inj.1 e).symm
theorem aos(l:List ByteArray):aad l=(decide (l.length≤4) && (qo l && abQ l)):=by
 unfold aad
 congr 1
 cases hr:(l.all zd && yR l)with
 | true=>
   rw [Bool.and_eq_true]at hr
   obtain⟨h1,h2⟩:=hr
   have hlt: ∀k (h:k+1 < l.length),lessB l[k] l[k+1]=true:=fun k h=>by
    cases hp:lessB l[k] l[k+1]with
    | true=>rfl
    | false=>rw [aca l k h hp]at h2;cases h2
   have htr: ∀d k (h:k+d+1 < l.length),lessB l[k] l[k+d+1]=true:=fun d=>by
    induction d with
    | zero=>exact fun k h=>hlt k h
    | succ d ih=>exact fun k h=>abH (ih k (by omega)) (hlt (k+d+1) h)
   have u:qo l=true:=ah0 l fun k h=>⟨List.all_eq_true.1 h1 _ (List.getElem_mem h),by
    cases hh:qO (l.take k) l[k]with
    | false=>rfl
    | true=>
      obtain⟨j,hj,e⟩:=List.getElem_of_mem ((abu _ _).1 hh)
      have hj2:j < k:=by have:=hj;rw [List.length_take]at this;omega
      rw [List.getElem_take]at e
      have h3:=htr (k - j - 1) j (by omega)
      simp only [show j+(k - j - 1)+1=k by omega]at h3
      rw [e,aa7]at h3;cases h3⟩
   have s:abQ l=true:=by
    rw [abQ,List.all_eq_true]
    intro k hk
    have hk:=List.mem_range.1 hk
    simp only [List.getD,List.getElem?_eq_getElem (show k+1 < l.length by omega),List.getElem?_eq_getElem (show k < l.length by omega),Option.getD_some]
    cases h5:lessB l[k+1] l[k]with
    | false=>rfl
    | true=>rw [aeB (hlt k (by omega))]at h5;cases h5
   rw [u,s];rfl
 | false=>
   symm
   cases hq:(qo l && abQ l)with
   | false=>rfl
   | true=>
     rw [Bool.and_eq_true]at hq
     obtain⟨h1,h2⟩:=hq
     rw [qo,List.all_eq_true]at h1
     rw [abQ,List.all_eq_true]at h2
     have hn:l.all zd=true:=List.all_eq_true.2 fun x hx=>by
      obtain⟨k,hk,rfl⟩:=List.getElem_of_mem hx
      have h3:=h1 k (List.mem_range.2 hk)
      simp only [List.getD,List.getElem?_eq_getElem hk,Option.getD_some,Bool.and_eq_true]at h3
      exact h3.1
     have hr2:yR l=true:=aa1 l fun k h=>by
      have h3:=h1 (k+1) (List.mem_range.2 h)
      have h4:=h2 k (List.mem_range.2 (by omega))
      simp only [List.getD,List.getElem?_eq_getElem h,List.getElem?_eq_getElem (show k < l.length by omega),Option.getD_some,Bool.and_eq_true,Bool.not_eq_true']at h3 h4
      cases h5:lessB l[k] l[k+1]with
      | true=>rfl
      | false=>
        have e:=acx h5 h4
        have:qO (l.take (k+1)) l[k+1]=true:=(abu _ _).2 (by rw [←e];exact List.mem_take_iff_getElem.2 ⟨k,by omega,rfl⟩)
        rw [this]at h3;exact absurd h3.2 (by decide)
     rw [hn,hr2]at hr;cases hr
theorem aje(w:World)(s:Txs)(h:Txs.At w 0 w.heap.size s):
 Calls Tryz.prog 181 #[s.val] w fun e w'=>e= .returned (.bool (aad s.xs))∧Ext w w':=by
 have hr: ∀W,Ext w W→Rd W 0 W.heap.size s.A (s.xs.map Value.string):=fun W hW=>by rw [←ad5];exact Rd.at h.rd hW (Nat.le_refl _)
 have HU:=hiD (fun W (hW:Ext w W)=>afo W s.A s.n s.c s.xs h.len h.le h.cap (hr W hW) h.all)
 have HSo:=hiD (fun W (hW:Ext w W)=>aiK W s.A s.n s.c s.xs h.len (Nat.le_trans (Nat.le_trans h.le h.cap) (by decide)) (hr W hW))
 have HV:=hiD (aos s.xs)
 rw [←h.len]at HV
 generalize aad s.xs=V at *
 generalize qo s.xs=U at *
 generalize abQ s.xs=R at *
 clear h hr
 obtain⟨A,n,c,xs⟩:=s
 simp only [Sl.val]at *
 by_cases h4:n≤4
 ·have q4:decide ((n:Int)≤4)=true:=by simp;omega
  rw [decide_eq_true h4]at HV
  cases U with
  | false=>
    obtain rfl:V=false:=HV.out
    go_enter Tryz.func181,Tryz.ntmps181
    go_wp2_with fail
    refine(HU.out _ (Ext.refl _)).mono ?_
    rintro e w2 ⟨rfl,e2⟩
    go_wp2_with fail
    go_ret
    exact⟨rfl,e2⟩
  | true=>
    obtain rfl:V=R:=HV.out
    go_enter Tryz.func181,Tryz.ntmps181
    go_wp2_with fail
    refine(HU.out _ (Ext.refl _)).mono ?_
    rintro e w2 ⟨rfl,e2⟩
    have HE:=hiD e2
    clear e2
    go_wp2_with fail
    refine(HSo.out _ HE.out).mono ?_
    rintro e w3 ⟨rfl,e3⟩
    go_wp2_with fail
    go_ret
    exact⟨by simp,HE.out.trans e3⟩
 ·have q4:decide ((n:Int)≤4)=false:=by simp;omega
  rw [decide_eq_false h4]at HV
  obtain rfl:V=false:=HV.out
  go_enter Tryz.func181,Tryz.ntmps181
  go_wp2_with fail
  go_ret
  exact⟨by simp,Ext.refl _⟩
set_option linter.unusedSimpArgs false in
theorem abW(w:World)(A:Option Addr)(n c:Nat)(xs:List Prp)(hn:n=xs.length)(hm:n≤9223372036854775807)(hr:Rd w 0 w.heap.size A (prps xs))(hwf: ∀x∈xs,x.name.size≤9223372036854775807∧x.value.size≤9223372036854775807):
 Calls Tryz.prog 56 #[.slice A n c] w fun e w'=>e= .returned (.int .i64 (prE xs))∧Ext w w':=by
 have Hn:=hiD hn
 have HW:=hiD hwf
 clear hn hwf
 go_enter Tryz.func56,Tryz.ntmps56
 go_wp2_with fail
 go_loopw [3] (fun i wr=> ∃k:Nat,k≤n∧i= .int .i64 k∧Hid (aaz xs k=false)∧Ext w wr) (fun i _=>n - (intOf i).toNat)
 case atStart=>exact⟨0,Nat.zero_le _,rfl,by rw [Hid];rfl,Ext.refl _⟩
 case round=>
  obtain⟨k,hk,rfl,HK,e1⟩:=hrel
  by_cases hlt:k < n
  ·have hl:k < xs.length:=by rw [←Hn.out];omega
   have hmem:=HW.out xs[k] (List.getElem_mem _)
   obtain⟨b1,o1,rfl,_,hb1,f0,f1⟩:=acr hr hl
   have hba:Hid (qD xs k=(!zd xs[k].name || !aaO xs[k].value || (decide (0 < k) && !lessB (nm xs (k - 1)) xs[k].name))):=by rw [Hid,qD,agy xs k hl,ani xs k hl]
   have hbs:=hiD (adT xs k)
   have hba2:=hiD (ads xs k xs.length hl)
   generalize xs[k]=y at *
   have g0: ∀w',Ext wr w'→w'.cell? ⟨b1,o1+k * 2,none⟩=some (.string y.name):=fun w' h=>by rw [Below.cell (e1.trans h) hb1];exact f0
   have g1: ∀w',Ext wr w'→w'.cell? ⟨b1,o1+k * 2+1,none⟩=some (.string y.value):=fun w' h=>by rw [Below.cell (e1.trans h) hb1];exact f1
   clear f0 f1
   have hv:Hid (qD xs k=true→prE xs=9):=hiD fun h=>by
    rw [prE,if_pos (hba2.out h)]
    split <;> rfl
   have p0:(0:Int)≤(k:Int):=by omega
   have p1:(k:Int) < (n:Int):=by omega
   go_wp2_with fail
   refine wp_region_held_drew (S:=fun w'=>Ext wr w') (by kernel_rfl) blo (fun hHeld=>?_)
   refine tW 0 5 ?_
   refine oS 5 (fun K hK=>?_);go_simp
   refine(qN y.name _ hmem.1).mono ?_
   rintro e wa ⟨rfl,ea⟩
   go_wp2_with fail;refine hK.out _ _ blo (fun hHeld=>?_);clear hK K;refine lyX ?_
   cases ho:zd y.name
   ·have hv:=hiD (hv.out (by rw [hba.out,ho];rfl))
    refine tW 6 2 ?_
    refine sW 8 7 ?_
    refine tW 15 2 ?_
    refine sW 17 16 ?_
    refine tW 33 1 ?_
    refine dnX ?_
    go_wp2_with fail
    go_ret
    exact⟨by rw [hv.out];rfl,blo⟩
   ·refine tS 6 ?_;refine lyX ?_
    refine tW 7 6 ?_
    refine oS 13 (fun K hK=>?_);go_simp
    refine(aiq y.value _ hmem.2).mono ?_
    rintro e wb ⟨rfl,eb⟩
    go_wp2_with fail;refine hK.out _ _ blo (fun hHeld=>?_);clear hK K;refine lyX ?_
    cases hp:aaO y.value
    ·have hv:=hiD (hv.out (by rw [hba.out,ho,hp];rfl))
     refine tW 14 3 ?_
     refine sW 17 16 ?_
     refine tW 33 1 ?_
     refine dnX ?_
     go_wp2_with fail
     go_ret
     exact⟨by rw [hv.out];rfl,blo⟩
    ·refine tS 14 ?_;refine lyX ?_
     refine tW 15 2 ?_
     cases k with
     | zero=>
       have hbf:Hid (qD xs 0=false):=by rw [hba.out,ho,hp];rfl
       refine tW 17 3 ?_
       refine sW 20 12 ?_
       refine tW 32 2 ?_
       refine dnX ?_
       go_wp2_with fail
       go_roundw
       case rel=>
        refine⟨1,by omega,by go_num,hiD (by rw [hbs.out,HK.out,hbf.out];rfl),blo⟩
       case measure=>(first | (simp [intOf];done) | (simp [intOf];omega))
     | succ j=>
       obtain⟨b2,o2,hbo,_,_,f2,_⟩:=acr hr (k:=j) (by omega)
       obtain⟨rfl,rfl⟩:b1=b2∧o1=o2:=by simpa using hbo
       rw [←agy xs j (by omega)]at f2
       have f3: ∀w',Ext wr w'→w'.cell? ⟨b1,o1+j * 2,none⟩=some (.string (nm xs j)):=fun w' h=>by rw [Below.cell (e1.trans h) hb1];exact f2
       have hd:decide (0 < j+1)=true:=by simp
       have hba:Hid (qD xs (j+1)=!lessB (nm xs j) y.name):=by
        have h:=hba.out
        rw [Nat.add_sub_cancel,ho,hp,hd]at h
        exact h
       clear f2 hbo hd
       have hjn:(j:Int) < (n:Int):=by omega
       have p1:(j:Int)+1 < (n:Int):=by omega
       have p0:(0:Int)≤(j:Int)+1:=by omega
       have hs0:IntKind.i64.wrap (j:Int)=(j:Int):=IntWalk.i64_in _ (by omega)
       generalize nm xs j=z at *
       refine tW 17 14 ?_
       cases hq:lessB z y.name
       ·have hv:=hiD (hv.out (by rw [hba.out,hq];rfl))
        have hq2:(Op.bytesLess y.name.toList z.toList || y.name.toList == z.toList)=true:=by rw [←acq];exact congrArg (!·) hq
        refine tW 31 3 ?_
        refine dnX ?_
        go_wp2_with fail
        go_ret
        exact⟨by rw [hv.out];rfl,blo⟩
       ·have hbf:Hid (qD xs (j+1)=false):=by rw [Hid,hba.out,hq];rfl
        have hq2:(Op.bytesLess y.name.toList z.toList || y.name.toList == z.toList)=false:=by rw [←acq];exact congrArg (!·) hq
        refine tW 31 3 ?_
        refine dnX ?_
        go_wp2_with fail
        go_roundw
        case rel=>
         refine⟨j+2,by omega,by go_num,hiD (by rw [hbs.out,HK.out,hbf.out];rfl),blo⟩
        case measure=>(first | (simp [intOf];done) | (simp [intOf];omega))
  ·obtain rfl:k=n:=by omega
   by_cases h8:8 < k
   ·have hv:Hid (prE xs=9):=by rw [Hid,prE,if_pos (by rw [←Hn.out];exact h8)]
    go_wp2_with fail
    go_ret
    exact⟨by rw [hv.out];rfl,e1⟩
   ·have hv:Hid (prE xs=0):=by
     have h1:=HK.out
     rw [Hn.out]at h1 h8
     rw [Hid,prE,if_neg h8,h1]
     rfl
    go_wp2_with fail
    go_ret
    exact⟨by rw [hv.out];rfl,e1⟩
theorem xI(w:World)(a b:Int)(h1: -9223372036854775808≤a)(h2:a≤9223372036854775807):
 Calls Tryz.prog 30 #[.int .i64 a,.int .i64 b] w fun e w'=>e= .returned (.bool (decide (b≤a) && decide (a≤1099511627776)))∧Ext w w':=by
 go_enter Tryz.func30,Tryz.ntmps30
 go_wp2_with fail
 all_goals (go_ret;refine⟨aaP ?_,Ext.refl _⟩;(first | (simp [*];done) | (simp [*];omega)))
theorem aj6(w:World)(x:Rec)(hr:Rd w 0 w.heap.size x.oA (prps x.own))(hx:x.wf)(hk:x.kind=1):
 Calls Tryz.prog 79 #[.agg x.cells.toArray] w fun e w'=>e= .returned (.bool (yv x))∧Ext w w':=by
 have HS:=hiD (show yv x=(zd x.name && decide (0≤x.frm) && decide (x.frm≤1099511627776) && decide (1≤x.guid) && decide (x.guid≤1099511627776) && decide (prE x.own=0) && x.index == 0 && x.count == 0 && x.data.toList == [] && xL x)by rw [yv,if_pos hk])
 obtain⟨k,n,f,g,oA,on,oc,own,i,c,d,s0,s1,s2,s3⟩:=x
 obtain⟨⟨h1,h2⟩,⟨h3,h4⟩,⟨h5,h6⟩,⟨h7,h8⟩,⟨h9,h10⟩,h11,h12,h13,h14,h15⟩:=hx
 simp only at hk h1 h2 h3 h4 h5 h6 h7 h8 h9 h10 h11 h12 h13 h14 h15 hr
 subst hk
 have H13:=hiD h13
 have H15:=hiD h15
 clear h13 h15
 generalize yv _=b at HS
 have hp:Hid (decide (prE own=0)=(prE own == 0)):=hiD (by rw [Bool.eq_iff_iff];simp)
 have HP:=hiD (fun w1 (e1:Ext w w1)=>abW w1 oA on oc own H13.out h14 (Rd.at hr e1 (Nat.le_refl _)) H15.out)
 generalize prE own=pe at *
 simp only [Rec.cells]
 go_enter Tryz.func79,Tryz.ntmps79
 go_upto_region 1 with(fail)
 generalize hw1:World.alloc w _=w1;obtain⟨ew1,zw1,Gw1⟩:=aat hw1;have gw1_0:=Gw1 0 _ rfl;have gw1_1:=Gw1 1 _ rfl;have gw1_2:=Gw1 2 _ rfl;have gw1_3:=Gw1 3 _ rfl;have gw1_4:=Gw1 4 _ rfl;have gw1_5:=Gw1 5 _ rfl;have gw1_6:=Gw1 6 _ rfl;have gw1_7:=Gw1 7 _ rfl;have gw1_8:=Gw1 8 _ rfl;have gw1_9:=Gw1 9 _ rfl;have gw1_10:=Gw1 10 _ rfl;have gw1_11:=Gw1 11 _ rfl;have Zw1:=hiD zw1;clear zw1 hw1 Gw1;have rw1:=Ext.refl w1
 go_wp2_with (first
  | (go_at_call 29;(with_reducible refine(qN n _ h11).mono ?_);rintro e wa ⟨rfl,ea⟩;have xa:Ext w1 wa:=blo)
  | (go_at_call 30;(with_reducible refine(xI _ f 0 h1 h2).mono ?_);rintro e wb ⟨rfl,eb⟩;have xb:Ext w1 wb:=blo)
  | (go_at_call 30;(with_reducible refine(xI _ g 1 h3 h4).mono ?_);rintro e wc ⟨rfl,ec⟩;have xc:Ext w1 wc:=blo)
  | (go_at_call 56;refine(HP.out _ blo).mono ?_;rintro e wd ⟨rfl,ed⟩;have xd:Ext w1 wd:=blo))
 all_goals (go_ret;refine⟨aaP ?_,blo⟩;rw [HS.out];(first | (simp [*,xL];done) | (rw [hp.out];simp [*,xL];done) | trace_state))
theorem acT(w:World)(A:Option Addr)(n c:Nat)(xs:List Blk)(hn:n=xs.length)(hm:n≤9223372036854775807)(hr:Rd w 0 w.heap.size A (blks xs))(hwf: ∀x∈xs,x.wf):
 Calls Tryz.prog 75 #[.slice A n c] w fun e w'=>e= .returned (.int .i64 (bkE xs))∧Ext w w':=by
 have Hn:=hiD hn
 have HW:=hiD hwf
 have HR:=hiD hr
 clear hn hwf hr
 go_enter Tryz.func75,Tryz.ntmps75
 go_wp2_with fail
 go_loopw [3] (fun i wr=> ∃k:Nat,k≤n∧i= .int .i64 k∧Hid (qC xs k=false)∧Ext w wr) (fun i _=>n - (intOf i).toNat)
 case atStart=>exact⟨0,Nat.zero_le _,rfl,hiD rfl,Ext.refl _⟩
 case round=>
  obtain⟨k,hk,rfl,HK,e1⟩:=hrel
  by_cases hlt:k < n
  ·have hl:k < xs.length:=by rw [←Hn.out];exact hlt
   obtain⟨b1,o1,rfl,_,_,g0,g1⟩:=ack (Rd.at HR.out e1 (Nat.le_refl _)) (k:=k) hl
   have hw9:=HW.out _ (List.getElem_mem hl)
   have hbad:=hiD (acd xs k hl)
   have hprev:0 < k→ ∃ip:Int,acS xs (k - 1)=ip∧ -9223372036854775808≤ip∧ip≤9223372036854775807∧wr.cell? ⟨b1,o1+(k - 1) * 2,none⟩=some (.int .i64 ip):=fun h0=>by
    have hl1:k - 1 < xs.length:=by omega
    obtain⟨b2,o2,he,_,_,g2,_⟩:=ack (Rd.at HR.out e1 (Nat.le_refl _)) (k:=k - 1) hl1
    simp only [Option.some.injEq,Addr.mk.injEq,and_true]at he
    obtain⟨rfl,rfl⟩:=he
    have hw8:=HW.out _ (List.getElem_mem hl1)
    exact⟨_,aer xs (k - 1) hl1,hw8.1,hw8.2.1,g2⟩
   have HPrev:=hiD hprev
   clear hprev
   generalize xs[k]=y at *
   obtain⟨i0,d0⟩:=y
   obtain⟨w1,w2,w3⟩:=hw9
   simp only at w1 w2 w3 g0 g1
   have w1: -9223372036854775808≤i0:=w1
   have w2:i0≤9223372036854775807:=w2
   have w3:d0.size≤9223372036854775807:=w3
   have hbad2:=hiD (show abi xs k=(xZ i0 d0.size || (decide (0 < k) && decide (i0≤acS xs (k - 1))))from hbad.out)
   clear hbad
   have p0:(0:Int)≤k:=by omega
   have p1:(k:Int) < n:=by omega
   skip
   by_cases h1:i0 < 0
   ·have HB:=hiD (show bkE xs=9 by rw [bkE,qg xs k _ hl (by rw [hbad2.out,xZ];simp [h1])];rfl)
    go_wp2_with fail
    refine wp_region_held_drew (S:=fun w'=>w'=wr.drew) (by kernel_rfl) rfl (fun hHeld=>?_)
    refine tW 0 7 ?_
    refine sW 7 6 ?_
    refine tW 13 2 ?_
    refine sW 15 7 ?_
    refine tW 22 2 ?_
    refine sW 24 16 ?_
    refine tW 40 1 ?_
    refine dnX ?_
    go_wp2_with fail
    go_ret
    exact⟨by rw [HB.out];rfl,blo⟩
   ·have h1':0≤i0:=by omega
    have d1:decide (i0 < 0)=false:=by simp;omega
    clear h1
    by_cases h2:1024≤i0
    ·have HB:=hiD (show bkE xs=9 by rw [bkE,qg xs k _ hl (by rw [hbad2.out,xZ];simp [h2])];rfl)
     go_wp2_with fail
     refine wp_region_held_drew (S:=fun w'=>w'=wr.drew) (by kernel_rfl) rfl (fun hHeld=>?_)
     refine tW 0 15 ?_
     refine sW 15 7 ?_
     refine tW 22 2 ?_
     refine sW 24 16 ?_
     refine tW 40 1 ?_
     refine dnX ?_
     go_wp2_with fail
     go_ret
     exact⟨by rw [HB.out];rfl,blo⟩
    ·have h2':i0 < 1024:=by omega
     have d2:decide (1024≤i0)=false:=by simp;omega
     clear h2
     by_cases h3:d0.size=16
     ·have h3':((d0.size:Int) != 16)=false:=by simp [h3]
      have HD:=hiD (show xZ i0 d0.size=false by rw [xZ];simp [h3];omega)
      clear h3
      rcases Nat.eq_zero_or_pos k with hk0 | hk0
      ·subst hk0
       rw [Nat.zero_mul,Nat.add_zero]at g0 g1
       have HB:=hiD (show qC xs 1=false by rw [abD,HK.out,hbad2.out,HD.out];rfl)
       go_wp2_with fail
       refine wp_region_held_drew (S:=fun w'=>w'=wr.drew) (by kernel_rfl) rfl (fun hHeld=>?_)
       refine tW 0 27 ?_
       refine sW 27 12 ?_
       refine tW 39 2 ?_
       refine dnX ?_
       go_wp2_with fail
       go_roundw
       case rel=>exact⟨1,by omega,by go_num,HB,blo⟩
       case measure=>simp [intOf];omega
      ·obtain⟨ip,hip,q1,q2,gp⟩:=HPrev.out hk0
       obtain⟨j,rfl⟩: ∃j:Nat,k=j+1:=⟨k - 1,by omega⟩
       rw [Nat.add_sub_cancel]at gp hip
       have HIP:=hiD hip
       clear hip
       have p2:(j:Int)+1 - 1=j:=by omega
       have hwj:IntKind.i64.wrap (j:Int)=j:=IntWalk.i64_in _ (by omega)
       have p3:(j:Int) < n:=by omega
       have p4:(0:Int)≤j:=by omega
       have p5:(0:Int)≤(j:Int)+1:=by omega
       have d3:decide ((0:Int) < (j:Int)+1)=true:=by first | (simp;done) | (simp;omega)
       by_cases h4:i0≤ip
       ·have HB:=hiD (show bkE xs=9 by rw [bkE,qg xs (j+1) _ hl (by rw [hbad2.out,HD.out,Nat.add_sub_cancel,HIP.out];simp [h4])];rfl)
        go_wp2_with fail
        refine wp_region_held_drew (S:=fun w'=>w'=wr.drew) (by kernel_rfl) rfl (fun hHeld=>?_)
        refine tW 0 41 ?_
        refine dnX ?_
        go_wp2_with fail
        go_ret
        exact⟨by rw [HB.out];rfl,blo⟩
       ·have HB:=hiD (show qC xs (j+1+1)=false by rw [abD,HK.out,hbad2.out,HD.out,Nat.add_sub_cancel,HIP.out];simp [h4])
        have h4':ip < i0:=by omega
        have d4:decide (i0≤ip)=false:=by simp;omega
        clear h4
        go_wp2_with fail
        refine wp_region_held_drew (S:=fun w'=>w'=wr.drew) (by kernel_rfl) rfl (fun hHeld=>?_)
        refine tW 0 41 ?_
        refine dnX ?_
        go_wp2_with fail
        go_roundw
        case rel=>exact⟨j+1+1,by omega,by go_num,HB,blo⟩
        case measure=>simp [intOf];omega
     ·have h3':((d0.size:Int) != 16)=true:=by simp;omega
      have HB:=hiD (show bkE xs=9 by rw [bkE,qg xs k _ hl (by rw [hbad2.out,xZ];simp [h3])];rfl)
      clear h3
      go_wp2_with fail
      refine wp_region_held_drew (S:=fun w'=>w'=wr.drew) (by kernel_rfl) rfl (fun hHeld=>?_)
      refine tW 0 24 ?_
      refine sW 24 16 ?_
      refine tW 40 1 ?_
      refine dnX ?_
      go_wp2_with fail
      go_ret
      exact⟨by rw [HB.out];rfl,blo⟩
  ·obtain rfl:k=n:=by omega
   have HB:=hiD (show bkE xs=0 by rw [bkE,←Hn.out,HK.out];rfl)
   go_wp2_with fail
   go_ret
   exact⟨by rw [HB.out];rfl,e1⟩
end Go.Proofs.YtckaneapjpiocaaGreatDoor
