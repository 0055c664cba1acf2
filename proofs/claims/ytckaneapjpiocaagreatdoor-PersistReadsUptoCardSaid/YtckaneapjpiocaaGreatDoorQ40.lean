/- The texts Rp1 in one file. -/
import Derived.Test.YtckaneapjpiocaaGreatDoorQ9
set_option linter.unusedVariables false
set_option linter.unusedSimpArgs false
set_option maxHeartbeats 4000000
set_option maxRecDepth 100000
namespace Go.Proofs.YtckaneapjpiocaaGreatDoor
open Go.RowKit Go.Maps Go.Sort Go.Shelf
theorem ajU(s:ByteArray)(k:Nat)(h:k < s.size):s.data[k]! =s[k]'h:=by
 rw [getElem!_pos s.data k h];rfl
theorem apa(s:ByteArray):s.extract 0 0=⟨#[]⟩:=ql _ (by rw [ByteArray.size_extract];omega)
theorem aho(s:ByteArray)(w:World)(hs:s.size≤1048576):
 Calls Tryz.prog 74 #[.string s] w fun e w'=>e= .returned (.tuple #[.string ((xN s).getD ⟨#[]⟩),.bool (xN s).isSome])∧Ext w w':=by
 by_cases h0:s.size=0
 ·obtain rfl:=ql s h0
  have hv:=hiD (show xN ⟨#[]⟩=none from rfl)
  go_enter Tryz.func74,Tryz.ntmps74
  go_wp2_with fail
  go_ret2
  exact⟨by rw [hv.out];rfl,Ext.refl _⟩
 ·have b0:s.toList.isEmpty=false:=by
   rw [ByteArray.toList_eq,List.isEmpty_eq_false_iff]
   intro e
   have:=zv s
   rw [e]at this
   exact h0 this.symm
  have HP:=hiD (aa8 s w (by omega))
  have HV:=hiD (show xN s=if zF s=true then some (s.extract 0 (max (Go.Lib.lastIdx s 47 s.size) 0).toNat)else none by rw [xN,if_neg h0];rfl)
  generalize zF s=pb at *
  generalize xN s=V at *
  cases pb with
  | false=>
    obtain rfl:V=none:=HV.out
    clear h0
    go_enter Tryz.func74,Tryz.ntmps74
    go_wp2_with (refine HP.out.mono ?_;rintro e w2 ⟨rfl,e2⟩)
    go_ret2
    exact⟨rfl,e2⟩
  | true=>
    obtain rfl:V=some (s.extract 0 (max (Go.Lib.lastIdx s 47 s.size) 0).toNat):=HV.out
    obtain⟨LI,hLI⟩: ∃LI,LI=Go.Lib.lastIdx s 47 s.size:=⟨_,rfl⟩
    have HLI:=hiD hLI
    rw [←hLI]
    clear hLI h0 HV
    go_enter Tryz.func74,Tryz.ntmps74
    go_wp2_with fail
    refine HP.out.mono ?_
    rintro e w2 ⟨rfl,e2⟩
    have hs9:(s.size:Int) - 1≤9223372036854775807:=by omega
    go_wp2_with fail
    go_loopw [4] (fun i wr=> ∃k:Nat,k≤s.size∧i= .int .i64 ((k:Int) - 1)∧Hid (LI=Go.Lib.lastIdx s 47 k)∧Ext w wr) (fun i _=>(intOf i+1).toNat)
    case atStart=>exact⟨s.size,Nat.le_refl _,by go_num,HLI,e2⟩
    case round=>
     obtain⟨k,hk,rfl,HK,e1⟩:=hrel
     by_cases hlt:0 < k
     ·obtain⟨j,rfl⟩: ∃j,k=j+1:=⟨k - 1,by omega⟩
      have hj:j < s.size:=by omega
      have e9:((j+1:Nat):Int) - 1=(j:Int):=by omega
      rw [e9]
      have H1:=hiD (fun h=>HK.out.trans (Go.Lib.lastIdx_hit s 47 j h))
      have H2:=hiD (fun h=>HK.out.trans (Go.Lib.lastIdx_miss s 47 j h))
      rw [ajU s j hj]at H1 H2
      obtain⟨y,hy⟩: ∃y,s[j]'hj=y:=⟨_,rfl⟩
      rw [hy]at H1 H2
      clear e9 HK hlt
      by_cases h47:y=47
      ·subst h47
       have H3:=hiD (H1.out rfl)
       clear H1 H2
       go_wp2_with fail
       go_ret2
       exact⟨by rw [H3.out];(try simp),e1⟩
      ·have hb: ¬y.toNat=47:=fun e=>h47 (UInt8.toNat_inj.1 e)
       have H3:=hiD (H2.out (by omega))
       clear H1 H2
       go_wp2_with fail
       go_roundw
       case rel=>exact⟨j,by omega,by go_num,H3,e1⟩
       case measure=>(first | (simp [intOf];done) | (simp [intOf];omega))
     ·obtain rfl:k=0:=by omega
      have H3:=hiD (show LI= -1 from HK.out)
      have e9:((0:Nat):Int) - 1= -1:=by omega
      rw [e9]
      clear e9 HK
      go_wp2_with fail
      go_ret2
      exact⟨by rw [H3.out,show(max (-1:Int) 0).toNat=0 from rfl,Option.getD_some,apa];rfl,e1⟩
theorem act(b:UInt8)(l:List UInt8):Go.Lib.index (b::l) [64]=if b=64 then 0 else if Go.Lib.index l [64] == -1 then -1 else Go.Lib.index l [64] +1:=by
 rw [Go.Lib.index]
 by_cases h:b=64
 ·subst h;simp
 ·have:([64]:List UInt8).isPrefixOf (b::l)=false:=by
   simp [List.isPrefixOf,Ne.symm h]
  rw [this,if_neg h]
  simp
theorem akZ: ∀(l:List UInt8) (k:Nat) (h:k < l.length),(∀x∈l.take k,x≠64)→l[k]=64→Go.Lib.index l [64]=(k:Int)
 | b::l,0,_,_,hk=>by rw [act,if_pos (by first | exact hk | simpa using hk)];(try rfl)
 | b::l,k+1,h,hn,hk=>by
   have h1:b≠64:=hn b (by simp)
   have ih:=akZ l k (by simpa using h) (fun x hx=>hn x (by simp [hx])) (by simpa using hk)
   rw [act,if_neg h1,ih,if_neg (by first | (simp;done) | (simp;omega))]
   (try omega)
theorem aic: ∀(l:List UInt8),(∀x∈l,x≠64)→Go.Lib.index l [64]= -1
 | [],_=>rfl
 | b::l,hn=>by
   have h1:b≠64:=hn b (by simp)
   have ih:=aic l fun x hx=>hn x (by simp [hx])
   rw [act,if_neg h1,ih];(try rfl)
theorem ai6(s:ByteArray)(w:World)(hs:s.size≤1048576):
 Calls Tryz.prog 77 #[.string s] w fun e w'=>e= .returned (if abg s=true then .tuple #[.string (zT s),.string (yP s),.int .i64 0]else .tuple #[.string ⟨#[]⟩,.string ⟨#[]⟩,.int .i64 31])∧Ext w w':=by
 have HSe:=hiD hs
 obtain⟨R,hR⟩: ∃R,R=if abg s=true then Value.tuple #[.string (zT s),.string (yP s),.int .i64 0]else .tuple #[.string ⟨#[]⟩,.string ⟨#[]⟩,.int .i64 31]:=⟨_,rfl⟩
 rw [←hR]
 have HR:=hiD hR
 clear hR
 have H1:=hiD (fun(k:Nat) (hk:k < s.size) (hn: ∀x∈s.data.toList.take k,x≠64) (h:s[k]'hk=64)=>akZ s.data.toList k (by rw [zv];exact hk) hn h)
 have H2:=hiD (aic s.data.toList)
 have HB:=hiD (show abg s=(decide (0≤atI s) && (zF (zT s) && zd (yP s)))from rfl)
 have HP:=hiD (show zT s=s.extract 0 (atI s).toNat from rfl)
 have HNn:=hiD (show yP s=s.extract ((atI s).toNat+1) s.size from rfl)
 have HT:=hiD (fun k (hk:k < s.size)=>show s.data.toList.take (k+1)=s.data.toList.take k++ [s[k]'hk]from List.take_succ_eq_append_getElem (by rw [zv];exact hk))
 have H1':=hiD (fun(k:Nat) (hk:k < s.size) (hn: ∀x∈s.data.toList.take k,x≠64) (h:s[k]'hk=64)=>show atI s=(k:Int)from H1.out k hk hn h)
 have H2':=hiD (fun h=>show atI s= -1 from H2.out h)
 have hs9:s.size≤9223372036854775807:=by omega
 clear H1 H2 hs
 go_enter Tryz.func77,Tryz.ntmps77
 go_wp2_with fail
 go_loopw [5] (fun i wr=> ∃k:Nat,k≤s.size∧i= .int .i64 (k:Int)∧Hid (∀x∈s.data.toList.take k,x≠64)∧Ext w wr) (fun i _=>s.size - (intOf i).toNat)
 case atStart=>exact⟨0,Nat.zero_le _,rfl,hiD (by simp),Ext.refl _⟩
 case round=>
  obtain⟨k,hk,rfl,HK,e1⟩:=hrel
  by_cases hlt:k < s.size
  ·have HA:=hiD (H1'.out k hlt HK.out)
   have HT1:=hiD (HT.out k hlt)
   obtain⟨y,hy⟩: ∃y,s[k]'hlt=y:=⟨_,rfl⟩
   rw [hy]at HA HT1
   by_cases h64:y=64
   ·subst h64
    have hat:=HA.out rfl
    rw [hat]at HB HP HNn
    rw [Int.toNat_natCast]at HP HNn
    have HRp:=hiD (fun W=>aa8 (s.extract 0 k) W (by have:=HSe.out;rw [ByteArray.size_extract];omega))
    have HRn:=hiD (fun W=>qN (s.extract (k+1) s.size) W (by have:=HSe.out;rw [ByteArray.size_extract];omega))
    rw [←HP.out]at HRp
    rw [←HNn.out]at HRn
    have hd:decide ((0:Int)≤(k:Int))=true:=decide_eq_true (by omega)
    rw [hd,Bool.true_and]at HB
    clear HA HT1 HT H1' H2' HK hat hd
    cases hpb:zF (zT s)with
    | false=>
      have HRv:=hiD (show R= .tuple #[.string ⟨#[]⟩,.string ⟨#[]⟩,.int .i64 31]by rw [HR.out,if_neg (by rw [HB.out,hpb,Bool.false_and];decide)])
      rw [hpb,HP.out]at HRp
      clear hpb HB HR HRn HNn HP
      go_wp2_with fail
      refine(HRp.out _).mono ?_
      rintro e w2 ⟨rfl,e2⟩
      go_wp2_with fail
      go_ret3
      exact⟨by rw [HRv.out];rfl,e1.trans e2⟩
    | true=>
      rw [hpb,Bool.true_and]at HB
      rw [hpb,HP.out]at HRp
      clear hpb
      cases hnb:zd (yP s)with
      | false=>
        have HRv:=hiD (show R= .tuple #[.string ⟨#[]⟩,.string ⟨#[]⟩,.int .i64 31]by rw [HR.out,if_neg (by rw [HB.out,hnb];decide)])
        rw [hnb,HNn.out]at HRn
        clear hnb HB HR HP HNn
        go_wp2_with fail
        refine(HRp.out _).mono ?_
        rintro e w2 ⟨rfl,e2⟩
        go_wp2_with fail
        refine(HRn.out _).mono ?_
        rintro e w3 ⟨rfl,e3⟩
        go_wp2_with fail
        go_ret3
        exact⟨by rw [HRv.out];rfl,(e1.trans e2).trans e3⟩
      | true=>
        have HRv:=hiD (show R= .tuple #[.string (s.extract 0 k),.string (s.extract (k+1) s.size),.int .i64 0]by rw [HR.out,if_pos (by rw [HB.out,hnb]),HP.out,HNn.out])
        rw [hnb,HNn.out]at HRn
        clear hnb HB HR HP HNn
        go_wp2_with fail
        refine(HRp.out _).mono ?_
        rintro e w2 ⟨rfl,e2⟩
        go_wp2_with fail
        refine(HRn.out _).mono ?_
        rintro e w3 ⟨rfl,e3⟩
        go_upto_region 6 with fail
        go_quiet (fail)
        go_wp2_with fail
        go_ret3
        exact⟨by rw [HRv.out];rfl,((e1.trans e2).trans e3).trans ((Ext.refl _).drewN _)⟩
   ·have hb: ¬y.toNat=64:=fun e=>h64 (UInt8.toNat_inj.1 e)
    have HK2:=hiD (show∀x∈s.data.toList.take (k+1),x≠64 by
     rw [HT1.out]
     intro x hx
     rcases List.mem_append.1 hx with hx | hx
     ·exact HK.out x hx
     ·simp only [List.mem_singleton]at hx;subst hx;exact h64)
    clear HA HT1 HT H1' H2' HK HB HP HNn
    go_wp2_with fail
    go_roundw
    case rel=>exact⟨k+1,by omega,by go_num,HK2,e1⟩
    case measure=>(first | (simp [intOf];done) | (simp [intOf];omega))
  ·obtain rfl:k=s.size:=by omega
   have hB:abg s=false:=by
    have h1:=HK.out
    rw [List.take_of_length_le (by rw [zv];exact Nat.le_refl _)]at h1
    rw [HB.out,H2'.out h1];rfl
   have HRv:=hiD (show R= .tuple #[.string ⟨#[]⟩,.string ⟨#[]⟩,.int .i64 31]by rw [HR.out,hB];rfl)
   clear hB
   clear H1' H2' HB HP HNn HT HK
   go_wp2_with fail
   go_ret3
   exact⟨by rw [HRv.out];rfl,e1⟩
end Go.Proofs.YtckaneapjpiocaaGreatDoor
