/- The texts Spl in one file. -/
import Derived.Test.YtckaneapjpiocaaGreatDoorQ7
set_option linter.unusedVariables false
set_option linter.unusedSimpArgs false
set_option maxHeartbeats 4000000
set_option maxRecDepth 100000
namespace Go.Proofs.YtckaneapjpiocaaGreatDoor
open Go.RowKit Go.Maps Go.Sort Go.Shelf
def aoO(n:Nat)(zs:List Value):Prop:=zs.length=n∧ ∀z∈zs,∃y:Int,z= .int .u8 y
theorem ajK{its:List It}{i:Nat}{x:It}(h:its[i]?=some x):its.set i x=its:=by
 apply List.ext_getElem?
 intro j
 rw [List.getElem?_set]
 split
 ·rename_i e;subst e;rw [h];split
  ·rfl
  ·rename_i h2;exact absurd (List.getElem?_eq_some_iff.1 h).1 h2
 ·rfl
theorem akY{w0 w:World}{its:List It}(H:Heap w0 its w)(i:Nat)(A:Option Addr)(n c:Nat)(ys:List UInt8)(hi:its[i]?=some (.row 5 1 (.slice A n c) n (bytes ys)))(hm:n≤maxLen):
 Calls Tryz.prog 19 #[.slice A n c] w fun e w'=>(∃v,e= .returned v)∧ ∃zs:List Value,Heap w0 (its.set i (.row 5 1 (.slice A n c) n zs)) w':=by
 have hil:i < its.length:=(List.getElem?_eq_some_iff.1 hi).1
 have HI:=hiD (fun zs=>List.getElem?_set_self (a:=It.row 5 1 (.slice A n c) n zs) hil)
 have H0:=hiD (show Heap w0 (its.set i (.row 5 1 (.slice A n c) n (bytes ys))) w by rw [ajK hi];exact H)
 have h0:=hiD (show aoO n (bytes ys)from⟨by have:=(H.rowAt i hi).1;omega,fun z hz=>by
  obtain⟨b,_,rfl⟩:=List.mem_map.1 hz
  exact⟨_,rfl⟩⟩)
 have hm2:n≤9223372036854775807:=Nat.le_trans hm (by decide)
 clear hi H hm
 generalize bytes ys=zs at *
 go_enter Tryz.func19,Tryz.ntmps19
 go_wp2_with fail
 go_loopw [2] (fun v wr=> ∃(k:Nat) (zs:List Value),k≤n∧v= .int .i64 (k:Int)∧Hid (aoO n zs)∧Hid (Heap w0 (its.set i (.row 5 1 (.slice A n c) n zs)) wr)) (fun v _=>n - (intOf v).toNat)
 case atStart=>exact⟨0,zs,Nat.zero_le _,rfl,h0,H0⟩
 case round=>
  clear H0 h0
  obtain⟨k,zs,hk,rfl,HZ,HH⟩:=hrel
  by_cases hlt:k < n
  ·obtain⟨g,c',hg⟩:=HH.out.rowForm i (HI.out zs) (by omega)
   obtain⟨rfl,rfl⟩:A=some ⟨g,0,none⟩∧c=c':=by simpa using hg
   clear hg
   have hl:k < zs.length:=by rw [HZ.out.1];exact hlt
   obtain⟨z,hz⟩:=HZ.out.2 _ (List.getElem_mem hl)
   have f0:wr.cell? ⟨g,k,none⟩=some (.int .u8 z):=by rw [←hz];exact(HH.out.rowAt i (HI.out zs)).cellAt k (by omega) |>.trans (List.getElem?_eq_getElem hl)
   have hkn:(k:Int) < (n:Int):=by omega
   clear hz hl
   go_upto_region 2 with(refine ahF HH.out rfl rfl rfl rfl i (HI.out zs) (by omega) rfl (by kernel_rfl) ?_;clear HH f0;intro wS HHS;have HH:=hiD HHS;clear HHS)
   have HH2:=HH.out
   rw [set_set]at HH2
   rename_i wr0
   have HH3:=hiD HH2
   clear HH HH2
   go_wp2_with fail
   go_roundw
   case rel=>
    refine⟨k+1,_,by omega,by go_num,?_,HH3⟩
    have h1:=HZ.out.1
    refine hiD ⟨by simp;omega,fun z hz=>?_⟩
    rcases List.mem_append.1 hz with hz | hz
    ·rcases List.mem_append.1 hz with hz | hz
     ·exact HZ.out.2 z (List.mem_of_mem_take hz)
     ·simp only [List.mem_singleton]at hz
      exact⟨_,hz⟩
    ·exact HZ.out.2 z (List.mem_of_mem_drop hz)
   case measure=>simp [intOf];omega
  ·obtain rfl:k=n:=by omega
   go_wp2_with fail
   go_end0
   exact⟨⟨_,rfl⟩,zs,HH.out⟩
end Go.Proofs.YtckaneapjpiocaaGreatDoor
