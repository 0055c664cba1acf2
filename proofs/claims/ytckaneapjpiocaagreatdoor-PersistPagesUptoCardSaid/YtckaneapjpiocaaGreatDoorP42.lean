/- The texts Alv, Ppl in one file. -/
import Derived.Test.YtckaneapjpiocaaGreatDoorP41
set_option linter.unusedVariables false
set_option linter.unusedSimpArgs false
set_option maxHeartbeats 8000000
set_option maxRecDepth 100000
namespace Go.Proofs.YtckaneapjpiocaaGreatDoor
open Go.RowKit Go.Maps Go.Sort Go.Shelf
theorem acK{α:Type}(w:World)(lo hi:Nat)(cells:α→List Value)(I:α→Prop):Sl.At w lo hi cells I ⟨none,0,0, []⟩:=
 ⟨rfl,Nat.le_refl _,Nat.zero_le _,fun hn=>absurd rfl hn,fun y hy=>by cases hy⟩
def acQ(p:Pol):Nat:=if yr p=true then yS (aad p)else 0
theorem aea(w:World)(p:Pol)(hM:yJ w)(h:Pol.At w 0 w.heap.size p):
 Calls Tryz.prog 21 #[.agg p.cells.toArray] w fun e w'=>e= .returned (.tuple #[.int .i64 (acQ p:Nat),.int .i64 (yU p)])∧Ext w w':=by
 have HO:=Lib.hid (fun W (hW:Ext w W)=>abm W p (hM.ext hW) (h.on hW (Nat.le_refl _)))
 cases hb:yr p with
 | false=>
   have HO2:=Lib.hid (fun W (hW:Ext w W)=>(HO.out W hW).mono (R':=fun e w'=>e= .returned (.tuple #[.slice none 0 0,.int .i64 9])∧Ext W w') fun e w' q=>by
    rcases q with⟨_,q⟩ | ⟨q,_⟩
    ·exact q
    ·rw [hb]at q;cases q)
   rw [acQ,if_neg (by rw [hb];decide),xD hb]
   clear HO h hM hb
   obtain⟨cap,⟨tA,tn,tc,tx⟩,⟨fA,fn,fc,fx⟩,⟨lA,ln,lc,lx⟩⟩:=p
   simp only [Pol.cells,Sl.val]at *
   go_enter Tryz.func21,Tryz.ntmps21
   go_upto_region 1 with fail
   generalize hwH:World.alloc w _=w1;have HH:=Lib.hid (Heap.one hwH);clear hwH
   go_wp2_with (refine zp HH.out zS (by kernel_rfl) rfl rfl rfl 0 rfl rfl ?_)
   refine(HO2.out _ HH.out.ext).mono ?_
   rintro e w2 ⟨rfl,e2⟩
   go_wp2_with fail
   go_ret2
   exact⟨rfl,HH.out.ext.trans e2⟩
 | true=>
   have HO2:=Lib.hid (fun W (hW:Ext w W)=>(HO.out W hW).mono (R':=fun e w'=> ∃(A:Option Addr) (c:Nat) (os:List Ob),e= .returned (.tuple #[.slice A os.length c,.int .i64 0])∧Sl.At w' 0 w'.heap.size Ob.cells (Ob.At w' 0 w'.heap.size) ⟨A,os.length,c,os⟩∧(∀o∈os,o.data.n≤100000000)∧yS (os.map kd)=yS (aad p)∧os.length≤149∧Ext W w') fun e w' q=>by
    rcases q with⟨q,_⟩ | ⟨_,A,c,os,q1,q2,q3,q4⟩
    ·rw [hb]at q;cases q
    ·obtain⟨a1,a2,a3,a4⟩:=adj hb q2 q4
     exact⟨A,c,os,q1,a1,a2,abz a3,a4,q4.ext⟩)
   rw [acQ,if_pos hb,show yU p=0 by rw [yU,if_pos hb]]
   clear HO h hM hb
   generalize yS (aad p)=V at *
   obtain⟨cap,⟨tA,tn,tc,tx⟩,⟨fA,fn,fc,fx⟩,⟨lA,ln,lc,lx⟩⟩:=p
   simp only [Pol.cells,Sl.val]at *
   go_enter Tryz.func21,Tryz.ntmps21
   go_upto_region 1 with fail
   generalize hwH:World.alloc w _=w1;have HH:=Lib.hid (Heap.one hwH);clear hwH
   go_wp2_with (refine zp HH.out zS (by kernel_rfl) rfl rfl rfl 0 rfl rfl ?_)
   refine(HO2.out _ HH.out.ext).mono ?_
   rintro e w2 ⟨A,c,os,rfl,a1,a2,a3,a4,e2⟩
   have HNe:=Lib.hid (acD w2 ⟨A,os.length,c,os⟩ a1 (by show os.length≤1000;omega) a2)
   simp only [Sl.val]at HNe
   rw [a3]at HNe
   clear a1 a2 a3 a4
   go_wp2_with fail
   refine HNe.out.mono ?_
   rintro e w3 ⟨rfl,e3⟩
   go_wp2_with fail
   go_ret2
   exact⟨rfl,(HH.out.ext.trans e2).trans e3⟩
theorem afr(w:World)(x:Int):Calls Tryz.prog 55 #[.int .i64 x] w fun e w'=>e= .returned (.int .i64 x)∧w'=w:=by
 go_enter Tryz.func55,Tryz.ntmps55
 go_wp2_with fail
 go_ret
 exact⟨rfl,rfl⟩
def acM:Pol:=⟨5,⟨none,0,0, []⟩,⟨none,0,0, []⟩,⟨none,0,0, []⟩⟩
theorem ahj:yr acM=true:=by kernel_rfl
theorem agL(w:World):Pol.At w 0 w.heap.size acM:=⟨by decide,acK ..,by decide,acK ..,by decide,acK ..⟩
theorem abg(w:World)(hM:yJ w):Calls Tryz.prog 20 #[] w fun e w'=>e= .returned (.bool true)∧Ext w w':=by
 have HO:=Lib.hid ((abm w acM hM (agL w)).mono (R':=fun e w'=> ∃(g c:Nat) (v1 v2:Value),e= .returned (.tuple #[.slice (some ⟨g,0,none⟩) 1 c,.int .i64 0])∧w'.cell? ⟨g,0,none⟩=some (.string kP)∧Ext w w') fun e w' q=>by
  rcases q with⟨q,_⟩ | ⟨_,A,c,os,q1,q2,q3,q4⟩
  ·rw [ahj]at q;cases q
  ·have e1:=q2.length_eq
   rw [List.length_map]at e1
   have e2:(obP acM).length=1:=rfl
   rw [e2]at e1
   cases os with
   | nil=>cases e1
   | cons o os=>
     obtain rfl:os= []:=List.eq_nil_of_length_eq_zero (by simpa using e1)
     have hk:o.key=kP:=by
      have:=q2.mem_iff.1 (List.mem_cons_self ..)
      rw [obP,List.mem_cons]at this
      rcases this with h | h
      ·exact congrArg (fun q=>q.1) h
      ·cases h
     obtain⟨g,c',hA⟩:=q4.rowForm 0 rfl (by simp)
     simp only [Value.slice.injEq,true_and]at hA
     obtain⟨rfl,rfl⟩:=hA
     have hc:=(q4.rowAt 0 rfl).cellAt 0 (by simp)
     refine⟨g,c,.string kP,.string kP,q1,?_,q4.ext⟩
     rw [hc,←hk];rfl)
 simp only [acM,Pol.cells,Sl.val,kP]at HO
 clear hM
 go_enter Tryz.func20,Tryz.ntmps20
 go_wp2_with fail
 refine HO.out.mono ?_
 rintro e w2 ⟨g,c,_,_,rfl,hc,e2⟩
 go_wp2_with ((go_at_call 55;refine(afr _ 0).mono ?_;rintro e w3 ⟨rfl,rfl⟩))
 go_ret
 exact⟨rfl,e2⟩
theorem acs(w:World)(p:Pol)(hM:yJ w)(h:Pol.At w 0 w.heap.size p):
 Calls Tryz.prog 7 #[.agg p.cells.toArray] w fun e w'=>e= .returned (.bool true)∧Ext w w':=by
 have HAl:=Lib.hid (abg w hM)
 have HAl2:=Lib.hid (fun W (hW:Ext w W)=>abg W (hM.ext hW))
 have HPg:=Lib.hid (fun W (hW:Ext w W)=>aea W p (hM.ext hW) (h.on hW (Nat.le_refl _)))
 have HRc:=Lib.hid (fun W (hW:Ext w W)=>aeJ W p (h.on hW (Nat.le_refl _)))
 have HBd:=Lib.hid (fun W (hW:Ext w W)=>adU W p (h.on hW (Nat.le_refl _)))
 have HO:=Lib.hid (fun W (hW:Ext w W)=>abm W p (hM.ext hW) (h.on hW (Nat.le_refl _)))
 cases hb:yr p with
 | false=>
   rw [acQ,if_neg (by rw [hb];decide),xD hb]at HPg
   rw [xD hb]at HRc
   clear HO h hM hb HBd HAl
   obtain⟨cap,⟨tA,tn,tc,tx⟩,⟨fA,fn,fc,fx⟩,⟨lA,ln,lc,lx⟩⟩:=p
   simp only [Pol.cells,Sl.val]at *
   go_enter Tryz.func7,Tryz.ntmps7
   go_upto_region 1 with fail
   generalize hwH:World.alloc w _=w1;have HH:=Lib.hid (Heap.one hwH);clear hwH
   go_wp2_with fail
   refine(HAl2.out _ HH.out.ext).mono ?_
   rintro e w2 ⟨rfl,e2⟩
   replace HH:=Lib.hid (HH.out.later e2)
   clear e2
   go_wp2_with (refine zp HH.out zS (by kernel_rfl) rfl rfl rfl 0 rfl rfl ?_)
   refine(HPg.out _ HH.out.ext).mono ?_
   rintro e w3 ⟨rfl,e3⟩
   replace HH:=Lib.hid (HH.out.later e3)
   clear e3
   go_wp2_with (first | (go_big_want;refine xK HH.out zS (by kernel_rfl) rfl rfl 0 rfl (Nat.le_of_ble_eq_true rfl) ?_) | (refine zp HH.out zS (by kernel_rfl) rfl rfl rfl 0 rfl rfl ?_))
   refine(HRc.out _ HH.out.ext).mono ?_
   rintro e w4 ⟨rfl,e4⟩
   replace HH:=Lib.hid (HH.out.later e4)
   clear e4
   go_wp2_with fail
   go_ret
   exact⟨rfl,HH.out.ext⟩
 | true=>
   have HO2:=Lib.hid (fun W (hW:Ext w W)=>(HO.out W hW).mono (R':=fun e w'=> ∃(A:Option Addr) (c:Nat) (os:List Ob),e= .returned (.tuple #[.slice A os.length c,.int .i64 0])∧Sl.At w' 0 w'.heap.size Ob.cells (Ob.At w' 0 w'.heap.size) ⟨A,os.length,c,os⟩∧(∀o∈os,o.data.n≤100000000)∧yS (os.map kd)=yS (aad p)∧os.length≤149∧Ext W w') fun e w' q=>by
    rcases q with⟨q,_⟩ | ⟨_,A,c,os,q1,q2,q3,q4⟩
    ·rw [hb]at q;cases q
    ·obtain⟨a1,a2,a3,a4⟩:=adj hb q2 q4
     exact⟨A,c,os,q1,a1,a2,abz a3,a4,q4.ext⟩)
   obtain⟨n1,n2⟩:=aev p hb
   rw [acQ,if_pos hb,show yU p=0 by rw [yU,if_pos hb]]at HPg
   rw [n1]at HBd
   clear HO h hM hb HRc HAl n1
   generalize yS (aad p)=V at *
   generalize abQ p=B at *
   obtain⟨cap,⟨tA,tn,tc,tx⟩,⟨fA,fn,fc,fx⟩,⟨lA,ln,lc,lx⟩⟩:=p
   simp only [Pol.cells,Sl.val]at *
   go_enter Tryz.func7,Tryz.ntmps7
   go_upto_region 1 with fail
   generalize hwH:World.alloc w _=w1;have HH:=Lib.hid (Heap.one hwH);clear hwH
   go_wp2_with fail
   refine(HAl2.out _ HH.out.ext).mono ?_
   rintro e w2 ⟨rfl,e2⟩
   replace HH:=Lib.hid (HH.out.later e2)
   clear e2
   go_wp2_with (refine zp HH.out zS (by kernel_rfl) rfl rfl rfl 0 rfl rfl ?_)
   refine(HPg.out _ HH.out.ext).mono ?_
   rintro e w3 ⟨rfl,e3⟩
   replace HH:=Lib.hid (HH.out.later e3)
   clear e3
   go_wp2_with (refine zp HH.out zS (by kernel_rfl) rfl rfl rfl 0 rfl rfl ?_)
   refine(HO2.out _ HH.out.ext).mono ?_
   rintro e w4 ⟨A,c,os,rfl,a1,a2,a3,a4,e4⟩
   replace HH:=Lib.hid (HH.out.later e4)
   have HNe:=Lib.hid (fun W (hW:Ext w4 W)=>acD W ⟨A,os.length,c,os⟩ (yD a1 hW (Nat.le_refl _) fun _ h=>Ob.At.on h hW (Nat.le_refl _)) (by show os.length≤1000;omega) a2)
   simp only [Sl.val]at HNe
   rw [a3]at HNe
   have HW4:=Lib.hid (Ext.refl w4)
   clear a1 a2 a3 a4 e4
   go_wp2_with (refine zp HH.out zS (by kernel_rfl) rfl rfl rfl 0 rfl rfl ?_)
   refine(HBd.out _ HH.out.ext).mono ?_
   rintro e w5 ⟨rfl,e5⟩
   replace HH:=Lib.hid (HH.out.later e5)
   have HE5:=Lib.hid e5
   clear e5
   go_wp2_with fail
   refine(HNe.out _ HE5.out).mono ?_
   rintro e w6 ⟨rfl,e6⟩
   replace HH:=Lib.hid (HH.out.later e6)
   go_wp2_with fail
   go_ret
   exact⟨rfl,HH.out.ext⟩
end Go.Proofs.YtckaneapjpiocaaGreatDoor
