/- The texts Tr4 in one file. -/
import Derived.Test.YtckaneapjpiocaaGreatDoorP11
set_option linter.unusedVariables false
set_option linter.unusedSimpArgs false
set_option maxHeartbeats 8000000
set_option maxRecDepth 100000
namespace Go.Proofs.YtckaneapjpiocaaGreatDoor
open Go.RowKit Go.Maps Go.Sort Go.Shelf
def qL(a b:ByteArray):Int:=if zd a b=true then -1 else if zd b a=true then 1 else 0
theorem aaY(w:World)(a b:ByteArray):Calls Tryz.prog 62 #[.string a,.string b] w fun e w'=>e= .returned (.int .i64 (qL a b))∧w'=w:=by
 have he:(a.toList == b.toList)=(!zd a b && !zd b a):=by
  rw [yh]
  by_cases h:a=b
  ·subst h;rw [xY];simp
  ·rw [decide_eq_false h]
   cases h1:zd a b with
   | true=>rfl
   | false=>
     cases h2:zd b a with
     | true=>rfl
     | false=>exact absurd (aaf h1 h2) h
 have h1:Op.bytesLess a.toList b.toList=zd a b:=rfl
 have h2:Op.bytesLess b.toList a.toList=zd b a:=rfl
 have HV:=Lib.hid (show qL a b=if zd a b=true then -1 else if zd b a=true then 1 else 0 from rfl)
 generalize qL a b=V at *
 generalize zd a b=x at *
 generalize zd b a=y at *
 cases x <;> cases y <;> (focus(go_enter Tryz.func62,Tryz.ntmps62;go_wp2_with (refine(ado _ _).mono ?_;rintro e wN ⟨rfl,rfl⟩);go_ret;exact⟨by rw [HV.out];rfl,rfl⟩))
theorem agY(w:World)(A:Option Addr)(c lo hi:Nat)(x y:Int)(hr:Rd w lo hi A (ints [x,y])):
 Calls Tryz.prog 185 #[.slice A 2 c] w fun e w'=>e= .returned (.int .i64 (if x=0 then y else x))∧Ext w w':=by
 obtain⟨b,o,rfl,_,f0⟩:=abZ hr (k:=0) (by simp)
 obtain⟨b',o',hh,_,f1⟩:=abZ hr (k:=1) (by simp)
 obtain⟨rfl,rfl⟩:b=b'∧o=o':=by simpa using hh
 simp only [List.getElem_cons_zero,List.getElem_cons_succ,Nat.add_zero]at f0 f1
 obtain⟨V,hV⟩: ∃V,V=if x=0 then y else x:=⟨_,rfl⟩
 rw [←hV]
 have HV:=Lib.hid hV
 clear hV
 clear hh hr
 go_enter Tryz.func185,Tryz.ntmps185
 go_wp2_with fail
 go_loopw [5,8] (fun _ i wr=> ∃k:Nat,k≤2∧i= .int .i64 (k:Int)∧Hid (0 < k→x=0)∧Hid (1 < k→y=0)∧wr=w) (fun _ i _=>2 - (intOf i).toNat)
 case atStart=>exact⟨0,by omega,rfl,Lib.hid (fun h=>absurd h (by decide)),Lib.hid (fun h=>absurd h (by decide)),rfl⟩
 case round=>
  obtain⟨k,hk,rfl,H0,H1,rfl⟩:=hrel
  rcases(show k=0∨k=1∨k=2 by omega)with rfl | rfl | rfl
  ·by_cases hx:x=0
   ·subst hx
    go_wp2_with fail
    go_roundw
    case rel=>exact⟨1,by omega,by go_num,Lib.hid (by simp),Lib.hid (by simp),by simp⟩
    case measure=>(first | (simp [intOf];done) | (simp [intOf];omega))
   ·have q:(x == 0)=false:=by simpa using hx
    rw [if_neg hx]at HV
    go_wp2_with fail
    go_ret
    exact⟨by rw [HV.out];rfl,Ext.refl _⟩
  ·have hx:=H0.out (by decide)
   rw [if_pos hx]at HV
   by_cases hy:y=0
   ·subst hy
    go_wp2_with fail
    go_roundw
    case rel=>exact⟨2,by omega,by go_num,Lib.hid (fun _=>hx),Lib.hid (by simp),by simp⟩
    case measure=>(first | (simp [intOf];done) | (simp [intOf];omega))
   ·have q:(y == 0)=false:=by simpa using hy
    go_wp2_with fail
    go_ret
    exact⟨by rw [HV.out];rfl,Ext.refl _⟩
  ·have hx:=H0.out (by decide)
   have hy:=H1.out (by decide)
   rw [if_pos hx]at HV
   subst hy
   go_wp2_with fail
   go_ret
   exact⟨by rw [HV.out];rfl,Ext.refl _⟩
def abP(x y:Gra):Int:=if qL x.user y.user=0 then qL x.path y.path else qL x.user y.user
theorem agF(x y:Gra):decide (0≤abP x y)=!ltG x y:=by
 unfold abP ltG qL
 cases h1:zd x.user y.user with
 | true=>simp
 | false=>
   cases h2:zd y.user x.user with
   | true=>
     have:x.user≠y.user:=fun e=>by rw [e,xY]at h2;cases h2
     simp [this]
   | false=>
     have:=aaf h1 h2
     cases h3:zd x.path y.path <;> cases h4:zd y.path x.path <;> simp [this]
theorem aeX(w:World)(x y:Gra):Calls Tryz.prog 142 #[.agg x.cells.toArray,.agg y.cells.toArray] w fun e w'=>e= .returned (.int .i64 (abP x y))∧Ext w w':=by
 have HV:=Lib.hid (show abP x y=if qL x.user y.user=0 then qL x.path y.path else qL x.user y.user from rfl)
 generalize abP x y=V at *
 obtain⟨x1,x2,x3⟩:=x
 obtain⟨y1,y2,y3⟩:=y
 dsimp only at HV
 have HC1:=Lib.hid (fun W=>aaY W x1 y1)
 have HC2:=Lib.hid (fun W=>aaY W x2 y2)
 generalize qL x1 y1=u at *
 generalize qL x2 y2=v at *
 simp only [Gra.cells]
 go_enter Tryz.func142,Tryz.ntmps142
 go_upto_region 1 with fail
 generalize hwH:World.alloc (World.alloc w _) _=w1;have HH:=Lib.hid (Heap.two hwH);clear hwH
 have HHd:=Lib.hid HH.out.drew
 clear HH
 refine wp_region_held_drew (S:=Heap w [_,_]) (by kernel_rfl) HHd.out (fun hHeld=>?_)
 generalize World.drew w1=wd at *
 refine tW 0 1 ?_
 refine tG 1 rfl (fun wT hST=>za hST rfl rfl 1 rfl rfl (by kernel_rfl)) hHeld ?_;(try simp only [Act.put,lyA,lyB,lyC])
 refine tW 2 1 ?_
 refine tG 3 rfl (fun wT hST=>za hST rfl rfl 0 rfl rfl (by kernel_rfl)) hHeld ?_;(try simp only [Act.put,lyA,lyB,lyC])
 refine tW 5 1 ?_
 refine tG 6 rfl (fun wT hST=>za hST rfl rfl 1 rfl rfl (by kernel_rfl)) hHeld ?_;(try simp only [Act.put,lyA,lyB,lyC])
 refine tW 7 1 ?_
 refine tG 8 rfl (fun wT hST=>za hST rfl rfl 0 rfl rfl (by kernel_rfl)) hHeld ?_;(try simp only [Act.put,lyA,lyB,lyC])
 clear hHeld
 refine oS 4 (fun K hK=>?_)
 go_simp
 refine(HC1.out _).mono ?_
 rintro e w3 ⟨rfl,rfl⟩
 go_wp2_with fail
 refine hK.out _ _ HHd.out (fun hHeld=>?_);clear hK K;(try simp only [Act.put,lyA,lyB,lyC])
 clear hHeld
 refine oS 9 (fun K hK=>?_)
 go_simp
 refine(HC2.out _).mono ?_
 rintro e w4 ⟨rfl,rfl⟩
 go_wp2_with fail
 refine hK.out _ _ HHd.out (fun hHeld=>?_);clear hK K;(try simp only [Act.put,lyA,lyB,lyC])
 clear hHeld
 refine oS 10 (fun K hK=>?_)
 go_simp;generalize hwA:World.alloc _ _=w5;have HH5:=Lib.hid ((HHd).out.allocE hwA);clear hwA HHd
 refine hK.out _ _ HH5.out.tail (fun hHeld=>?_);clear hK K;(try simp only [Act.put,lyA,lyB,lyC])
 clear hHeld
 refine oS 11 (fun K hK=>?_)
 go_simp
 refine(agY w5 _ _ _ _ u v (HH5.out.boxRd 0 rfl)).mono ?_
 rintro e w6 ⟨rfl,e6⟩
 have HH6:=Lib.hid (HH5.out.tail.later e6)
 clear HH5 e6
 rw [←HV.out]
 go_wp2_with fail
 refine hK.out _ _ HH6.out (fun hHeld=>?_);clear hK K;(try simp only [Act.put,lyA,lyB,lyC])
 refine tW 12 1 ?_
 refine wpAnyH_done (by kernel_rfl) ?_ _
 clear hHeld
 go_wp2_with fail
 go_ret
 exact⟨rfl,HH6.out.ext⟩
theorem ql:(Tryz.prog.info? 116).map (·.size)=some 3:=by kernel_rfl
theorem ahh(l:List Gra)(k:Nat)(h:k < l.length)(hp:xh l[k]=false):grB l=false:=by
 rw [grB,xt xh l k h hp];simp
theorem ahg(l:List Gra)(k:Nat)(h:k+1 < l.length)(hp:ltG l[k] l[k+1]=false):grB l=false:=by
 have:((List.range (l.length - 1)).all fun k=>ltG (l.getD k zG) (l.getD (k+1) zG))=false:=by
  rw [List.all_eq_false]
  refine⟨k,List.mem_range.2 (by omega),?_⟩
  simp [List.getD,List.getElem?_eq_getElem h,List.getElem?_eq_getElem (show k < l.length by omega),hp]
 rw [grB,this];simp
theorem ahw(l:List Gra)(h16:l.length≤16)(h1: ∀k (h:k < l.length),xh l[k]=true)(h2: ∀k (h:k+1 < l.length),ltG l[k] l[k+1]=true):grB l=true:=by
 have a:l.all xh=true:=List.all_eq_true.2 fun x hx=>by
  obtain⟨k,hk,rfl⟩:=List.getElem_of_mem hx
  exact h1 k hk
 have b:((List.range (l.length - 1)).all fun k=>ltG (l.getD k zG) (l.getD (k+1) zG))=true:=by
  rw [List.all_eq_true]
  intro k hk
  have hk:=List.mem_range.1 hk
  simp [List.getD,List.getElem?_eq_getElem (show k+1 < l.length by omega),List.getElem?_eq_getElem (show k < l.length by omega),h2 k (by omega)]
 rw [grB,a,b,decide_eq_true h16];rfl
theorem aeP{w:World}{lo hi:Nat}{A:Option Addr}{xs:List Gra}(h:Rd w lo hi A (xs.flatMap Gra.cells)){k:Nat}(hk:k < xs.length):
 ∃b o,A=some ⟨b,o,none⟩∧b < hi∧w.cell? ⟨b,o+k * 3,none⟩=some (.string xs[k].user)∧w.cell? ⟨b,o+k * 3+1,none⟩=some (.string xs[k].path)∧w.cell? ⟨b,o+k * 3+2,none⟩=some (.int .i64 xs[k].perms):=by
 obtain⟨b,o,h1,_,h3,G⟩:=zk (size:=3) (fun _=>rfl) (by omega) h hk
 exact⟨b,o,h1,h3,G 0 _ rfl,G 1 _ rfl,G 2 _ rfl⟩
theorem aeY(w:World)(s:Sl Gra)(hM:yJ w)(h:Sl.At w 0 w.heap.size Gra.cells Gra.sm s):
 Calls Tryz.prog 82 #[s.val] w fun e w'=>e= .returned (.int .i64 (if grB s.xs=true then 0 else 9))∧Ext w w':=by
 have HA:=Lib.hid h
 have HMx:=Lib.hid hM
 obtain⟨A,n,c,xs⟩:=s
 have Hn:=Lib.hid (show n=xs.length from h.len)
 have hm:n≤9223372036854775807:=Nat.le_trans (Nat.le_trans h.le h.cap) (by decide)
 have H1:=Lib.hid (ahh xs)
 have H2:=Lib.hid (ahg xs)
 have HY:=Lib.hid (ahw xs)
 have H0:=Lib.hid (show 16 < n→grB xs=false from fun h16=>by rw [grB,decide_eq_false (by have:=Hn.out;omega)];rfl)
 dsimp only
 generalize grB xs=V at *
 clear h hM
 simp only [Sl.val]
 by_cases h16:16 < n
 ·obtain rfl:V=false:=H0.out h16
  have q:(16:Int) < (n:Int):=by omega
  go_enter Tryz.func82,Tryz.ntmps82
  go_wp2_with fail
  go_ret
  exact⟨rfl,Ext.refl _⟩
 ·have q: ¬(16:Int) < (n:Int):=by omega
  go_enter Tryz.func82,Tryz.ntmps82
  go_wp2_with fail
  go_loopw [3,4,10] (fun _ _ v wr=> ∃k:Nat,k≤n∧v= .int .i64 (k:Int)∧Hid ((∀j (h:j < xs.length),j < k→xh xs[j]=true)∧ ∀j (h:j+1 < xs.length),j+1 < k→ltG xs[j] xs[j+1]=true)∧Ext w wr) (fun _ _ v _=>n - (intOf v).toNat)
  case atStart=>exact⟨0,Nat.zero_le _,rfl,Lib.hid ⟨fun j h hj=>absurd hj (Nat.not_lt_zero _),fun j h hj=>absurd hj (Nat.not_lt_zero _)⟩,Ext.refl _⟩
  case round=>
   obtain⟨k,hk,rfl,HK,e1⟩:=hrel
   by_cases hlt:k < n
   ·have l1:k < xs.length:=by rw [←Hn.out];exact hlt
    obtain⟨b1,o1,hA1,hb1,f0,f1,f2⟩:=aeP (HA.out.rd.ext e1 (Nat.le_refl _)) l1
    dsimp only at hA1
    subst hA1
    have HSm:=Lib.hid (HA.out.all _ (List.getElem_mem l1))
    have HB1:=Lib.hid (fun hp=>(Bool.eq_false_iff.2 (fun hv=>by rw [H1.out k l1 hp]at hv;cases hv):V=false))
    have HB2:=Lib.hid (fun(j:Nat) (hj:k=j+1) (hp:ltG (xs[j]'(by omega)) xs[k]=false)=>show V=false by subst hj;exact H2.out j l1 hp)
    have HT:=Lib.hid (fun(h1:xh xs[k]=true) (h2: ∀j (hj:k=j+1),ltG (xs[j]'(by omega)) xs[k]=true)=>show(∀j (h:j < xs.length),j < k+1→xh xs[j]=true)∧ ∀j (h:j+1 < xs.length),j+1 < k+1→ltG xs[j] xs[j+1]=true from
     ⟨fun j h hj=>by
       rcases Nat.lt_or_ge j k with h3 | h3
       ·exact HK.out.1 j h h3
       ·obtain rfl:j=k:=by omega
        exact h1,fun j h hj=>by
       rcases Nat.lt_or_ge (j+1) k with h3 | h3
       ·exact HK.out.2 j h h3
       ·obtain rfl:k=j+1:=by omega
        exact h2 j rfl⟩)
    have HPv:=Lib.hid (fun(j:Nat) (hj:k=j+1)=>show∃y:Gra,xs[j]'(by omega)=y∧wr.cell? ⟨b1,o1+j * 3,none⟩=some (.string y.user)∧wr.cell? ⟨b1,o1+j * 3+1,none⟩=some (.string y.path)∧wr.cell? ⟨b1,o1+j * 3+2,none⟩=some (.int .i64 y.perms)by
     obtain⟨b2,o2,hh,_,d0,d1,d2⟩:=aeP (HA.out.rd.ext e1 (Nat.le_refl _)) (k:=j) (show j < xs.length by omega)
     obtain⟨rfl,rfl⟩:b1=b2∧o1=o2:=by simpa using hh
     exact⟨_,rfl,d0,d1,d2⟩)
    generalize xs[k]=x at *
    obtain⟨us,pa,pe⟩:=x
    dsimp only at f0 f1 f2
    have hkn:(k:Int) < (n:Int):=by omega
    have HX:=Lib.hid (show xh ⟨us,pa,pe⟩=(zi us && (zv pa && (decide (1≤pe) && decide (pe≤255))))from rfl)
    have HNm:=Lib.hid (fun W=>xf us W (Nat.le_trans HSm.out.1 (by decide)))
    have HPa:=Lib.hid (fun W (hW:Ext w W)=>xW pa W (HMx.out.ext hW) (Nat.lt_of_le_of_lt HSm.out.2.1 (by decide)))
    have HH:=Lib.hid (Heap.start wr)
    go_upto_region 6 with(refine zt (HH.out.alloc _ _) ql rfl rfl rfl rfl 0 rfl rfl rfl rfl ?_;clear HH;intro wS HHS;have HH:=Lib.hid HHS;clear HHS)
    obtain⟨xb,hxb⟩: ∃b,b=wr.heap.size:=⟨_,rfl⟩
    rw [←hxb]at HH ⊢
    clear hxb f0 f1 f2
    have HHd:=Lib.hid (show Heap wr [.box xb [.string us,.string pa,.int .i64 pe]] (World.drew wS)from HH.out.drew)
    clear HH
    refine wp_region_held_drew (S:=Heap wr [.box xb [.string us,.string pa,.int .i64 pe]]) (by kernel_rfl) HHd.out (fun hHeld=>?_)
    generalize World.drew _=wd at *
    refine tW 0 1 ?_
    refine tG 1 rfl (fun wT hST=>za hST rfl rfl 0 rfl rfl (by kernel_rfl)) hHeld ?_;(try simp only [Act.put,lyA,lyB,lyC])
    clear hHeld
    refine oS 2 (fun K hK=>?_)
    go_simp
    refine(HNm.out _).mono ?_
    rintro e w3 ⟨rfl,e3⟩
    have HH3:=Lib.hid (HHd.out.later e3)
    clear HHd e3 HNm
    go_wp2_with fail
    refine hK.out _ _ HH3.out (fun hHeld=>?_);clear hK K;(try simp only [Act.put,lyA,lyB,lyC])
    generalize zi us=b1 at *
    cases b1 with
    | false=>
      obtain rfl:V=false:=HB1.out (by rw [HX.out];rfl)
      clear HT HPv HB1 HB2
      refine tW 3 2 ?_
      refine sW 5 4 ?_
      refine tW 9 2 ?_
      refine sW 11 3 ?_
      refine tW 14 2 ?_
      refine sW 16 3 ?_
      refine tW 19 2 ?_
      refine sW 21 12 ?_
      refine tW 33 1 ?_
      refine wpAnyH_done (by kernel_rfl) ?_ _
      clear hHeld
      go_wp2_with fail
      go_ret
      exact⟨rfl,e1.trans HH3.out.ext⟩
    | true=>
      refine tW 3 3 ?_
      refine tG 6 rfl (fun wT hST=>za hST rfl rfl 0 rfl rfl (by kernel_rfl)) hHeld ?_;(try simp only [Act.put,lyA,lyB,lyC])
      clear hHeld
      refine oS 7 (fun K hK=>?_)
      go_simp
      refine(HPa.out _ (e1.trans HH3.out.ext)).mono ?_
      rintro e w4 ⟨rfl,e4⟩
      have HH4:=Lib.hid (HH3.out.later e4)
      clear HH3 e4 HPa
      go_wp2_with fail
      refine hK.out _ _ HH4.out (fun hHeld=>?_);clear hK K;(try simp only [Act.put,lyA,lyB,lyC])
      generalize zv pa=b2 at *
      cases b2 with
      | false=>
        obtain rfl:V=false:=HB1.out (by rw [HX.out];rfl)
        clear HT HPv HB1 HB2
        refine tW 8 3 ?_
        refine sW 11 3 ?_
        refine tW 14 2 ?_
        refine sW 16 3 ?_
        refine tW 19 2 ?_
        refine sW 21 12 ?_
        refine tW 33 1 ?_
        refine wpAnyH_done (by kernel_rfl) ?_ _
        clear hHeld
        go_wp2_with fail
        go_ret
        exact⟨rfl,e1.trans HH4.out.ext⟩
      | true=>
        refine tW 8 4 ?_
        refine tG 12 rfl (fun wT hST=>za hST rfl rfl 0 rfl rfl (by kernel_rfl)) hHeld ?_;(try simp only [Act.put,lyA,lyB,lyC])
        by_cases hp1:pe < 1
        ·obtain rfl:V=false:=HB1.out (by rw [HX.out,decide_eq_false (show¬1≤pe by omega)];rfl)
         have q1:decide (pe < 1)=true:=decide_eq_true hp1
         clear HT HPv HB1 HB2
         refine tW 13 3 ?_
         refine sW 16 3 ?_
         refine tW 19 2 ?_
         refine sW 21 12 ?_
         refine tW 33 1 ?_
         refine wpAnyH_done (by kernel_rfl) ?_ _
         clear hHeld
         go_wp2_with fail
         go_ret
         exact⟨rfl,e1.trans HH4.out.ext⟩
        ·have q1:decide (pe < 1)=false:=decide_eq_false hp1
         refine tW 13 4 ?_
         refine tG 17 rfl (fun wT hST=>za hST rfl rfl 0 rfl rfl (by kernel_rfl)) hHeld ?_;(try simp only [Act.put,lyA,lyB,lyC])
         by_cases hp2:255 < pe
         ·obtain rfl:V=false:=HB1.out (by rw [HX.out,decide_eq_false (show¬pe≤255 by omega),Bool.and_false,Bool.and_false,Bool.and_false])
          have q2:decide (255 < pe)=true:=decide_eq_true hp2
          clear HT HPv HB1 HB2
          refine tW 18 3 ?_
          refine sW 21 12 ?_
          refine tW 33 1 ?_
          refine wpAnyH_done (by kernel_rfl) ?_ _
          clear hHeld
          go_wp2_with fail
          go_ret
          exact⟨rfl,e1.trans HH4.out.ext⟩
         ·have q2:decide (255 < pe)=false:=decide_eq_false hp2
          have HG1:=Lib.hid (show xh ⟨us,pa,pe⟩=true by rw [HX.out,decide_eq_true (show 1≤pe by omega),decide_eq_true (show pe≤255 by omega)];rfl)
          clear hp1 hp2
          by_cases hk0:k=0
          ·subst hk0
           have HK2:=Lib.hid (HT.out HG1.out (fun j hj=>by omega))
           clear HT HPv HB1 HB2 HG1 HX
           refine tW 18 6 ?_
           refine sW 24 8 ?_
           refine tW 32 2 ?_
           refine wpAnyH_done (by kernel_rfl) ?_ _
           clear hHeld
           go_wp2_with fail
           go_roundw
           case rel=>exact⟨1,by omega,by go_num,HK2,e1.trans HH4.out.ext⟩
           case measure=>(first | (simp [intOf];done) | (simp [intOf];omega))
          ·obtain⟨j,rfl⟩: ∃j,k=j+1:=⟨k - 1,by omega⟩
           obtain⟨y,hy,d0,d1,d2⟩:=HPv.out j rfl
           have HL:=Lib.hid (fun hp=>HB2.out j rfl (by rw [hy];exact hp))
           have HT2:=Lib.hid (fun hp=>HT.out HG1.out (fun i hi=>by obtain rfl:i=j:=(by omega);rw [hy];exact hp))
           have HO:=Lib.hid (agF y ⟨us,pa,pe⟩)
           have HOr:=Lib.hid (fun W=>aeX W y ⟨us,pa,pe⟩)
           generalize abP y ⟨us,pa,pe⟩=od at *
           generalize ltG y ⟨us,pa,pe⟩=lt at *
           have p0: ∀W,Heap wr [.box xb [.string us,.string pa,.int .i64 pe]] W→W.cell? ⟨b1,o1+j * 3,none⟩=some (.string y.user):=fun W hW=>(Below.cell hW.ext (World.block_lt_of_cell? wr _ d0)).trans d0
           have p1: ∀W,Heap wr [.box xb [.string us,.string pa,.int .i64 pe]] W→W.cell? ⟨b1,o1+j * 3+1,none⟩=some (.string y.path):=fun W hW=>(Below.cell hW.ext (World.block_lt_of_cell? wr _ d1)).trans d1
           have p2: ∀W,Heap wr [.box xb [.string us,.string pa,.int .i64 pe]] W→W.cell? ⟨b1,o1+j * 3+2,none⟩=some (.int .i64 y.perms):=fun W hW=>(Below.cell hW.ext (World.block_lt_of_cell? wr _ d2)).trans d2
           have q3:IntKind.i64.wrap (j:Int)=(j:Int):=IntWalk.i64_in _ (by omega)
           have q4:(0:Int) < (j:Int)+1:=by omega
           have q5:(j:Int) < (n:Int):=by omega
           clear hy d0 d1 d2 HT HPv HB1 HB2 HG1 HX
           simp only [Gra.cells]at HOr
           refine tW 18 11 ?_
           refine tG 29 rfl (fun wT hST=>z6 hST ql (by kernel_rfl) rfl rfl 0 rfl (Nat.le_of_ble_eq_true rfl)) hHeld ?_;(try simp only [Act.put,lyA,lyB,lyC])
           clear hHeld p0 p1 p2
           refine oS 30 (fun K hK=>?_)
           go_simp
           refine(HOr.out _).mono ?_
           rintro e w5 ⟨rfl,e5⟩
           have HH5:=Lib.hid (HH4.out.later e5)
           clear HH4 e5 HOr
           go_wp2_with fail
           refine hK.out _ _ HH5.out (fun hHeld=>?_);clear hK K;(try simp only [Act.put,lyA,lyB,lyC])
           have q6:=HO.out
           cases lt with
           | false=>
             obtain rfl:V=false:=HL.out rfl
             clear HL HT2
             refine tW 31 3 ?_
             refine wpAnyH_done (by kernel_rfl) ?_ _
             clear hHeld
             go_wp2_with fail
             go_ret
             exact⟨rfl,e1.trans HH5.out.ext⟩
           | true=>
             have HK2:=Lib.hid (HT2.out rfl)
             clear HL HT2
             refine tW 31 3 ?_
             refine wpAnyH_done (by kernel_rfl) ?_ _
             clear hHeld
             go_wp2_with fail
             go_roundw
             case rel=>exact⟨j+1+1,by omega,by go_num,HK2,e1.trans HH5.out.ext⟩
             case measure=>(first | (simp [intOf];done) | (simp [intOf];omega))
   ·obtain rfl:k=n:=by omega
    obtain rfl:V=true:=(HY.out (by rw [←Hn.out];omega) (fun j h=>HK.out.1 j h (by rw [Hn.out];exact h)) (fun j h=>HK.out.2 j h (by rw [Hn.out];exact h)))
    go_wp2_with fail
    go_ret
    exact⟨rfl,e1⟩
end Go.Proofs.YtckaneapjpiocaaGreatDoor
