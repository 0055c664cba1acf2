/- The texts Alv, Rf3 in one file. -/
import Derived.Test.YtckaneapjpiocaaGreatDoorQ29
set_option linter.unusedVariables false
set_option linter.unusedSimpArgs false
set_option maxHeartbeats 8000000
set_option maxRecDepth 100000
namespace Go.Proofs.YtckaneapjpiocaaGreatDoor
open Go.RowKit Go.Maps Go.Sort Go.Shelf
theorem ace{α:Type}(w:World)(lo hi:Nat)(cells:α→List Value)(I:α→Prop):Sl.At w lo hi cells I ⟨none,0,0, []⟩:=
 ⟨rfl,Nat.le_refl _,Nat.zero_le _,fun hn=>absurd rfl hn,fun y hy=>by cases hy⟩
theorem aoz(l:List ByteArray)(k:Nat)(h:k < l.length)(hp:zd l[k]=false):aad l=false:=by
 rw [aad,aaf zd l k h hp];simp
theorem aoi(l:List ByteArray)(j:Nat)(h:j+1 < l.length)(hp:lessB l[j] l[j+1]=false):aad l=false:=by
 rw [aad,aca l j h hp];simp
theorem aoe(l:List ByteArray)(h1: ∀k (h:k < l.length),zd l[k]=true)(h2: ∀j (h:j+1 < l.length),lessB l[j] l[j+1]=true):aad l=decide (l.length≤4):=by
 have a:l.all zd=true:=List.all_eq_true.2 fun x hx=>by
  obtain⟨k,hk,rfl⟩:=List.getElem_of_mem hx
  exact h1 k hk
 rw [aad,a,aa1 l h2];simp
theorem alq(w:World)(s:Txs)(h:Txs.At w 0 w.heap.size s):
 Calls Tryz.prog 135 #[s.val] w fun e w'=>e= .returned (.bool (aad s.xs))∧Ext w w':=by
 have HA:=hiD h
 obtain⟨A,n,c,xs⟩:=s
 have Hn:=hiD (show n=xs.length from h.len)
 have hm:n≤9223372036854775807:=Nat.le_trans (Nat.le_trans h.le h.cap) (by decide)
 have H1:=hiD (aoz xs)
 have H2:=hiD (aoi xs)
 have HY:=hiD (aoe xs)
 dsimp only
 generalize aad xs=V at *
 clear h
 simp only [Sl.val]
 go_enter Tryz.func135,Tryz.ntmps135
 go_wp2_with fail
 go_loopw [3] (fun v wr=> ∃k:Nat,k≤n∧v= .int .i64 (k:Int)∧Hid ((∀j (h:j < xs.length),j < k→zd xs[j]=true)∧ ∀j (h:j+1 < xs.length),j+1 < k→lessB xs[j] xs[j+1]=true)∧Ext w wr) (fun v _=>n - (intOf v).toNat)
 case atStart=>exact⟨0,Nat.zero_le _,rfl,hiD ⟨fun j h hj=>absurd hj (Nat.not_lt_zero _),fun j h hj=>absurd hj (Nat.not_lt_zero _)⟩,Ext.refl _⟩
 case round=>
  obtain⟨k,hk,rfl,HK,e1⟩:=hrel
  by_cases hlt:k < n
  ·have l1:k < xs.length:=by rw [←Hn.out];exact hlt
   obtain⟨b1,o1,hA1,_,hb1,G⟩:=zh (size:=1) (fun _=>rfl) (by omega) HA.out.rd l1
   dsimp only at hA1
   subst hA1
   have HB1:=hiD (fun hp=>H1.out k l1 hp)
   have HR0:=hiD (fun(j:Nat) (hj:k=j+1) (hp:lessB (xs[j]'(by omega)) xs[k]=false)=>show V=false by subst hj;exact H2.out j l1 hp)
   have HT:=hiD (fun(h1:zd xs[k]=true) (h2: ∀j (hj:k=j+1),lessB (xs[j]'(by omega)) xs[k]=true)=>show(∀j (h:j < xs.length),j < k+1→zd xs[j]=true)∧ ∀j (h:j+1 < xs.length),j+1 < k+1→lessB xs[j] xs[j+1]=true from
    ⟨fun j h hj=>by
      rcases Nat.lt_or_ge j k with h3 | h3
      ·exact HK.out.1 j h h3
      ·obtain rfl:j=k:=by omega
       exact h1,fun j h hj=>by
      rcases Nat.lt_or_ge (j+1) k with h3 | h3
      ·exact HK.out.2 j h h3
      ·obtain rfl:k=j+1:=by omega
       exact h2 j rfl⟩)
   have HPv:=hiD (fun(j:Nat) (hj:k=j+1)=>show∃y:ByteArray,(xs[j]'(by omega))=y∧w.cell? ⟨b1,o1+j,none⟩=some (.string y)by
    obtain⟨b2,o2,hh,_,_,G2⟩:=zh (size:=1) (fun _=>rfl) (by omega) HA.out.rd (k:=j) (show j < xs.length by omega)
    obtain⟨rfl,rfl⟩:b1=b2∧o1=o2:=by simpa using hh
    have q:=G2 0 _ rfl
    rw [Nat.mul_one,Nat.add_zero]at q
    exact⟨_,rfl,q⟩)
   have HNm:=hiD (fun W=>qN xs[k] W (Nat.le_trans (HA.out.all _ (List.getElem_mem l1)) (by decide)))
   have g0:=G 0 _ rfl
   rw [Nat.mul_one,Nat.add_zero]at g0
   clear G
   generalize xs[k]=x at *
   have g0W: ∀W,Heap w [] W→W.cell? ⟨b1,o1+k,none⟩=some (.string x):=fun W hW=>(Below.cell hW.ext (World.block_lt_of_cell? w _ g0)).trans g0
   clear g0
   generalize zd x=nb at *
   have hkn:(k:Int) < (n:Int):=by omega
   go_upto_region 4 with fail
   have HHd:=hiD (show Heap w [] (World.drew wr)from((Heap.start w).later e1).drew)
   refine wp_region_held_drew (S:=Heap w []) (by kernel_rfl) HHd.out (fun hHeld=>?_)
   generalize World.drew _=wd at *
   refine tW 0 4 ?_
   clear hHeld
   refine oS 4 (fun K hK=>?_)
   go_simp
   refine cX HHd (HNm.out _) ?_
   clear HHd
   intro w3 HH3
   go_wp2_with fail
   refine hK.out _ _ (HH3).out (fun hHeld=>?_);clear hK K;refine lyX ?_
   cases nb with
   | false=>
     obtain rfl:V=false:=HB1.out rfl
     clear HT HR0 HB1
     refine zq [(5,some 15,.bool true),(6,some 16,.bool true),(7,some 17,undef),(8,some 18,undef),(9,some 19,undef),(10,some 20,undef),(11,some 21,undef),(12,some 22,undef),(13,some 23,undef),(14,some 24,undef),(15,some 25,undef),(16,some 26,undef),(17,some 27,undef),(18,some 28,undef),(19,some 29,undef),(20,some 30,undef),(21,some 31,.bool true)] rfl (fun _ _ _ _ _ h=>h) (by kernel_rfl) (by assumption) ?_;(try simp only [zg,zf,Act.put,lyA,lyB,lyC])
     refine dnX ?_
     clear hHeld
     go_wp2_with fail
     go_ret
     exact⟨rfl,HH3.out.ext⟩
   | true=>
     refine tW 5 3 ?_
     by_cases hk0:k=0
     ·subst hk0
      have HR:=hiD (show∀j (hj:0=j+1),lessB (xs[j]'(by omega)) x=true from fun j hj=>by omega)
      refine tW 8 1 ?_
      have HK2:=hiD (HT.out rfl HR.out)
      clear HT HR0 HB1 HR
      refine zq [(9,some 19,.bool false),(10,some 20,undef),(11,some 21,undef),(12,some 22,undef),(13,some 23,undef),(14,some 24,undef),(15,some 25,undef),(16,some 26,undef),(17,some 27,undef),(18,some 28,undef),(19,some 29,undef),(20,some 30,.bool false),(21,some 31,.bool false)] rfl (fun _ _ _ _ _ h=>h) (by kernel_rfl) (by assumption) ?_;(try simp only [zg,zf,Act.put,lyA,lyB,lyC])
      refine dnX ?_
      clear hHeld
      go_wp2_with fail
      go_roundw
      case rel=>(first | exact⟨_,by omega,by go_num,HK2,HH3.out.ext⟩ | exact⟨1,by omega,rfl,HK2,HH3.out.ext⟩)
      case measure=>(first | (simp [intOf];done) | (simp [intOf];omega))
     ·obtain⟨j,rfl⟩: ∃j,k=j+1:=⟨k - 1,by omega⟩
      obtain⟨y,hy,d0⟩:=HPv.out j rfl
      have HRy:=hiD (fun hp=>HR0.out j rfl (by rw [hy];exact hp))
      have HRz:=hiD (fun(hp:lessB y x=true) (i:Nat) (hi:j+1=i+1)=>show lessB (xs[i]'(by omega)) x=true from by obtain rfl:i=j:=(by omega);rw [hy];exact hp)
      have p0: ∀W,Heap w [] W→W.cell? ⟨b1,o1+j,none⟩=some (.string y):=fun W hW=>(Below.cell hW.ext (World.block_lt_of_cell? w _ d0)).trans d0
      clear hy d0
      have q3:IntKind.i64.wrap (j:Int)=(j:Int):=IntWalk.i64_in _ (by omega)
      have q4:(0:Int) < (j:Int)+1:=by omega
      have q5:(j:Int) < (n:Int):=by omega
      have q6:(j:Int)+1 < (n:Int):=by omega
      have q7:(0:Int)≤(j:Int)+1:=by omega
      refine tW 8 11 ?_
      clear p0
      cases hl:lessB y x with
      | false=>
        have hq:(Op.bytesLess x.toList y.toList || x.toList == y.toList)=true:=by have q:=xP y x;rw [hl]at q;exact q
        refine tW 19 1 ?_
        obtain rfl:V=false:=HRy.out hl
        clear HT HR0 HB1
        refine zq [(20,some 30,.bool true),(21,some 31,.bool true)] rfl (fun _ _ _ _ _ h=>h) (by kernel_rfl) (by assumption) ?_;(try simp only [zg,zf,Act.put,lyA,lyB,lyC])
        refine dnX ?_
        clear hHeld
        go_wp2_with fail
        go_ret
        exact⟨rfl,HH3.out.ext⟩
      | true=>
        have hq:(Op.bytesLess x.toList y.toList || x.toList == y.toList)=false:=by have q:=xP y x;rw [hl]at q;exact q
        have HR:=hiD (HRz.out hl)
        clear HRy HRz
        refine tW 19 1 ?_
        have HK2:=hiD (HT.out rfl HR.out)
        clear HT HR0 HB1 HR
        refine zq [(20,some 30,.bool false),(21,some 31,.bool false)] rfl (fun _ _ _ _ _ h=>h) (by kernel_rfl) (by assumption) ?_;(try simp only [zg,zf,Act.put,lyA,lyB,lyC])
        refine dnX ?_
        clear hHeld
        go_wp2_with fail
        go_roundw
        case rel=>(first | exact⟨_,by omega,by go_num,HK2,HH3.out.ext⟩ | exact⟨1,by omega,rfl,HK2,HH3.out.ext⟩)
        case measure=>(first | (simp [intOf];done) | (simp [intOf];omega))
  ·obtain rfl:k=n:=by omega
   have HV:V=decide ((k:Int)≤4):=by
    have q:=HY.out (fun j h=>HK.out.1 j h (by rw [Hn.out];exact h)) (fun j h=>HK.out.2 j h (by rw [Hn.out];exact h))
    rw [←Hn.out]at q
    rw [q,decide_eq_decide];omega
   clear HY H1 H2 HK
   go_wp2_with fail
   go_ret
   exact⟨by rw [HV];rfl,e1⟩
end Go.Proofs.YtckaneapjpiocaaGreatDoor
