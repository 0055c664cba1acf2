/- The texts Tr5 in one file. -/
import Derived.Test.YtckaneapjpiocaaGreatDoorQ24
set_option linter.unusedVariables false
set_option linter.unusedSimpArgs false
set_option maxHeartbeats 8000000
set_option maxRecDepth 100000
namespace Go.Proofs.YtckaneapjpiocaaGreatDoor
open Go.RowKit Go.Maps Go.Sort Go.Shelf
theorem ake(l:List Stg)(k:Nat)(h:k < l.length)(hp:stB l[k]=false):xM l=false:=by
 rw [xM,aaf stB l k h hp];simp
theorem ahR(l:List Stg)(j:Nat)(h:j+1 < l.length)(hp:lessB l[j].into l[j+1].into=false):xM l=false:=by
 have:yR (l.map Stg.into)=false:=aca _ j (by simpa using h) (by simpa using hp)
 rw [xM,this];simp
theorem ahY(l:List Stg)(h1: ∀k (h:k < l.length),stB l[k]=true)(h2: ∀j (h:j+1 < l.length),lessB l[j].into l[j+1].into=true):xM l=decide (l.length≤4):=by
 have a:l.all stB=true:=List.all_eq_true.2 fun x hx=>by
  obtain⟨k,hk,rfl⟩:=List.getElem_of_mem hx
  exact h1 k hk
 have b:yR (l.map Stg.into)=true:=aa1 _ fun k h=>by
  have:=h2 k (by simpa using h)
  simpa using this
 rw [xM,a,b];simp
theorem ai7(w:World)(s:Sl Stg)(hM:xf w)(h:Sl.At w 0 w.heap.size Stg.cells (Stg.At w 0 w.heap.size) s):
 Calls Tryz.prog 83 #[s.val] w fun e w'=>e= .returned (.bool (xM s.xs))∧Ext w w':=by
 have HA:=hiD h
 have HMx:=hiD hM
 obtain⟨A,n,c,xs⟩:=s
 have Hn:=hiD (show n=xs.length from h.len)
 have hm:n≤9223372036854775807:=Nat.le_trans (Nat.le_trans h.le h.cap) (by decide)
 have H1:=hiD (ake xs)
 have H2:=hiD (ahR xs)
 have HY:=hiD (ahY xs)
 dsimp only
 generalize xM xs=V at *
 clear h hM
 simp only [Sl.val]
 go_enter Tryz.func83,Tryz.ntmps83
 go_wp2_with fail
 go_loopw [3,4,7] (fun _ _ v wr=> ∃k:Nat,k≤n∧v= .int .i64 (k:Int)∧Hid ((∀j (h:j < xs.length),j < k→stB xs[j]=true)∧ ∀j (h:j+1 < xs.length),j+1 < k→lessB xs[j].into xs[j+1].into=true)∧Ext w wr) (fun _ _ v _=>n - (intOf v).toNat)
 case atStart=>exact⟨0,Nat.zero_le _,rfl,hiD ⟨fun j h hj=>absurd hj (Nat.not_lt_zero _),fun j h hj=>absurd hj (Nat.not_lt_zero _)⟩,Ext.refl _⟩
 case round=>
  obtain⟨k,hk,rfl,HK,e1⟩:=hrel
  by_cases hlt:k < n
  ·have l1:k < xs.length:=by rw [←Hn.out];exact hlt
   obtain⟨b1,o1,hA1,_,hb1,G⟩:=zh (size:=21) (fun _=>rfl) (by omega) (HA.out.rd.ext e1 (Nat.le_refl _)) l1
   dsimp only at hA1
   subst hA1
   have HSm:=hiD (HA.out.all _ (List.getElem_mem l1))
   have HB1:=hiD (fun hp=>H1.out k l1 hp)
   have HR0:=hiD (fun(j:Nat) (hj:k=j+1) (hp:lessB (xs[j]'(by omega)).into xs[k].into=false)=>show V=false by subst hj;exact H2.out j l1 hp)
   have HT:=hiD (fun(h1:stB xs[k]=true) (h2: ∀j (hj:k=j+1),lessB (xs[j]'(by omega)).into xs[k].into=true)=>show(∀j (h:j < xs.length),j < k+1→stB xs[j]=true)∧ ∀j (h:j+1 < xs.length),j+1 < k+1→lessB xs[j].into xs[j+1].into=true from
    ⟨fun j h hj=>by
      rcases Nat.lt_or_ge j k with h3 | h3
      ·exact HK.out.1 j h h3
      ·obtain rfl:j=k:=by omega
       exact h1,fun j h hj=>by
      rcases Nat.lt_or_ge (j+1) k with h3 | h3
      ·exact HK.out.2 j h h3
      ·obtain rfl:k=j+1:=by omega
       exact h2 j rfl⟩)
   have HPv:=hiD (fun(j:Nat) (hj:k=j+1)=>show∃y:ByteArray,(xs[j]'(by omega)).into=y∧wr.cell? ⟨b1,o1+j * 21,none⟩=some (.string y)by
    obtain⟨b2,o2,hh,_,_,G2⟩:=zh (size:=21) (fun _=>rfl) (by omega) (HA.out.rd.ext e1 (Nat.le_refl _)) (k:=j) (show j < xs.length by omega)
    obtain⟨rfl,rfl⟩:b1=b2∧o1=o2:=by simpa using hh
    exact⟨_,rfl,G2 0 _ rfl⟩)
   have HBe:=hiD (fun W (hW:Ext w W)=>ahM W xs[k].beg (Rd.at HSm.out.begR hW (Nat.le_refl _)) HSm.out.beg)
   have HBk:=hiD (fun W (hW:Ext w W)=>abh W xs[k].bA xs[k].bn xs[k].bc xs[k].body HSm.out.bodyN (Nat.le_trans HSm.out.bodyM (by decide)) (Rd.at HSm.out.bodyR hW (Nat.le_refl _)) HSm.out.bodyW)
   have HPa:=hiD (fun W (hW:Ext w W)=>aaZ xs[k].into W (HMx.out.ext hW) (Nat.lt_of_le_of_lt HSm.out.into (by decide)))
   have HA1:=hiD (fun W=>qh W xs[k].pos 0 (zB HSm.out.pos).1 (zB HSm.out.pos).2)
   have HA2:=hiD (fun W=>qh W xs[k].next 0 (zB HSm.out.next).1 (zB HSm.out.next).2)
   have HX:=hiD (show stB xs[k]=(!xs[k].into.toList.isEmpty && (zF xs[k].into && (abb xs[k].beg && (decide (bkE xs[k].body=0) && (zE xs[k].pos 0 && zE xs[k].next 0)))))by
    rw [stB,aia]
    simp only [Bool.and_assoc];rfl)
   have HG:=hiD G
   clear HSm G
   generalize xs[k]=x at *
   obtain⟨into,⟨rk,rn,rf,rg,rA,rm,rc,rw_,ri,ro,rd,r0,r1,r2,r3⟩,bA,bn,bc,bd,po,nx,⟨u0,u1,u2,u3⟩,dn⟩:=x
   dsimp only at HB1 HR0 HT HBe HBk HPa HA1 HA2 HX
   generalize stB _=sb at *
   generalize abb _=bg at *
   generalize bkE bd=bk at *
   generalize zF into=pb at *
   generalize zE po 0=a1 at *
   generalize zE nx 0=a2 at *
   obtain⟨ne,hne⟩: ∃b,into.toList.isEmpty=b:=⟨_,rfl⟩
   rw [hne]at HX
   have hkn:(k:Int) < (n:Int):=by omega
   simp only [Rec.cells]at HBe
   have HGc:=hiD (show∀j u,([.string into,.int .i64 rk,.string rn,.int .i64 rf,.int .i64 rg,.slice rA rm rc,.int .i64 ri,.int .i64 ro,.string rd,.int .u64 r0,.int .u64 r1,.int .u64 r2,.int .u64 r3,.slice bA bn bc,.int .i64 po,.int .i64 nx,.int .u64 u0,.int .u64 u1,.int .u64 u2,.int .u64 u3,.bool dn]:List Value)[j]?=some u→wr.cell? ⟨b1,o1+k * 21+j,none⟩=some u from HG.out)
   clear HG
   have HH:=hiD (Heap.start wr)
   go_upto_region 4 with(first | (refine yF HGc.out rfl xT (by kernel_rfl) rfl rfl rfl ?_) | (refine sSX (hiD (HH.out.alloc _ _)) xT 0 ?_;clear HH;intro wS HH))
   obtain⟨xb,hxb⟩: ∃b,b=wr.heap.size:=⟨_,rfl⟩
   rw [←hxb]at HH ⊢
   clear hxb HGc
   have HHd:=hiD (show Heap wr [.box xb [.string into,.int .i64 rk,.string rn,.int .i64 rf,.int .i64 rg,.slice rA rm rc,.int .i64 ri,.int .i64 ro,.string rd,.int .u64 r0,.int .u64 r1,.int .u64 r2,.int .u64 r3,.slice bA bn bc,.int .i64 po,.int .i64 nx,.int .u64 u0,.int .u64 u1,.int .u64 u2,.int .u64 u3,.bool dn]] (World.drew wS)from HH.out.drew)
   clear HH
   refine wp_region_held_drew (S:=Heap wr [.box xb [.string into,.int .i64 rk,.string rn,.int .i64 rf,.int .i64 rg,.slice rA rm rc,.int .i64 ri,.int .i64 ro,.string rd,.int .u64 r0,.int .u64 r1,.int .u64 r2,.int .u64 r3,.slice bA bn bc,.int .i64 po,.int .i64 nx,.int .u64 u0,.int .u64 u1,.int .u64 u2,.int .u64 u3,.bool dn]]) (by kernel_rfl) HHd.out (fun hHeld=>?_)
   generalize World.drew _=wd at *
   refine tW 0 1 ?_
   refine tH 1 0 ?_
   cases ne with
   | true=>
     refine tW 2 1 ?_
     obtain rfl:V=false:=HB1.out (by rw [HX.out];rfl)
     clear HT HR0 HB1
     refine zq [(3,some 15,.bool true),(4,some 16,undef),(5,some 17,undef),(6,some 18,undef),(7,some 19,undef),(8,some 20,.bool true),(9,some 21,.bool true),(10,some 22,undef),(11,some 23,undef),(12,some 24,undef),(13,some 25,undef),(14,some 26,undef),(15,some 27,undef),(16,some 28,undef),(17,some 29,undef),(18,some 30,undef),(19,some 31,undef),(20,some 32,undef),(21,some 33,undef),(22,some 34,undef),(23,some 35,.bool true),(24,some 36,.bool true),(25,some 37,undef),(26,some 38,undef),(27,some 39,undef),(28,some 40,undef),(29,some 41,.bool true),(30,some 42,.bool true),(31,some 43,undef),(32,some 44,undef),(33,some 45,undef),(34,some 46,undef),(35,some 47,.bool true),(36,some 48,.bool true),(37,some 49,undef),(38,some 50,undef),(39,some 51,undef),(40,some 52,undef),(41,some 53,.bool true),(42,some 54,.bool true),(43,some 55,undef),(44,some 56,undef),(45,some 57,undef),(46,some 58,undef),(47,some 59,.bool true)] rfl (fun _ _ _ _ _ h=>h) (by kernel_rfl) (by assumption) ?_;(try simp only [zg,zf,Act.put,lyA,lyB,lyC])
     refine dnX ?_
     clear hHeld
     go_wp2_with fail
     go_ret
     exact⟨rfl,e1.trans HHd.out.ext⟩
   | false=>
     refine tW 2 3 ?_
     refine tH 5 0 ?_
     clear hHeld
     refine oS 6 (fun K hK=>?_)
     go_simp
     refine cX HHd (HPa.out _ (e1.trans HHd.out.ext)) ?_
     clear HHd
     intro w3 HH3
     go_wp2_with fail
     refine hK.out _ _ HH3.out (fun hHeld=>?_);clear hK K;refine lyX ?_
     cases pb with
     | false=>
       obtain rfl:V=false:=HB1.out (by rw [HX.out];rfl)
       clear HT HR0 HB1
       refine zq [(7,some 19,.bool true),(8,some 20,.bool true),(9,some 21,.bool true),(10,some 22,undef),(11,some 23,undef),(12,some 24,undef),(13,some 25,undef),(14,some 26,undef),(15,some 27,undef),(16,some 28,undef),(17,some 29,undef),(18,some 30,undef),(19,some 31,undef),(20,some 32,undef),(21,some 33,undef),(22,some 34,undef),(23,some 35,.bool true),(24,some 36,.bool true),(25,some 37,undef),(26,some 38,undef),(27,some 39,undef),(28,some 40,undef),(29,some 41,.bool true),(30,some 42,.bool true),(31,some 43,undef),(32,some 44,undef),(33,some 45,undef),(34,some 46,undef),(35,some 47,.bool true),(36,some 48,.bool true),(37,some 49,undef),(38,some 50,undef),(39,some 51,undef),(40,some 52,undef),(41,some 53,.bool true),(42,some 54,.bool true),(43,some 55,undef),(44,some 56,undef),(45,some 57,undef),(46,some 58,undef),(47,some 59,.bool true)] rfl (fun _ _ _ _ _ h=>h) (by kernel_rfl) (by assumption) ?_;(try simp only [zg,zf,Act.put,lyA,lyB,lyC])
       refine dnX ?_
       clear hHeld
       go_wp2_with fail
       go_ret
       exact⟨rfl,e1.trans HH3.out.ext⟩
     | true=>
       refine tW 7 4 ?_
       by_cases hk0:k=0
       ·subst hk0
        have HR:=hiD (show∀j (hj:0=j+1),lessB (xs[j]'(by omega)).into into=true from fun j hj=>by omega)
        refine tW 11 2 ?_
        refine sW 13 9 ?_
        refine tW 22 4 ?_
        refine tG 26 rfl (fun wT hST=>zj hST ze (by kernel_rfl) rfl rfl 0 rfl (Nat.le_of_ble_eq_true rfl)) hHeld ?_;refine lyX ?_
        clear hHeld
        refine oS 27 (fun K hK=>?_)
        go_simp
        refine cX HH3 (HBe.out _ (e1.trans HH3.out.ext)) ?_
        clear HH3
        intro w4 HH4
        go_wp2_with fail
        refine hK.out _ _ HH4.out (fun hHeld=>?_);clear hK K;refine lyX ?_
        cases bg with
        | false=>
          obtain rfl:V=false:=HB1.out (by rw [HX.out];simp)
          clear HT HR0 HB1
          refine zq [(28,some 40,.bool true),(29,some 41,.bool true),(30,some 42,.bool true),(31,some 43,undef),(32,some 44,undef),(33,some 45,undef),(34,some 46,undef),(35,some 47,.bool true),(36,some 48,.bool true),(37,some 49,undef),(38,some 50,undef),(39,some 51,undef),(40,some 52,undef),(41,some 53,.bool true),(42,some 54,.bool true),(43,some 55,undef),(44,some 56,undef),(45,some 57,undef),(46,some 58,undef),(47,some 59,.bool true)] rfl (fun _ _ _ _ _ h=>h) (by kernel_rfl) (by assumption) ?_;(try simp only [zg,zf,Act.put,lyA,lyB,lyC])
          refine dnX ?_
          clear hHeld
          go_wp2_with fail
          go_ret
          exact⟨rfl,e1.trans HH4.out.ext⟩
        | true=>
          refine tW 28 4 ?_
          refine tH 32 0 ?_
          clear hHeld
          refine oS 33 (fun K hK=>?_)
          go_simp
          refine cX HH4 (HBk.out _ (e1.trans HH4.out.ext)) ?_
          clear HH4
          intro w5 HH5
          go_wp2_with fail
          refine hK.out _ _ HH5.out (fun hHeld=>?_);clear hK K;refine lyX ?_
          by_cases hE34:bk=0
          ·subst hE34
           refine tW 34 4 ?_
           refine tH 38 0 ?_
           clear hHeld
           refine oS 39 (fun K hK=>?_)
           go_simp
           refine cX HH5 (HA1.out _) ?_
           clear HH5
           intro w6 HH6
           go_wp2_with fail
           refine hK.out _ _ HH6.out (fun hHeld=>?_);clear hK K;refine lyX ?_
           cases a1 with
           | false=>
             obtain rfl:V=false:=HB1.out (by rw [HX.out];simp)
             clear HT HR0 HB1
             refine zq [(40,some 52,.bool true),(41,some 53,.bool true),(42,some 54,.bool true),(43,some 55,undef),(44,some 56,undef),(45,some 57,undef),(46,some 58,undef),(47,some 59,.bool true)] rfl (fun _ _ _ _ _ h=>h) (by kernel_rfl) (by assumption) ?_;(try simp only [zg,zf,Act.put,lyA,lyB,lyC])
             refine dnX ?_
             clear hHeld
             go_wp2_with fail
             go_ret
             exact⟨rfl,e1.trans HH6.out.ext⟩
           | true=>
             refine tW 40 4 ?_
             refine tH 44 0 ?_
             clear hHeld
             refine oS 45 (fun K hK=>?_)
             go_simp
             refine cX HH6 (HA2.out _) ?_
             clear HH6
             intro w7 HH7
             go_wp2_with fail
             refine hK.out _ _ HH7.out (fun hHeld=>?_);clear hK K;refine lyX ?_
             cases a2 with
             | false=>
               obtain rfl:V=false:=HB1.out (by rw [HX.out];simp)
               clear HT HR0 HB1
               refine zq [(46,some 58,.bool true),(47,some 59,.bool true)] rfl (fun _ _ _ _ _ h=>h) (by kernel_rfl) (by assumption) ?_;(try simp only [zg,zf,Act.put,lyA,lyB,lyC])
               refine dnX ?_
               clear hHeld
               go_wp2_with fail
               go_ret
               exact⟨rfl,e1.trans HH7.out.ext⟩
             | true=>
               have HK2:=hiD (HT.out (by rw [HX.out];rfl) HR.out)
               clear HT HR0 HB1 HR
               refine zq [(46,some 58,.bool false),(47,some 59,.bool false)] rfl (fun _ _ _ _ _ h=>h) (by kernel_rfl) (by assumption) ?_;(try simp only [zg,zf,Act.put,lyA,lyB,lyC])
               refine dnX ?_
               clear hHeld
               go_wp2_with fail
               go_roundw
               case rel=>(first | exact⟨_,by omega,by go_num,HK2,e1.trans HH7.out.ext⟩ | exact⟨1,by omega,rfl,HK2,e1.trans HH7.out.ext⟩)
               case measure=>(first | (simp [intOf];done) | (simp [intOf];omega))
          ·have q34:(bk == 0)=false:=by rw [beq_eq_false_iff_ne];exact hE34
           have q34b:(bk != 0)=true:=by rw [bne_iff_ne];exact hE34
           have q34c:decide (bk=0)=false:=decide_eq_false hE34
           refine tW 34 1 ?_
           obtain rfl:V=false:=HB1.out (by rw [HX.out,q34c];simp)
           clear HT HR0 HB1
           refine zq [(35,some 47,.bool true),(36,some 48,.bool true),(37,some 49,undef),(38,some 50,undef),(39,some 51,undef),(40,some 52,undef),(41,some 53,.bool true),(42,some 54,.bool true),(43,some 55,undef),(44,some 56,undef),(45,some 57,undef),(46,some 58,undef),(47,some 59,.bool true)] rfl (fun _ _ _ _ _ h=>h) (by kernel_rfl) (by assumption) ?_;(try simp only [zg,zf,Act.put,lyA,lyB,lyC])
           refine dnX ?_
           clear hHeld
           go_wp2_with fail
           go_ret
           exact⟨rfl,e1.trans HH5.out.ext⟩
       ·obtain⟨j,rfl⟩: ∃j,k=j+1:=⟨k - 1,by omega⟩
        obtain⟨y,hy,d0⟩:=HPv.out j rfl
        have HRy:=hiD (fun hp=>HR0.out j rfl (by rw [hy];exact hp))
        have HRz:=hiD (fun(hp:lessB y into=true) (i:Nat) (hi:j+1=i+1)=>show lessB (xs[i]'(by omega)).into into=true from by obtain rfl:i=j:=(by omega);rw [hy];exact hp)
        have p0: ∀W,Heap wr [.box xb [.string into,.int .i64 rk,.string rn,.int .i64 rf,.int .i64 rg,.slice rA rm rc,.int .i64 ri,.int .i64 ro,.string rd,.int .u64 r0,.int .u64 r1,.int .u64 r2,.int .u64 r3,.slice bA bn bc,.int .i64 po,.int .i64 nx,.int .u64 u0,.int .u64 u1,.int .u64 u2,.int .u64 u3,.bool dn]] W→W.cell? ⟨b1,o1+j * 21,none⟩=some (.string y):=fun W hW=>(Below.cell hW.ext (World.block_lt_of_cell? wr _ d0)).trans d0
        clear hy d0
        have q3:IntKind.i64.wrap (j:Int)=(j:Int):=IntWalk.i64_in _ (by omega)
        have q4:(0:Int) < (j:Int)+1:=by omega
        have q5:(j:Int) < (n:Int):=by omega
        refine tW 11 9 ?_
        refine tH 20 0 ?_
        clear p0
        cases hl:lessB y into with
        | false=>
          have hq:Op.bytesLess y.toList into.toList=false:=hl
          refine tW 21 1 ?_
          obtain rfl:V=false:=HRy.out hl
          clear HT HR0 HB1
          refine zq [(22,some 34,.bool true),(23,some 35,.bool true),(24,some 36,.bool true),(25,some 37,undef),(26,some 38,undef),(27,some 39,undef),(28,some 40,undef),(29,some 41,.bool true),(30,some 42,.bool true),(31,some 43,undef),(32,some 44,undef),(33,some 45,undef),(34,some 46,undef),(35,some 47,.bool true),(36,some 48,.bool true),(37,some 49,undef),(38,some 50,undef),(39,some 51,undef),(40,some 52,undef),(41,some 53,.bool true),(42,some 54,.bool true),(43,some 55,undef),(44,some 56,undef),(45,some 57,undef),(46,some 58,undef),(47,some 59,.bool true)] rfl (fun _ _ _ _ _ h=>h) (by kernel_rfl) (by assumption) ?_;(try simp only [zg,zf,Act.put,lyA,lyB,lyC])
          refine dnX ?_
          clear hHeld
          go_wp2_with fail
          go_ret
          exact⟨rfl,e1.trans HH3.out.ext⟩
        | true=>
          have hq:Op.bytesLess y.toList into.toList=true:=hl
          have HR:=hiD (HRz.out hl)
          clear HRy HRz
          refine tW 21 5 ?_
          refine tG 26 rfl (fun wT hST=>zj hST ze (by kernel_rfl) rfl rfl 0 rfl (Nat.le_of_ble_eq_true rfl)) hHeld ?_;refine lyX ?_
          clear hHeld
          refine oS 27 (fun K hK=>?_)
          go_simp
          refine cX HH3 (HBe.out _ (e1.trans HH3.out.ext)) ?_
          clear HH3
          intro w8 HH8
          go_wp2_with fail
          refine hK.out _ _ HH8.out (fun hHeld=>?_);clear hK K;refine lyX ?_
          cases bg with
          | false=>
            obtain rfl:V=false:=HB1.out (by rw [HX.out];simp)
            clear HT HR0 HB1
            refine zq [(28,some 40,.bool true),(29,some 41,.bool true),(30,some 42,.bool true),(31,some 43,undef),(32,some 44,undef),(33,some 45,undef),(34,some 46,undef),(35,some 47,.bool true),(36,some 48,.bool true),(37,some 49,undef),(38,some 50,undef),(39,some 51,undef),(40,some 52,undef),(41,some 53,.bool true),(42,some 54,.bool true),(43,some 55,undef),(44,some 56,undef),(45,some 57,undef),(46,some 58,undef),(47,some 59,.bool true)] rfl (fun _ _ _ _ _ h=>h) (by kernel_rfl) (by assumption) ?_;(try simp only [zg,zf,Act.put,lyA,lyB,lyC])
            refine dnX ?_
            clear hHeld
            go_wp2_with fail
            go_ret
            exact⟨rfl,e1.trans HH8.out.ext⟩
          | true=>
            refine tW 28 4 ?_
            refine tH 32 0 ?_
            clear hHeld
            refine oS 33 (fun K hK=>?_)
            go_simp
            refine cX HH8 (HBk.out _ (e1.trans HH8.out.ext)) ?_
            clear HH8
            intro w9 HH9
            go_wp2_with fail
            refine hK.out _ _ HH9.out (fun hHeld=>?_);clear hK K;refine lyX ?_
            by_cases hE34:bk=0
            ·subst hE34
             refine tW 34 4 ?_
             refine tH 38 0 ?_
             clear hHeld
             refine oS 39 (fun K hK=>?_)
             go_simp
             refine cX HH9 (HA1.out _) ?_
             clear HH9
             intro w10 HH10
             go_wp2_with fail
             refine hK.out _ _ HH10.out (fun hHeld=>?_);clear hK K;refine lyX ?_
             cases a1 with
             | false=>
               obtain rfl:V=false:=HB1.out (by rw [HX.out];simp)
               clear HT HR0 HB1
               refine zq [(40,some 52,.bool true),(41,some 53,.bool true),(42,some 54,.bool true),(43,some 55,undef),(44,some 56,undef),(45,some 57,undef),(46,some 58,undef),(47,some 59,.bool true)] rfl (fun _ _ _ _ _ h=>h) (by kernel_rfl) (by assumption) ?_;(try simp only [zg,zf,Act.put,lyA,lyB,lyC])
               refine dnX ?_
               clear hHeld
               go_wp2_with fail
               go_ret
               exact⟨rfl,e1.trans HH10.out.ext⟩
             | true=>
               refine tW 40 4 ?_
               refine tH 44 0 ?_
               clear hHeld
               refine oS 45 (fun K hK=>?_)
               go_simp
               refine cX HH10 (HA2.out _) ?_
               clear HH10
               intro w11 HH11
               go_wp2_with fail
               refine hK.out _ _ HH11.out (fun hHeld=>?_);clear hK K;refine lyX ?_
               cases a2 with
               | false=>
                 obtain rfl:V=false:=HB1.out (by rw [HX.out];simp)
                 clear HT HR0 HB1
                 refine zq [(46,some 58,.bool true),(47,some 59,.bool true)] rfl (fun _ _ _ _ _ h=>h) (by kernel_rfl) (by assumption) ?_;(try simp only [zg,zf,Act.put,lyA,lyB,lyC])
                 refine dnX ?_
                 clear hHeld
                 go_wp2_with fail
                 go_ret
                 exact⟨rfl,e1.trans HH11.out.ext⟩
               | true=>
                 have HK2:=hiD (HT.out (by rw [HX.out];rfl) HR.out)
                 clear HT HR0 HB1 HR
                 refine zq [(46,some 58,.bool false),(47,some 59,.bool false)] rfl (fun _ _ _ _ _ h=>h) (by kernel_rfl) (by assumption) ?_;(try simp only [zg,zf,Act.put,lyA,lyB,lyC])
                 refine dnX ?_
                 clear hHeld
                 go_wp2_with fail
                 go_roundw
                 case rel=>(first | exact⟨_,by omega,by go_num,HK2,e1.trans HH11.out.ext⟩ | exact⟨1,by omega,rfl,HK2,e1.trans HH11.out.ext⟩)
                 case measure=>(first | (simp [intOf];done) | (simp [intOf];omega))
            ·have q34:(bk == 0)=false:=by rw [beq_eq_false_iff_ne];exact hE34
             have q34b:(bk != 0)=true:=by rw [bne_iff_ne];exact hE34
             have q34c:decide (bk=0)=false:=decide_eq_false hE34
             refine tW 34 1 ?_
             obtain rfl:V=false:=HB1.out (by rw [HX.out,q34c];simp)
             clear HT HR0 HB1
             refine zq [(35,some 47,.bool true),(36,some 48,.bool true),(37,some 49,undef),(38,some 50,undef),(39,some 51,undef),(40,some 52,undef),(41,some 53,.bool true),(42,some 54,.bool true),(43,some 55,undef),(44,some 56,undef),(45,some 57,undef),(46,some 58,undef),(47,some 59,.bool true)] rfl (fun _ _ _ _ _ h=>h) (by kernel_rfl) (by assumption) ?_;(try simp only [zg,zf,Act.put,lyA,lyB,lyC])
             refine dnX ?_
             clear hHeld
             go_wp2_with fail
             go_ret
             exact⟨rfl,e1.trans HH9.out.ext⟩
  ·obtain rfl:k=n:=by omega
   have HV:V=decide ((k:Int)≤4):=by
    have q:=HY.out (fun j h=>HK.out.1 j h (by rw [Hn.out];exact h)) (fun j h=>HK.out.2 j h (by rw [Hn.out];exact h))
    rw [←Hn.out]at q
    rw [q,decide_eq_decide];omega
   clear HY H1 H2 HK
   go_wp2_with fail
   go_ret
   exact⟨by rw [HV];rfl,e1⟩
end Go.Proofs.YtckaneapjpiocaaGreatDoor
