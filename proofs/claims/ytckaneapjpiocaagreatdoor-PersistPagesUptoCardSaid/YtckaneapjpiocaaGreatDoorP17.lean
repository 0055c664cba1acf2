/- The texts Tr5 in one file. -/
import Derived.Test.YtckaneapjpiocaaGreatDoorP14
import Derived.Test.YtckaneapjpiocaaGreatDoorP15
import Derived.Test.YtckaneapjpiocaaGreatDoorP16
set_option linter.unusedVariables false
set_option linter.unusedSimpArgs false
set_option maxHeartbeats 8000000
set_option maxRecDepth 100000
namespace Go.Proofs.YtckaneapjpiocaaGreatDoor
open Go.RowKit Go.Maps Go.Sort Go.Shelf
theorem afd(l:List Stg)(k:Nat)(h:k < l.length)(hp:stB l[k]=false):xo l=false:=by
 rw [xo,xt stB l k h hp];simp
theorem adm(l:List Stg)(j:Nat)(h:j+1 < l.length)(hp:zd l[j].into l[j+1].into=false):xo l=false:=by
 have:xp (l.map Stg.into)=false:=aaw _ j (by simpa using h) (by simpa using hp)
 rw [xo,this];simp
theorem adn(l:List Stg)(h1: ∀k (h:k < l.length),stB l[k]=true)(h2: ∀j (h:j+1 < l.length),zd l[j].into l[j+1].into=true):xo l=decide (l.length≤4):=by
 have a:l.all stB=true:=List.all_eq_true.2 fun x hx=>by
  obtain⟨k,hk,rfl⟩:=List.getElem_of_mem hx
  exact h1 k hk
 have b:xp (l.map Stg.into)=true:=qX _ fun k h=>by
  have:=h2 k (by simpa using h)
  simpa using this
 rw [xo,a,b];simp
theorem adD(w:World)(s:Sl Stg)(hM:yJ w)(h:Sl.At w 0 w.heap.size Stg.cells (Stg.At w 0 w.heap.size) s):
 Calls Tryz.prog 83 #[s.val] w fun e w'=>e= .returned (.bool (xo s.xs))∧Ext w w':=by
 have HA:=Lib.hid h
 have HMx:=Lib.hid hM
 obtain⟨A,n,c,xs⟩:=s
 have Hn:=Lib.hid (show n=xs.length from h.len)
 have hm:n≤9223372036854775807:=Nat.le_trans (Nat.le_trans h.le h.cap) (by decide)
 have H1:=Lib.hid (afd xs)
 have H2:=Lib.hid (adm xs)
 have HY:=Lib.hid (adn xs)
 dsimp only
 generalize xo xs=V at *
 clear h hM
 simp only [Sl.val]
 go_enter Tryz.func83,Tryz.ntmps83
 go_wp2_with fail
 go_loopw [3,4,7] (fun _ _ v wr=> ∃k:Nat,k≤n∧v= .int .i64 (k:Int)∧Hid ((∀j (h:j < xs.length),j < k→stB xs[j]=true)∧ ∀j (h:j+1 < xs.length),j+1 < k→zd xs[j].into xs[j+1].into=true)∧Ext w wr) (fun _ _ v _=>n - (intOf v).toNat)
 case atStart=>exact⟨0,Nat.zero_le _,rfl,Lib.hid ⟨fun j h hj=>absurd hj (Nat.not_lt_zero _),fun j h hj=>absurd hj (Nat.not_lt_zero _)⟩,Ext.refl _⟩
 case round=>
  obtain⟨k,hk,rfl,HK,e1⟩:=hrel
  by_cases hlt:k < n
  ·have l1:k < xs.length:=by rw [←Hn.out];exact hlt
   obtain⟨b1,o1,hA1,_,hb1,G⟩:=zk (size:=21) (fun _=>rfl) (by omega) (HA.out.rd.ext e1 (Nat.le_refl _)) l1
   dsimp only at hA1
   subst hA1
   have HSm:=Lib.hid (HA.out.all _ (List.getElem_mem l1))
   have HB1:=Lib.hid (fun hp=>H1.out k l1 hp)
   have HR0:=Lib.hid (fun(j:Nat) (hj:k=j+1) (hp:zd (xs[j]'(by omega)).into xs[k].into=false)=>show V=false by subst hj;exact H2.out j l1 hp)
   have HT:=Lib.hid (fun(h1:stB xs[k]=true) (h2: ∀j (hj:k=j+1),zd (xs[j]'(by omega)).into xs[k].into=true)=>show(∀j (h:j < xs.length),j < k+1→stB xs[j]=true)∧ ∀j (h:j+1 < xs.length),j+1 < k+1→zd xs[j].into xs[j+1].into=true from
    ⟨fun j h hj=>by
      rcases Nat.lt_or_ge j k with h3 | h3
      ·exact HK.out.1 j h h3
      ·obtain rfl:j=k:=by omega
       exact h1,fun j h hj=>by
      rcases Nat.lt_or_ge (j+1) k with h3 | h3
      ·exact HK.out.2 j h h3
      ·obtain rfl:k=j+1:=by omega
       exact h2 j rfl⟩)
   have HPv:=Lib.hid (fun(j:Nat) (hj:k=j+1)=>show∃y:ByteArray,(xs[j]'(by omega)).into=y∧wr.cell? ⟨b1,o1+j * 21,none⟩=some (.string y)by
    obtain⟨b2,o2,hh,_,_,G2⟩:=zk (size:=21) (fun _=>rfl) (by omega) (HA.out.rd.ext e1 (Nat.le_refl _)) (k:=j) (show j < xs.length by omega)
    obtain⟨rfl,rfl⟩:b1=b2∧o1=o2:=by simpa using hh
    exact⟨_,rfl,G2 0 _ rfl⟩)
   have HBe:=Lib.hid (fun W (hW:Ext w W)=>acW W xs[k].beg (Rd.at HSm.out.begR hW (Nat.le_refl _)) HSm.out.beg)
   have HBk:=Lib.hid (fun W (hW:Ext w W)=>qO W xs[k].bA xs[k].bn xs[k].bc xs[k].body HSm.out.bodyN (Nat.le_trans HSm.out.bodyM (by decide)) (Rd.at HSm.out.bodyR hW (Nat.le_refl _)) HSm.out.bodyW)
   have HPa:=Lib.hid (fun W (hW:Ext w W)=>xW xs[k].into W (HMx.out.ext hW) (Nat.lt_of_le_of_lt HSm.out.into (by decide)))
   have HA1:=Lib.hid (fun W=>yE W xs[k].pos 0 (zr HSm.out.pos).1 (zr HSm.out.pos).2)
   have HA2:=Lib.hid (fun W=>yE W xs[k].next 0 (zr HSm.out.next).1 (zr HSm.out.next).2)
   have HX:=Lib.hid (show stB xs[k]=(!xs[k].into.toList.isEmpty && (zv xs[k].into && (qd xs[k].beg && (decide (bkE xs[k].body=0) && (zy xs[k].pos 0 && zy xs[k].next 0)))))by
    rw [stB,adf]
    simp only [Bool.and_assoc];rfl)
   have HG:=Lib.hid G
   clear HSm G
   generalize xs[k]=x at *
   obtain⟨into,⟨rk,rn,rf,rg,rA,rm,rc,rw_,ri,ro,rd,r0,r1,r2,r3⟩,bA,bn,bc,bd,po,nx,⟨u0,u1,u2,u3⟩,dn⟩:=x
   dsimp only at HB1 HR0 HT HBe HBk HPa HA1 HA2 HX
   generalize stB _=sb at *
   generalize qd _=bg at *
   generalize bkE bd=bk at *
   generalize zv into=pb at *
   generalize zy po 0=a1 at *
   generalize zy nx 0=a2 at *
   obtain⟨ne,hne⟩: ∃b,into.toList.isEmpty=b:=⟨_,rfl⟩
   rw [hne]at HX
   have hkn:(k:Int) < (n:Int):=by omega
   simp only [Rec.cells]at HBe
   have HGc:=Lib.hid (show∀j u,([.string into,.int .i64 rk,.string rn,.int .i64 rf,.int .i64 rg,.slice rA rm rc,.int .i64 ri,.int .i64 ro,.string rd,.int .u64 r0,.int .u64 r1,.int .u64 r2,.int .u64 r3,.slice bA bn bc,.int .i64 po,.int .i64 nx,.int .u64 u0,.int .u64 u1,.int .u64 u2,.int .u64 u3,.bool dn]:List Value)[j]?=some u→wr.cell? ⟨b1,o1+k * 21+j,none⟩=some u from HG.out)
   clear HG
   have HH:=Lib.hid (Heap.start wr)
   go_upto_region 4 with(first | (refine zV HGc.out rfl x6 (by kernel_rfl) rfl rfl rfl ?_) | (refine zt (HH.out.alloc _ _) x6 rfl rfl rfl rfl 0 rfl rfl rfl rfl ?_;clear HH;intro wS HHS;have HH:=Lib.hid HHS;clear HHS))
   obtain⟨xb,hxb⟩: ∃b,b=wr.heap.size:=⟨_,rfl⟩
   rw [←hxb]at HH ⊢
   clear hxb HGc
   have HHd:=Lib.hid (show Heap wr [.box xb [.string into,.int .i64 rk,.string rn,.int .i64 rf,.int .i64 rg,.slice rA rm rc,.int .i64 ri,.int .i64 ro,.string rd,.int .u64 r0,.int .u64 r1,.int .u64 r2,.int .u64 r3,.slice bA bn bc,.int .i64 po,.int .i64 nx,.int .u64 u0,.int .u64 u1,.int .u64 u2,.int .u64 u3,.bool dn]] (World.drew wS)from HH.out.drew)
   clear HH
   refine wp_region_held_drew (S:=Heap wr [.box xb [.string into,.int .i64 rk,.string rn,.int .i64 rf,.int .i64 rg,.slice rA rm rc,.int .i64 ri,.int .i64 ro,.string rd,.int .u64 r0,.int .u64 r1,.int .u64 r2,.int .u64 r3,.slice bA bn bc,.int .i64 po,.int .i64 nx,.int .u64 u0,.int .u64 u1,.int .u64 u2,.int .u64 u3,.bool dn]]) (by kernel_rfl) HHd.out (fun hHeld=>?_)
   generalize World.drew _=wd at *
   refine tW 0 1 ?_
   refine tG 1 rfl (fun wT hST=>za hST rfl rfl 0 rfl rfl (by kernel_rfl)) hHeld ?_;(try simp only [Act.put,lyA,lyB,lyC])
   cases ne with
   | true=>
     refine tW 2 1 ?_
     obtain rfl:V=false:=HB1.out (by rw [HX.out];rfl)
     clear HT HR0 HB1
     refine zj [(3,some 15,.bool true),(4,some 16,undef),(5,some 17,undef),(6,some 18,undef),(7,some 19,undef),(8,some 20,.bool true),(9,some 21,.bool true),(10,some 22,undef),(11,some 23,undef),(12,some 24,undef),(13,some 25,undef),(14,some 26,undef),(15,some 27,undef),(16,some 28,undef),(17,some 29,undef),(18,some 30,undef),(19,some 31,undef),(20,some 32,undef),(21,some 33,undef),(22,some 34,undef),(23,some 35,.bool true),(24,some 36,.bool true),(25,some 37,undef),(26,some 38,undef),(27,some 39,undef),(28,some 40,undef),(29,some 41,.bool true),(30,some 42,.bool true),(31,some 43,undef),(32,some 44,undef),(33,some 45,undef),(34,some 46,undef),(35,some 47,.bool true),(36,some 48,.bool true),(37,some 49,undef),(38,some 50,undef),(39,some 51,undef),(40,some 52,undef),(41,some 53,.bool true),(42,some 54,.bool true),(43,some 55,undef),(44,some 56,undef),(45,some 57,undef),(46,some 58,undef),(47,some 59,.bool true)] rfl (fun _ _ _ _ _ h=>h) (by kernel_rfl) (by assumption) ?_;(try simp only [zf,zg,Act.put,lyA,lyB,lyC])
     refine wpAnyH_done (by kernel_rfl) ?_ _
     clear hHeld
     go_wp2_with fail
     go_ret
     exact⟨rfl,e1.trans HHd.out.ext⟩
   | false=>
     refine tW 2 3 ?_
     refine tG 5 rfl (fun wT hST=>za hST rfl rfl 0 rfl rfl (by kernel_rfl)) hHeld ?_;(try simp only [Act.put,lyA,lyB,lyC])
     clear hHeld
     refine oS 6 (fun K hK=>?_)
     go_simp
     refine(HPa.out _ (e1.trans HHd.out.ext)).mono ?_
     rintro e w3 ⟨rfl,e3⟩
     have HH3:=Lib.hid (HHd.out.later e3)
     clear HHd e3
     go_wp2_with fail
     refine hK.out _ _ HH3.out (fun hHeld=>?_);clear hK K;(try simp only [Act.put,lyA,lyB,lyC])
     cases pb with
     | false=>
       obtain rfl:V=false:=HB1.out (by rw [HX.out];rfl)
       clear HT HR0 HB1
       refine zj [(7,some 19,.bool true),(8,some 20,.bool true),(9,some 21,.bool true),(10,some 22,undef),(11,some 23,undef),(12,some 24,undef),(13,some 25,undef),(14,some 26,undef),(15,some 27,undef),(16,some 28,undef),(17,some 29,undef),(18,some 30,undef),(19,some 31,undef),(20,some 32,undef),(21,some 33,undef),(22,some 34,undef),(23,some 35,.bool true),(24,some 36,.bool true),(25,some 37,undef),(26,some 38,undef),(27,some 39,undef),(28,some 40,undef),(29,some 41,.bool true),(30,some 42,.bool true),(31,some 43,undef),(32,some 44,undef),(33,some 45,undef),(34,some 46,undef),(35,some 47,.bool true),(36,some 48,.bool true),(37,some 49,undef),(38,some 50,undef),(39,some 51,undef),(40,some 52,undef),(41,some 53,.bool true),(42,some 54,.bool true),(43,some 55,undef),(44,some 56,undef),(45,some 57,undef),(46,some 58,undef),(47,some 59,.bool true)] rfl (fun _ _ _ _ _ h=>h) (by kernel_rfl) (by assumption) ?_;(try simp only [zf,zg,Act.put,lyA,lyB,lyC])
       refine wpAnyH_done (by kernel_rfl) ?_ _
       clear hHeld
       go_wp2_with fail
       go_ret
       exact⟨rfl,e1.trans HH3.out.ext⟩
     | true=>
       refine tW 7 4 ?_
       by_cases hk0:k=0
       ·subst hk0
        have HR:=Lib.hid (show∀j (hj:0=j+1),zd (xs[j]'(by omega)).into into=true from fun j hj=>by omega)
        refine tW 11 2 ?_
        refine sW 13 9 ?_
        refine tW 22 4 ?_
        refine tG 26 rfl (fun wT hST=>z6 hST yG (by kernel_rfl) rfl rfl 0 rfl (Nat.le_of_ble_eq_true rfl)) hHeld ?_;(try simp only [Act.put,lyA,lyB,lyC])
        clear hHeld
        refine oS 27 (fun K hK=>?_)
        go_simp
        refine(HBe.out _ (e1.trans HH3.out.ext)).mono ?_
        rintro e w4 ⟨rfl,e4⟩
        have HH4:=Lib.hid (HH3.out.later e4)
        clear HH3 e4
        go_wp2_with fail
        refine hK.out _ _ HH4.out (fun hHeld=>?_);clear hK K;(try simp only [Act.put,lyA,lyB,lyC])
        cases bg with
        | false=>
          obtain rfl:V=false:=HB1.out (by rw [HX.out];simp)
          clear HT HR0 HB1
          refine zj [(28,some 40,.bool true),(29,some 41,.bool true),(30,some 42,.bool true),(31,some 43,undef),(32,some 44,undef),(33,some 45,undef),(34,some 46,undef),(35,some 47,.bool true),(36,some 48,.bool true),(37,some 49,undef),(38,some 50,undef),(39,some 51,undef),(40,some 52,undef),(41,some 53,.bool true),(42,some 54,.bool true),(43,some 55,undef),(44,some 56,undef),(45,some 57,undef),(46,some 58,undef),(47,some 59,.bool true)] rfl (fun _ _ _ _ _ h=>h) (by kernel_rfl) (by assumption) ?_;(try simp only [zf,zg,Act.put,lyA,lyB,lyC])
          refine wpAnyH_done (by kernel_rfl) ?_ _
          clear hHeld
          go_wp2_with fail
          go_ret
          exact⟨rfl,e1.trans HH4.out.ext⟩
        | true=>
          refine tW 28 4 ?_
          refine tG 32 rfl (fun wT hST=>za hST rfl rfl 0 rfl rfl (by kernel_rfl)) hHeld ?_;(try simp only [Act.put,lyA,lyB,lyC])
          clear hHeld
          refine oS 33 (fun K hK=>?_)
          go_simp
          refine(HBk.out _ (e1.trans HH4.out.ext)).mono ?_
          rintro e w5 ⟨rfl,e5⟩
          have HH5:=Lib.hid (HH4.out.later e5)
          clear HH4 e5
          go_wp2_with fail
          refine hK.out _ _ HH5.out (fun hHeld=>?_);clear hK K;(try simp only [Act.put,lyA,lyB,lyC])
          by_cases hE34:bk=0
          ·subst hE34
           refine tW 34 4 ?_
           refine tG 38 rfl (fun wT hST=>za hST rfl rfl 0 rfl rfl (by kernel_rfl)) hHeld ?_;(try simp only [Act.put,lyA,lyB,lyC])
           clear hHeld
           refine oS 39 (fun K hK=>?_)
           go_simp
           refine(HA1.out _).mono ?_
           rintro e w6 ⟨rfl,e6⟩
           have HH6:=Lib.hid (HH5.out.later e6)
           clear HH5 e6
           go_wp2_with fail
           refine hK.out _ _ HH6.out (fun hHeld=>?_);clear hK K;(try simp only [Act.put,lyA,lyB,lyC])
           cases a1 with
           | false=>
             obtain rfl:V=false:=HB1.out (by rw [HX.out];simp)
             clear HT HR0 HB1
             refine zj [(40,some 52,.bool true),(41,some 53,.bool true),(42,some 54,.bool true),(43,some 55,undef),(44,some 56,undef),(45,some 57,undef),(46,some 58,undef),(47,some 59,.bool true)] rfl (fun _ _ _ _ _ h=>h) (by kernel_rfl) (by assumption) ?_;(try simp only [zf,zg,Act.put,lyA,lyB,lyC])
             refine wpAnyH_done (by kernel_rfl) ?_ _
             clear hHeld
             go_wp2_with fail
             go_ret
             exact⟨rfl,e1.trans HH6.out.ext⟩
           | true=>
             refine tW 40 4 ?_
             refine tG 44 rfl (fun wT hST=>za hST rfl rfl 0 rfl rfl (by kernel_rfl)) hHeld ?_;(try simp only [Act.put,lyA,lyB,lyC])
             clear hHeld
             refine oS 45 (fun K hK=>?_)
             go_simp
             refine(HA2.out _).mono ?_
             rintro e w7 ⟨rfl,e7⟩
             have HH7:=Lib.hid (HH6.out.later e7)
             clear HH6 e7
             go_wp2_with fail
             refine hK.out _ _ HH7.out (fun hHeld=>?_);clear hK K;(try simp only [Act.put,lyA,lyB,lyC])
             cases a2 with
             | false=>
               obtain rfl:V=false:=HB1.out (by rw [HX.out];simp)
               clear HT HR0 HB1
               refine zj [(46,some 58,.bool true),(47,some 59,.bool true)] rfl (fun _ _ _ _ _ h=>h) (by kernel_rfl) (by assumption) ?_;(try simp only [zf,zg,Act.put,lyA,lyB,lyC])
               refine wpAnyH_done (by kernel_rfl) ?_ _
               clear hHeld
               go_wp2_with fail
               go_ret
               exact⟨rfl,e1.trans HH7.out.ext⟩
             | true=>
               have HK2:=Lib.hid (HT.out (by rw [HX.out];rfl) HR.out)
               clear HT HR0 HB1 HR
               refine zj [(46,some 58,.bool false),(47,some 59,.bool false)] rfl (fun _ _ _ _ _ h=>h) (by kernel_rfl) (by assumption) ?_;(try simp only [zf,zg,Act.put,lyA,lyB,lyC])
               refine wpAnyH_done (by kernel_rfl) ?_ _
               clear hHeld
               go_wp2_with fail
               go_roundw
               case rel=>(first | exact⟨_,by omega,by go_num,HK2,e1.trans HH7.out.ext⟩ | exact⟨1,by omega,rfl,HK2,e1.trans HH7.out.ext⟩)
               case measure=>(first | (simp [intOf];done) | (simp [intOf];omega))
          ·have q34:(bk == 0)=false:=by rw [beq_eq_false_iff_ne];exact hE34
           have q34b:(bk != 0)=true:=by rw [bne_iff_ne];exact hE34
           have q34c:decide (bk=0)=false:=decide_eq_false hE34
           refine tW 34 1 ?_
           obtain rfl:V=false:=HB1.out (by rw [HX.out,q34c];simp)
           clear HT HR0 HB1
           refine zj [(35,some 47,.bool true),(36,some 48,.bool true),(37,some 49,undef),(38,some 50,undef),(39,some 51,undef),(40,some 52,undef),(41,some 53,.bool true),(42,some 54,.bool true),(43,some 55,undef),(44,some 56,undef),(45,some 57,undef),(46,some 58,undef),(47,some 59,.bool true)] rfl (fun _ _ _ _ _ h=>h) (by kernel_rfl) (by assumption) ?_;(try simp only [zf,zg,Act.put,lyA,lyB,lyC])
           refine wpAnyH_done (by kernel_rfl) ?_ _
           clear hHeld
           go_wp2_with fail
           go_ret
           exact⟨rfl,e1.trans HH5.out.ext⟩
       ·obtain⟨j,rfl⟩: ∃j,k=j+1:=⟨k - 1,by omega⟩
        obtain⟨y,hy,d0⟩:=HPv.out j rfl
        have HRy:=Lib.hid (fun hp=>HR0.out j rfl (by rw [hy];exact hp))
        have HRz:=Lib.hid (fun(hp:zd y into=true) (i:Nat) (hi:j+1=i+1)=>show zd (xs[i]'(by omega)).into into=true from by obtain rfl:i=j:=(by omega);rw [hy];exact hp)
        have p0: ∀W,Heap wr [.box xb [.string into,.int .i64 rk,.string rn,.int .i64 rf,.int .i64 rg,.slice rA rm rc,.int .i64 ri,.int .i64 ro,.string rd,.int .u64 r0,.int .u64 r1,.int .u64 r2,.int .u64 r3,.slice bA bn bc,.int .i64 po,.int .i64 nx,.int .u64 u0,.int .u64 u1,.int .u64 u2,.int .u64 u3,.bool dn]] W→W.cell? ⟨b1,o1+j * 21,none⟩=some (.string y):=fun W hW=>(Below.cell hW.ext (World.block_lt_of_cell? wr _ d0)).trans d0
        clear hy d0
        have q3:IntKind.i64.wrap (j:Int)=(j:Int):=IntWalk.i64_in _ (by omega)
        have q4:(0:Int) < (j:Int)+1:=by omega
        have q5:(j:Int) < (n:Int):=by omega
        refine tW 11 9 ?_
        refine tG 20 rfl (fun wT hST=>za hST rfl rfl 0 rfl rfl (by kernel_rfl)) hHeld ?_;(try simp only [Act.put,lyA,lyB,lyC])
        clear p0
        cases hl:zd y into with
        | false=>
          have hq:Op.bytesLess y.toList into.toList=false:=hl
          refine tW 21 1 ?_
          obtain rfl:V=false:=HRy.out hl
          clear HT HR0 HB1
          refine zj [(22,some 34,.bool true),(23,some 35,.bool true),(24,some 36,.bool true),(25,some 37,undef),(26,some 38,undef),(27,some 39,undef),(28,some 40,undef),(29,some 41,.bool true),(30,some 42,.bool true),(31,some 43,undef),(32,some 44,undef),(33,some 45,undef),(34,some 46,undef),(35,some 47,.bool true),(36,some 48,.bool true),(37,some 49,undef),(38,some 50,undef),(39,some 51,undef),(40,some 52,undef),(41,some 53,.bool true),(42,some 54,.bool true),(43,some 55,undef),(44,some 56,undef),(45,some 57,undef),(46,some 58,undef),(47,some 59,.bool true)] rfl (fun _ _ _ _ _ h=>h) (by kernel_rfl) (by assumption) ?_;(try simp only [zf,zg,Act.put,lyA,lyB,lyC])
          refine wpAnyH_done (by kernel_rfl) ?_ _
          clear hHeld
          go_wp2_with fail
          go_ret
          exact⟨rfl,e1.trans HH3.out.ext⟩
        | true=>
          have hq:Op.bytesLess y.toList into.toList=true:=hl
          have HR:=Lib.hid (HRz.out hl)
          clear HRy HRz
          refine tW 21 5 ?_
          refine tG 26 rfl (fun wT hST=>z6 hST yG (by kernel_rfl) rfl rfl 0 rfl (Nat.le_of_ble_eq_true rfl)) hHeld ?_;(try simp only [Act.put,lyA,lyB,lyC])
          clear hHeld
          refine oS 27 (fun K hK=>?_)
          go_simp
          refine(HBe.out _ (e1.trans HH3.out.ext)).mono ?_
          rintro e w8 ⟨rfl,e8⟩
          have HH8:=Lib.hid (HH3.out.later e8)
          clear HH3 e8
          go_wp2_with fail
          refine hK.out _ _ HH8.out (fun hHeld=>?_);clear hK K;(try simp only [Act.put,lyA,lyB,lyC])
          cases bg with
          | false=>
            obtain rfl:V=false:=HB1.out (by rw [HX.out];simp)
            clear HT HR0 HB1
            refine zj [(28,some 40,.bool true),(29,some 41,.bool true),(30,some 42,.bool true),(31,some 43,undef),(32,some 44,undef),(33,some 45,undef),(34,some 46,undef),(35,some 47,.bool true),(36,some 48,.bool true),(37,some 49,undef),(38,some 50,undef),(39,some 51,undef),(40,some 52,undef),(41,some 53,.bool true),(42,some 54,.bool true),(43,some 55,undef),(44,some 56,undef),(45,some 57,undef),(46,some 58,undef),(47,some 59,.bool true)] rfl (fun _ _ _ _ _ h=>h) (by kernel_rfl) (by assumption) ?_;(try simp only [zf,zg,Act.put,lyA,lyB,lyC])
            refine wpAnyH_done (by kernel_rfl) ?_ _
            clear hHeld
            go_wp2_with fail
            go_ret
            exact⟨rfl,e1.trans HH8.out.ext⟩
          | true=>
            refine tW 28 4 ?_
            refine tG 32 rfl (fun wT hST=>za hST rfl rfl 0 rfl rfl (by kernel_rfl)) hHeld ?_;(try simp only [Act.put,lyA,lyB,lyC])
            clear hHeld
            refine oS 33 (fun K hK=>?_)
            go_simp
            refine(HBk.out _ (e1.trans HH8.out.ext)).mono ?_
            rintro e w9 ⟨rfl,e9⟩
            have HH9:=Lib.hid (HH8.out.later e9)
            clear HH8 e9
            go_wp2_with fail
            refine hK.out _ _ HH9.out (fun hHeld=>?_);clear hK K;(try simp only [Act.put,lyA,lyB,lyC])
            by_cases hE34:bk=0
            ·subst hE34
             refine tW 34 4 ?_
             refine tG 38 rfl (fun wT hST=>za hST rfl rfl 0 rfl rfl (by kernel_rfl)) hHeld ?_;(try simp only [Act.put,lyA,lyB,lyC])
             clear hHeld
             refine oS 39 (fun K hK=>?_)
             go_simp
             refine(HA1.out _).mono ?_
             rintro e w10 ⟨rfl,e10⟩
             have HH10:=Lib.hid (HH9.out.later e10)
             clear HH9 e10
             go_wp2_with fail
             refine hK.out _ _ HH10.out (fun hHeld=>?_);clear hK K;(try simp only [Act.put,lyA,lyB,lyC])
             cases a1 with
             | false=>
               obtain rfl:V=false:=HB1.out (by rw [HX.out];simp)
               clear HT HR0 HB1
               refine zj [(40,some 52,.bool true),(41,some 53,.bool true),(42,some 54,.bool true),(43,some 55,undef),(44,some 56,undef),(45,some 57,undef),(46,some 58,undef),(47,some 59,.bool true)] rfl (fun _ _ _ _ _ h=>h) (by kernel_rfl) (by assumption) ?_;(try simp only [zf,zg,Act.put,lyA,lyB,lyC])
               refine wpAnyH_done (by kernel_rfl) ?_ _
               clear hHeld
               go_wp2_with fail
               go_ret
               exact⟨rfl,e1.trans HH10.out.ext⟩
             | true=>
               refine tW 40 4 ?_
               refine tG 44 rfl (fun wT hST=>za hST rfl rfl 0 rfl rfl (by kernel_rfl)) hHeld ?_;(try simp only [Act.put,lyA,lyB,lyC])
               clear hHeld
               refine oS 45 (fun K hK=>?_)
               go_simp
               refine(HA2.out _).mono ?_
               rintro e w11 ⟨rfl,e11⟩
               have HH11:=Lib.hid (HH10.out.later e11)
               clear HH10 e11
               go_wp2_with fail
               refine hK.out _ _ HH11.out (fun hHeld=>?_);clear hK K;(try simp only [Act.put,lyA,lyB,lyC])
               cases a2 with
               | false=>
                 obtain rfl:V=false:=HB1.out (by rw [HX.out];simp)
                 clear HT HR0 HB1
                 refine zj [(46,some 58,.bool true),(47,some 59,.bool true)] rfl (fun _ _ _ _ _ h=>h) (by kernel_rfl) (by assumption) ?_;(try simp only [zf,zg,Act.put,lyA,lyB,lyC])
                 refine wpAnyH_done (by kernel_rfl) ?_ _
                 clear hHeld
                 go_wp2_with fail
                 go_ret
                 exact⟨rfl,e1.trans HH11.out.ext⟩
               | true=>
                 have HK2:=Lib.hid (HT.out (by rw [HX.out];rfl) HR.out)
                 clear HT HR0 HB1 HR
                 refine zj [(46,some 58,.bool false),(47,some 59,.bool false)] rfl (fun _ _ _ _ _ h=>h) (by kernel_rfl) (by assumption) ?_;(try simp only [zf,zg,Act.put,lyA,lyB,lyC])
                 refine wpAnyH_done (by kernel_rfl) ?_ _
                 clear hHeld
                 go_wp2_with fail
                 go_roundw
                 case rel=>(first | exact⟨_,by omega,by go_num,HK2,e1.trans HH11.out.ext⟩ | exact⟨1,by omega,rfl,HK2,e1.trans HH11.out.ext⟩)
                 case measure=>(first | (simp [intOf];done) | (simp [intOf];omega))
            ·have q34:(bk == 0)=false:=by rw [beq_eq_false_iff_ne];exact hE34
             have q34b:(bk != 0)=true:=by rw [bne_iff_ne];exact hE34
             have q34c:decide (bk=0)=false:=decide_eq_false hE34
             refine tW 34 1 ?_
             obtain rfl:V=false:=HB1.out (by rw [HX.out,q34c];simp)
             clear HT HR0 HB1
             refine zj [(35,some 47,.bool true),(36,some 48,.bool true),(37,some 49,undef),(38,some 50,undef),(39,some 51,undef),(40,some 52,undef),(41,some 53,.bool true),(42,some 54,.bool true),(43,some 55,undef),(44,some 56,undef),(45,some 57,undef),(46,some 58,undef),(47,some 59,.bool true)] rfl (fun _ _ _ _ _ h=>h) (by kernel_rfl) (by assumption) ?_;(try simp only [zf,zg,Act.put,lyA,lyB,lyC])
             refine wpAnyH_done (by kernel_rfl) ?_ _
             clear hHeld
             go_wp2_with fail
             go_ret
             exact⟨rfl,e1.trans HH9.out.ext⟩
  ·obtain rfl:k=n:=by omega
   have HV:V=decide ((k:Int)≤4):=by
    have q:=HY.out (fun j h=>HK.out.1 j h (by rw [Hn.out];exact h)) (fun j h=>HK.out.2 j h (by rw [Hn.out];exact h))
    rw [←Hn.out]at q
    rw [q,decide_eq_decide];omega
   clear HY H1 H2 HK
   go_wp2_with fail
   go_ret
   exact⟨by rw [HV];rfl,e1⟩
end Go.Proofs.YtckaneapjpiocaaGreatDoor
