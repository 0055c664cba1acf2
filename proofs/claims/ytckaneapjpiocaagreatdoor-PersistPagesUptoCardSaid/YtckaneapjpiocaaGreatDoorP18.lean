/- The texts Tr6 in one file. -/
import Derived.Test.YtckaneapjpiocaaGreatDoorP14
import Derived.Test.YtckaneapjpiocaaGreatDoorP16
set_option linter.unusedVariables false
set_option linter.unusedSimpArgs false
set_option maxHeartbeats 8000000
set_option maxRecDepth 100000
namespace Go.Proofs.YtckaneapjpiocaaGreatDoor
open Go.RowKit Go.Maps Go.Sort Go.Shelf
theorem aez(l:List Sna)(k:Nat)(h:k < l.length)(hp:snB l[k]=false):yO l=false:=by
 rw [yO,xt snB l k h hp];simp
theorem ade(l:List Sna)(j:Nat)(h:j+1 < l.length)(hp: ¬l[j].guid < l[j+1].guid):yO l=false:=by
 have:abo (l.map Sna.guid)=false:=ag1 _ j (by simpa using h) (by simpa using hp)
 rw [yO,this];simp
theorem adi(l:List Sna)(h1: ∀k (h:k < l.length),snB l[k]=true)(h2: ∀j (h:j+1 < l.length),l[j].guid < l[j+1].guid):yO l=(decide (l.length≤16) && yM (l.map Sna.name)):=by
 have a:l.all snB=true:=List.all_eq_true.2 fun x hx=>by
  obtain⟨k,hk,rfl⟩:=List.getElem_of_mem hx
  exact h1 k hk
 have b:abo (l.map Sna.guid)=true:=afM _ fun k h=>by
  have:=h2 k (by simpa using h)
  simpa using this
 rw [yO,a,b];simp
theorem aew(w:World)(s:Sl Sna)(h:Sl.At w 0 w.heap.size Sna.cells (Sna.At w 0 w.heap.size) s)(hN:s.n≤1048576):
 Calls Tryz.prog 140 #[s.val] w fun e w'=>e= .returned (.bool (yO s.xs))∧Ext w w':=by
 obtain⟨i0,hi0,hz0,hz1,hz2⟩:=info_parts acx
 have HA:=Lib.hid h
 obtain⟨A,n,c,xs⟩:=s
 have Hn:=Lib.hid (show n=xs.length from h.len)
 have hm:n≤1048576:=hN
 have H1:=Lib.hid (aez xs)
 have H2:=Lib.hid (ade xs)
 have HY:=Lib.hid (adi xs)
 have HUn:=Lib.hid (fun W A' c' (hr:Rd W 0 W.heap.size A' ((xs.map Sna.name).map Value.string)) h1 h2=>aby W A' n c' (xs.map Sna.name) (by rw [List.length_map];exact h.len) h1 h2 hr (fun s hs=>by obtain⟨x,hx,rfl⟩:=List.mem_map.1 hs;exact(h.all x hx).name))
 dsimp only
 generalize yO xs=V at *
 clear h hN
 simp only [Sl.val]
 go_enter Tryz.func140,Tryz.ntmps140
 go_upto_region 3 with fail
 have HH:=Lib.hid (show Heap w [.row 9 1 (.slice none 0 0) 0 []] w from(Heap.start w).row0)
 go_loopw [3,4,5,8] (fun va _ _ v wr=> ∃k:Nat,k≤n∧v= .int .i64 (k:Int)∧Hid ((∀j (h:j < xs.length),j < k→snB xs[j]=true)∧ ∀j (h:j+1 < xs.length),j+1 < k→xs[j].guid < xs[j+1].guid)∧(∃vA vc,va= .slice vA k vc∧Hid (Heap w [.row 9 1 (.slice vA k vc) k (((xs.map Sna.name).take k).map Value.string)] wr))) (fun _ _ _ v _=>n - (intOf v).toNat)
 case atStart=>exact⟨0,Nat.zero_le _,rfl,Lib.hid ⟨fun j h hj=>absurd hj (Nat.not_lt_zero _),fun j h hj=>absurd hj (Nat.not_lt_zero _)⟩,_,_,rfl,HH⟩
 case round=>
  clear HH
  obtain⟨k,hk,rfl,HK,vA,vc,rfl,HH⟩:=hrel
  by_cases hlt:k < n
  ·have l1:k < xs.length:=by rw [←Hn.out];exact hlt
   obtain⟨b1,o1,hA1,_,hb1,G⟩:=zk (size:=5) (fun _=>rfl) (by omega) HA.out.rd l1
   dsimp only at hA1
   subst hA1
   have HSm:=Lib.hid (HA.out.all _ (List.getElem_mem l1))
   have HB1:=Lib.hid (fun hp=>H1.out k l1 hp)
   have HR0:=Lib.hid (fun(j:Nat) (hj:k=j+1) (hp: ¬(xs[j]'(by omega)).guid < xs[k].guid)=>show V=false by subst hj;exact H2.out j l1 (by omega))
   have HT:=Lib.hid (fun(h1:snB xs[k]=true) (h2: ∀j (hj:k=j+1),(xs[j]'(by omega)).guid < xs[k].guid)=>show(∀j (h:j < xs.length),j < k+1→snB xs[j]=true)∧ ∀j (h:j+1 < xs.length),j+1 < k+1→xs[j].guid < xs[j+1].guid from
    ⟨fun j h hj=>by
      rcases Nat.lt_or_ge j k with h3 | h3
      ·exact HK.out.1 j h h3
      ·obtain rfl:j=k:=by omega
       exact h1,fun j h hj=>by
      rcases Nat.lt_or_ge (j+1) k with h3 | h3
      ·exact HK.out.2 j h h3
      ·obtain rfl:k=j+1:=by omega
       exact h2 j rfl⟩)
   have HPv:=Lib.hid (fun(j:Nat) (hj:k=j+1)=>show∃y:Int,(xs[j]'(by omega)).guid=y∧(Lit.int .i64 y).wf=true∧w.cell? ⟨b1,o1+j * 5+1,none⟩=some (.int .i64 y)by
    obtain⟨b2,o2,hh,_,_,G2⟩:=zk (size:=5) (fun _=>rfl) (by omega) HA.out.rd (k:=j) (show j < xs.length by omega)
    obtain⟨rfl,rfl⟩:b1=b2∧o1=o2:=by simpa using hh
    exact⟨_,rfl,(HA.out.all _ (List.getElem_mem (show j < xs.length by omega))).guid,G2 1 _ rfl⟩)
   have HBk:=Lib.hid (fun W (hW:Ext w W)=>qO W xs[k].body.A xs[k].body.n xs[k].body.c xs[k].body.xs HSm.out.body.len (Nat.le_trans HSm.out.bodyS (by decide)) (Rd.at HSm.out.body.rd hW (Nat.le_refl _)) HSm.out.body.all)
   have HPr:=Lib.hid (fun W (hW:Ext w W)=>qe W xs[k].own.A xs[k].own.n xs[k].own.c xs[k].own.xs HSm.out.own.len (Nat.le_trans HSm.out.ownS (by decide)) (Rd.at HSm.out.own.rd hW (Nat.le_refl _)) (fun x hx=>⟨Nat.le_trans (HSm.out.own.all x hx).1 (by decide),Nat.le_trans (HSm.out.own.all x hx).2 (by decide)⟩))
   have HTg:=Lib.hid (fun W (hW:Ext w W)=>adA W xs[k].tags (yD HSm.out.tags hW (Nat.le_refl _) fun _ h=>h))
   have HA1:=Lib.hid (fun W=>yE W xs[k].guid 1 (zr HSm.out.guid).1 (zr HSm.out.guid).2)
   have HX:=Lib.hid (show snB xs[k]=(zy xs[k].guid 1 && (decide (bkE xs[k].body.xs=0) && (decide (prE xs[k].own.xs=0) && xy xs[k].tags.xs)))from rfl)
   have HTk:=Lib.hid (show((xs.map Sna.name).take (k+1)).map Value.string=((xs.map Sna.name).take k).map Value.string++ [.string xs[k].name]by
    rw [List.take_succ_eq_append_getElem (by simpa using l1)];simp)
   have HGw:=Lib.hid (fun j u hu=>(Below.cell HH.out.ext hb1).trans (G j u hu))
   clear HSm G
   generalize xs[k]=x at *
   generalize ((xs.map Sna.name).take k).map Value.string=Y at *
   obtain⟨nm,gu,⟨bA,bn,bc,bd⟩,⟨tA,tn,tc,td⟩,⟨pA,pn,pc,pd⟩⟩:=x
   dsimp only at HB1 HR0 HT HBk HPr HTg HA1 HX HTk
   simp only [Sl.val]at HTg
   generalize snB _=sb at *
   generalize bkE bd=bk at *
   generalize prE pd=pe at *
   generalize xy td=tg at *
   generalize zy gu 1=a1 at *
   have hkn:(k:Int) < (n:Int):=by omega
   have HGc:=Lib.hid (show∀j u,([.string nm,.int .i64 gu,.slice bA bn bc,.slice tA tn tc,.slice pA pn pc]:List Value)[j]?=some u→wr.cell? ⟨b1,o1+k * 5+j,none⟩=some u from HGw.out)
   clear HGw
   go_upto_region 5 with(first | (refine zV HGc.out rfl x0 (by kernel_rfl) rfl rfl rfl ?_) | (refine zt (HH.out.alloc _ _) x0 rfl rfl rfl rfl 0 rfl rfl rfl rfl ?_;clear HH;intro wS HHS;have HH:=Lib.hid HHS;clear HHS))
   obtain⟨xb,hxb⟩: ∃b,b=wr.heap.size:=⟨_,rfl⟩
   rw [←hxb]at HH ⊢
   clear hxb HGc
   have HHd:=Lib.hid (show Heap w [.box xb [.string nm,.int .i64 gu,.slice bA bn bc,.slice tA tn tc,.slice pA pn pc],_] (World.drew wS)from HH.out.drew)
   clear HH
   refine wp_region_held_drew (S:=Heap w [.box xb [.string nm,.int .i64 gu,.slice bA bn bc,.slice tA tn tc,.slice pA pn pc]]) (by kernel_rfl) (HHd.out.only 0 rfl) (fun hHeld=>?_)
   generalize World.drew _=wd at *
   refine tW 0 1 ?_
   refine tG 1 rfl (fun wT hST=>za hST rfl rfl 0 rfl rfl (by kernel_rfl)) hHeld ?_;(try simp only [Act.put,lyA,lyB,lyC])
   clear hHeld
   refine oS 2 (fun K hK=>?_)
   go_simp
   refine(HA1.out _).mono ?_
   rintro e w3 ⟨rfl,e3⟩
   have HH3:=Lib.hid (HHd.out.later e3)
   clear HHd e3
   go_wp2_with fail
   refine hK.out _ _ ((HH3).out.only 0 rfl) (fun hHeld=>?_);clear hK K;(try simp only [Act.put,lyA,lyB,lyC])
   cases a1 with
   | false=>
     obtain rfl:V=false:=HB1.out (by rw [HX.out];rfl)
     clear HT HR0 HB1
     refine zj [(3,some 16,.bool true),(4,some 17,.bool true),(5,some 18,undef),(6,some 19,undef),(7,some 20,undef),(8,some 21,undef),(9,some 22,undef),(10,some 23,undef),(11,some 24,undef),(12,some 25,undef),(13,some 26,undef),(14,some 27,undef),(15,some 28,undef),(16,some 29,undef),(17,some 30,undef),(18,some 31,.bool true),(19,some 32,.bool true),(20,some 33,undef),(21,some 34,undef),(22,some 35,undef),(23,some 36,undef),(24,some 37,.bool true),(25,some 38,.bool true),(26,some 39,undef),(27,some 40,undef),(28,some 41,undef),(29,some 42,undef),(30,some 43,.bool true),(31,some 44,.bool true),(32,some 45,undef),(33,some 46,undef),(34,some 47,undef),(35,some 48,undef),(36,some 49,.bool true)] rfl (fun _ _ _ _ _ h=>h) (by kernel_rfl) (by assumption) ?_;(try simp only [zf,zg,Act.put,lyA,lyB,lyC])
     refine wpAnyH_done (by kernel_rfl) ?_ _
     clear hHeld
     go_wp2_with fail
     go_ret
     exact⟨rfl,HH3.out.ext⟩
   | true=>
     refine tW 3 3 ?_
     by_cases hk0:k=0
     ·subst hk0
      have HR:=Lib.hid (show∀j (hj:0=j+1),(xs[j]'(by omega)).guid < gu from fun j hj=>by omega)
      refine tW 6 2 ?_
      refine sW 8 9 ?_
      refine tW 17 4 ?_
      refine tG 21 rfl (fun wT hST=>za hST rfl rfl 0 rfl rfl (by kernel_rfl)) hHeld ?_;(try simp only [Act.put,lyA,lyB,lyC])
      clear hHeld
      refine oS 22 (fun K hK=>?_)
      go_simp
      refine(HBk.out _ HH3.out.ext).mono ?_
      rintro e w4 ⟨rfl,e4⟩
      have HH4:=Lib.hid (HH3.out.later e4)
      clear HH3 e4
      go_wp2_with fail
      refine hK.out _ _ ((HH4).out.only 0 rfl) (fun hHeld=>?_);clear hK K;(try simp only [Act.put,lyA,lyB,lyC])
      by_cases hE23:bk=0
      ·subst hE23
       refine tW 23 4 ?_
       refine tG 27 rfl (fun wT hST=>za hST rfl rfl 0 rfl rfl (by kernel_rfl)) hHeld ?_;(try simp only [Act.put,lyA,lyB,lyC])
       clear hHeld
       refine oS 28 (fun K hK=>?_)
       go_simp
       refine(HPr.out _ HH4.out.ext).mono ?_
       rintro e w5 ⟨rfl,e5⟩
       have HH5:=Lib.hid (HH4.out.later e5)
       clear HH4 e5
       go_wp2_with fail
       refine hK.out _ _ ((HH5).out.only 0 rfl) (fun hHeld=>?_);clear hK K;(try simp only [Act.put,lyA,lyB,lyC])
       by_cases hE29:pe=0
       ·subst hE29
        refine tW 29 4 ?_
        refine tG 33 rfl (fun wT hST=>za hST rfl rfl 0 rfl rfl (by kernel_rfl)) hHeld ?_;(try simp only [Act.put,lyA,lyB,lyC])
        clear hHeld
        refine oS 34 (fun K hK=>?_)
        go_simp
        refine(HTg.out _ HH5.out.ext).mono ?_
        rintro e w6 ⟨rfl,e6⟩
        have HH6:=Lib.hid (HH5.out.later e6)
        clear HH5 e6
        go_wp2_with fail
        refine hK.out _ _ ((HH6).out.only 0 rfl) (fun hHeld=>?_);clear hK K;(try simp only [Act.put,lyA,lyB,lyC])
        cases tg with
        | false=>
          obtain rfl:V=false:=HB1.out (by rw [HX.out];simp)
          clear HT HR0 HB1
          refine zj [(35,some 48,.bool true),(36,some 49,.bool true)] rfl (fun _ _ _ _ _ h=>h) (by kernel_rfl) (by assumption) ?_;(try simp only [zf,zg,Act.put,lyA,lyB,lyC])
          refine wpAnyH_done (by kernel_rfl) ?_ _
          clear hHeld
          go_wp2_with fail
          go_ret
          exact⟨rfl,HH6.out.ext⟩
        | true=>
          have HK2:=Lib.hid (HT.out (by rw [HX.out];rfl) HR.out)
          clear HT HR0 HB1 HR
          refine zj [(35,some 48,.bool false),(36,some 49,.bool false)] rfl (fun _ _ _ _ _ h=>h) (by kernel_rfl) (by assumption) ?_;(try simp only [zf,zg,Act.put,lyA,lyB,lyC])
          refine wpAnyH_done (by kernel_rfl) ?_ _
          clear hHeld
          go_upto_region 7 with fail
          have HH:=Lib.hid HH6.out
          clear HH6
          go_upto_region 8 with(first | (refine zc HH.out rfl rfl rfl 0 rfl rfl (by decide+kernel) ?_) | (refine xI (e:=9) (size:=1) (bytes:=16) (news:= [.string nm]) (lo:=w.heap.size) (.tmp 50) (.tmp 53) _ rfl rfl Tryz.underlying109 hi0 hz0 hz1 hz2 rfl (by omega) (HH.out.alloc #[.string nm] 9) 2 rfl rfl (m:=1) rfl rfl ((HH.out.alloc #[.string nm] 9).boxRd 0 rfl) (by simp [Value.oneCell']) (by simp only [maxLen];omega) (by omega) ?_;intro v7 w7 hh7 h7;obtain⟨A7,c7,rfl⟩:=h7;clear HH;have HH:=Lib.hid hh7.tail;clear hh7))
          go_wp2_with fail
          go_roundw
          case rel=>(first | exact⟨_,by omega,by go_num,HK2,A7,c7,rfl,Lib.hid (by rw [HTk.out];exact HH.out.only 1 rfl)⟩ | exact⟨1,by omega,rfl,HK2,A7,c7,rfl,Lib.hid (by rw [HTk.out];exact HH.out.only 1 rfl)⟩)
          case measure=>(first | (simp [intOf];done) | (simp [intOf];omega))
       ·have q29:(pe == 0)=false:=by rw [beq_eq_false_iff_ne];exact hE29
        have q29b:(pe != 0)=true:=by rw [bne_iff_ne];exact hE29
        have q29c:decide (pe=0)=false:=decide_eq_false hE29
        refine tW 29 1 ?_
        obtain rfl:V=false:=HB1.out (by rw [HX.out,q29c];simp)
        clear HT HR0 HB1
        refine zj [(30,some 43,.bool true),(31,some 44,.bool true),(32,some 45,undef),(33,some 46,undef),(34,some 47,undef),(35,some 48,undef),(36,some 49,.bool true)] rfl (fun _ _ _ _ _ h=>h) (by kernel_rfl) (by assumption) ?_;(try simp only [zf,zg,Act.put,lyA,lyB,lyC])
        refine wpAnyH_done (by kernel_rfl) ?_ _
        clear hHeld
        go_wp2_with fail
        go_ret
        exact⟨rfl,HH5.out.ext⟩
      ·have q23:(bk == 0)=false:=by rw [beq_eq_false_iff_ne];exact hE23
       have q23b:(bk != 0)=true:=by rw [bne_iff_ne];exact hE23
       have q23c:decide (bk=0)=false:=decide_eq_false hE23
       refine tW 23 1 ?_
       obtain rfl:V=false:=HB1.out (by rw [HX.out,q23c];simp)
       clear HT HR0 HB1
       refine zj [(24,some 37,.bool true),(25,some 38,.bool true),(26,some 39,undef),(27,some 40,undef),(28,some 41,undef),(29,some 42,undef),(30,some 43,.bool true),(31,some 44,.bool true),(32,some 45,undef),(33,some 46,undef),(34,some 47,undef),(35,some 48,undef),(36,some 49,.bool true)] rfl (fun _ _ _ _ _ h=>h) (by kernel_rfl) (by assumption) ?_;(try simp only [zf,zg,Act.put,lyA,lyB,lyC])
       refine wpAnyH_done (by kernel_rfl) ?_ _
       clear hHeld
       go_wp2_with fail
       go_ret
       exact⟨rfl,HH4.out.ext⟩
     ·obtain⟨j,rfl⟩: ∃j,k=j+1:=⟨k - 1,by omega⟩
      obtain⟨y,hy,hyb,d0⟩:=HPv.out j rfl
      have HRy:=Lib.hid (fun hp=>HR0.out j rfl (by rw [hy];exact hp))
      have HRz:=Lib.hid (fun(hp:y < gu) (i:Nat) (hi:j+1=i+1)=>show(xs[i]'(by omega)).guid < gu from by obtain rfl:i=j:=(by omega);rw [hy];exact hp)
      have p0: ∀W,Heap w [.box xb [.string nm,.int .i64 gu,.slice bA bn bc,.slice tA tn tc,.slice pA pn pc]] W→W.cell? ⟨b1,o1+j * 5+1,none⟩=some (.int .i64 y):=fun W hW=>(Below.cell hW.ext (World.block_lt_of_cell? w _ d0)).trans d0
      clear hy d0
      have q3:IntKind.i64.wrap (j:Int)=(j:Int):=IntWalk.i64_in _ (by omega)
      have q4:(0:Int) < (j:Int)+1:=by omega
      have q5:(j:Int) < (n:Int):=by omega
      refine tW 6 9 ?_
      refine tG 15 rfl (fun wT hST=>za hST rfl rfl 0 rfl rfl (by kernel_rfl)) hHeld ?_;(try simp only [Act.put,lyA,lyB,lyC])
      clear p0
      by_cases hl:y < gu
      ·have hq:decide (gu≤y)=false:=decide_eq_false (by omega)
       have HR:=Lib.hid (HRz.out hl)
       clear HRy HRz
       refine tW 16 5 ?_
       refine tG 21 rfl (fun wT hST=>za hST rfl rfl 0 rfl rfl (by kernel_rfl)) hHeld ?_;(try simp only [Act.put,lyA,lyB,lyC])
       clear hHeld
       refine oS 22 (fun K hK=>?_)
       go_simp
       refine(HBk.out _ HH3.out.ext).mono ?_
       rintro e w7 ⟨rfl,e7⟩
       have HH7:=Lib.hid (HH3.out.later e7)
       clear HH3 e7
       go_wp2_with fail
       refine hK.out _ _ ((HH7).out.only 0 rfl) (fun hHeld=>?_);clear hK K;(try simp only [Act.put,lyA,lyB,lyC])
       by_cases hE23:bk=0
       ·subst hE23
        refine tW 23 4 ?_
        refine tG 27 rfl (fun wT hST=>za hST rfl rfl 0 rfl rfl (by kernel_rfl)) hHeld ?_;(try simp only [Act.put,lyA,lyB,lyC])
        clear hHeld
        refine oS 28 (fun K hK=>?_)
        go_simp
        refine(HPr.out _ HH7.out.ext).mono ?_
        rintro e w8 ⟨rfl,e8⟩
        have HH8:=Lib.hid (HH7.out.later e8)
        clear HH7 e8
        go_wp2_with fail
        refine hK.out _ _ ((HH8).out.only 0 rfl) (fun hHeld=>?_);clear hK K;(try simp only [Act.put,lyA,lyB,lyC])
        by_cases hE29:pe=0
        ·subst hE29
         refine tW 29 4 ?_
         refine tG 33 rfl (fun wT hST=>za hST rfl rfl 0 rfl rfl (by kernel_rfl)) hHeld ?_;(try simp only [Act.put,lyA,lyB,lyC])
         clear hHeld
         refine oS 34 (fun K hK=>?_)
         go_simp
         refine(HTg.out _ HH8.out.ext).mono ?_
         rintro e w9 ⟨rfl,e9⟩
         have HH9:=Lib.hid (HH8.out.later e9)
         clear HH8 e9
         go_wp2_with fail
         refine hK.out _ _ ((HH9).out.only 0 rfl) (fun hHeld=>?_);clear hK K;(try simp only [Act.put,lyA,lyB,lyC])
         cases tg with
         | false=>
           obtain rfl:V=false:=HB1.out (by rw [HX.out];simp)
           clear HT HR0 HB1
           refine zj [(35,some 48,.bool true),(36,some 49,.bool true)] rfl (fun _ _ _ _ _ h=>h) (by kernel_rfl) (by assumption) ?_;(try simp only [zf,zg,Act.put,lyA,lyB,lyC])
           refine wpAnyH_done (by kernel_rfl) ?_ _
           clear hHeld
           go_wp2_with fail
           go_ret
           exact⟨rfl,HH9.out.ext⟩
         | true=>
           have HK2:=Lib.hid (HT.out (by rw [HX.out];rfl) HR.out)
           clear HT HR0 HB1 HR
           refine zj [(35,some 48,.bool false),(36,some 49,.bool false)] rfl (fun _ _ _ _ _ h=>h) (by kernel_rfl) (by assumption) ?_;(try simp only [zf,zg,Act.put,lyA,lyB,lyC])
           refine wpAnyH_done (by kernel_rfl) ?_ _
           clear hHeld
           go_upto_region 7 with fail
           have HH:=Lib.hid HH9.out
           clear HH9
           go_upto_region 8 with(first | (refine zc HH.out rfl rfl rfl 0 rfl rfl (by decide+kernel) ?_) | (refine xI (e:=9) (size:=1) (bytes:=16) (news:= [.string nm]) (lo:=w.heap.size) (.tmp 50) (.tmp 53) _ rfl rfl Tryz.underlying109 hi0 hz0 hz1 hz2 rfl (by omega) (HH.out.alloc #[.string nm] 9) 2 rfl rfl (m:=1) rfl rfl ((HH.out.alloc #[.string nm] 9).boxRd 0 rfl) (by simp [Value.oneCell']) (by simp only [maxLen];omega) (by omega) ?_;intro v7 w7 hh7 h7;obtain⟨A7,c7,rfl⟩:=h7;clear HH;have HH:=Lib.hid hh7.tail;clear hh7))
           go_wp2_with fail
           go_roundw
           case rel=>(first | exact⟨_,by omega,by go_num,HK2,A7,c7,rfl,Lib.hid (by rw [HTk.out];exact HH.out.only 1 rfl)⟩ | exact⟨1,by omega,rfl,HK2,A7,c7,rfl,Lib.hid (by rw [HTk.out];exact HH.out.only 1 rfl)⟩)
           case measure=>(first | (simp [intOf];done) | (simp [intOf];omega))
        ·have q29:(pe == 0)=false:=by rw [beq_eq_false_iff_ne];exact hE29
         have q29b:(pe != 0)=true:=by rw [bne_iff_ne];exact hE29
         have q29c:decide (pe=0)=false:=decide_eq_false hE29
         refine tW 29 1 ?_
         obtain rfl:V=false:=HB1.out (by rw [HX.out,q29c];simp)
         clear HT HR0 HB1
         refine zj [(30,some 43,.bool true),(31,some 44,.bool true),(32,some 45,undef),(33,some 46,undef),(34,some 47,undef),(35,some 48,undef),(36,some 49,.bool true)] rfl (fun _ _ _ _ _ h=>h) (by kernel_rfl) (by assumption) ?_;(try simp only [zf,zg,Act.put,lyA,lyB,lyC])
         refine wpAnyH_done (by kernel_rfl) ?_ _
         clear hHeld
         go_wp2_with fail
         go_ret
         exact⟨rfl,HH8.out.ext⟩
       ·have q23:(bk == 0)=false:=by rw [beq_eq_false_iff_ne];exact hE23
        have q23b:(bk != 0)=true:=by rw [bne_iff_ne];exact hE23
        have q23c:decide (bk=0)=false:=decide_eq_false hE23
        refine tW 23 1 ?_
        obtain rfl:V=false:=HB1.out (by rw [HX.out,q23c];simp)
        clear HT HR0 HB1
        refine zj [(24,some 37,.bool true),(25,some 38,.bool true),(26,some 39,undef),(27,some 40,undef),(28,some 41,undef),(29,some 42,undef),(30,some 43,.bool true),(31,some 44,.bool true),(32,some 45,undef),(33,some 46,undef),(34,some 47,undef),(35,some 48,undef),(36,some 49,.bool true)] rfl (fun _ _ _ _ _ h=>h) (by kernel_rfl) (by assumption) ?_;(try simp only [zf,zg,Act.put,lyA,lyB,lyC])
        refine wpAnyH_done (by kernel_rfl) ?_ _
        clear hHeld
        go_wp2_with fail
        go_ret
        exact⟨rfl,HH7.out.ext⟩
      ·have hq:decide (gu≤y)=true:=decide_eq_true (by omega)
       refine tW 16 1 ?_
       have hl2:gu≤y:=by omega
       obtain rfl:V=false:=HRy.out (by first | exact hl2 | omega)
       clear HT HR0 HB1
       refine zj [(17,some 30,.bool true),(18,some 31,.bool true),(19,some 32,.bool true),(20,some 33,undef),(21,some 34,undef),(22,some 35,undef),(23,some 36,undef),(24,some 37,.bool true),(25,some 38,.bool true),(26,some 39,undef),(27,some 40,undef),(28,some 41,undef),(29,some 42,undef),(30,some 43,.bool true),(31,some 44,.bool true),(32,some 45,undef),(33,some 46,undef),(34,some 47,undef),(35,some 48,undef),(36,some 49,.bool true)] rfl (fun _ _ _ _ _ h=>h) (by kernel_rfl) (by assumption) ?_;(try simp only [zf,zg,Act.put,lyA,lyB,lyC])
       refine wpAnyH_done (by kernel_rfl) ?_ _
       clear hHeld
       go_wp2_with fail
       go_ret
       exact⟨rfl,HH3.out.ext⟩
  ·obtain rfl:k=n:=by omega
   have HV:V=(decide ((k:Int)≤16) && yM (xs.map Sna.name)):=by
    have q:=HY.out (fun j h=>HK.out.1 j h (by rw [Hn.out];exact h)) (fun j h=>HK.out.2 j h (by rw [Hn.out];exact h))
    rw [←Hn.out]at q
    rw [q];congr 1;rw [decide_eq_decide];omega
   have ht:(xs.map Sna.name).take k=xs.map Sna.name:=List.take_of_length_le (by rw [List.length_map,←Hn.out];exact Nat.le_refl _)
   rw [ht]at HH
   obtain⟨f1,f2⟩:=qI (HH.out.rowAt 0 rfl)
   have HC:=Lib.hid (HUn.out wr vA vc ((HH.out.rowRd 0 rfl).m0) f1 f2)
   have HVh:=Lib.hid HV
   clear HY H1 H2 HK HUn ht HV
   generalize yM _=ub at *
   by_cases h16:(k:Int)≤16
   ·have q16:decide ((k:Int)≤16)=true:=decide_eq_true h16
    go_upto_region 9 with fail
    go_wp2_with (refine HC.out.mono ?_;rintro e w8 ⟨rfl,e8⟩)
    go_ret
    exact⟨by rw [HVh.out,q16];rfl,HH.out.ext.trans e8⟩
   ·have q16:decide ((k:Int)≤16)=false:=decide_eq_false h16
    go_wp2_with fail
    go_ret
    exact⟨by rw [HVh.out,q16];rfl,HH.out.ext⟩
end Go.Proofs.YtckaneapjpiocaaGreatDoor
