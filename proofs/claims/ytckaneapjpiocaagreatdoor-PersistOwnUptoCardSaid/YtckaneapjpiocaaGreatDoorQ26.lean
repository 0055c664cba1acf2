/- The texts Tr6 in one file. -/
import Derived.Test.YtckaneapjpiocaaGreatDoorQ24
set_option linter.unusedVariables false
set_option linter.unusedSimpArgs false
set_option maxHeartbeats 8000000
set_option maxRecDepth 100000
namespace Go.Proofs.YtckaneapjpiocaaGreatDoor
open Go.RowKit Go.Maps Go.Sort Go.Shelf
theorem akp(l:List Sna)(k:Nat)(h:k < l.length)(hp:snB l[k]=false):xF l=false:=by
 rw [xF,aaf snB l k h hp];simp
theorem ahX(l:List Sna)(j:Nat)(h:j+1 < l.length)(hp: ¬l[j].guid < l[j+1].guid):xF l=false:=by
 have:aeS (l.map Sna.guid)=false:=anu _ j (by simpa using h) (by simpa using hp)
 rw [xF,this];simp
theorem ah9(l:List Sna)(h1: ∀k (h:k < l.length),snB l[k]=true)(h2: ∀j (h:j+1 < l.length),l[j].guid < l[j+1].guid):xF l=(decide (l.length≤16) && qo (l.map Sna.name)):=by
 have a:l.all snB=true:=List.all_eq_true.2 fun x hx=>by
  obtain⟨k,hk,rfl⟩:=List.getElem_of_mem hx
  exact h1 k hk
 have b:aeS (l.map Sna.guid)=true:=amr _ fun k h=>by
  have:=h2 k (by simpa using h)
  simpa using this
 rw [xF,a,b];simp
theorem akI(w:World)(s:Sl Sna)(h:Sl.At w 0 w.heap.size Sna.cells (Sna.At w 0 w.heap.size) s)(hN:s.n≤1048576):
 Calls Tryz.prog 140 #[s.val] w fun e w'=>e= .returned (.bool (xF s.xs))∧Ext w w':=by
 obtain⟨i0,hi0,hz0,hz1,hz2⟩:=info_parts abd
 have HA:=hiD h
 obtain⟨A,n,c,xs⟩:=s
 have Hn:=hiD (show n=xs.length from h.len)
 have hm:n≤1048576:=hN
 have H1:=hiD (akp xs)
 have H2:=hiD (ahX xs)
 have HY:=hiD (ah9 xs)
 have HUn:=hiD (fun W A' c' (hr:Rd W 0 W.heap.size A' ((xs.map Sna.name).map Value.string)) h1 h2=>afo W A' n c' (xs.map Sna.name) (by rw [List.length_map];exact h.len) h1 h2 hr (fun s hs=>by obtain⟨x,hx,rfl⟩:=List.mem_map.1 hs;exact(h.all x hx).name))
 dsimp only
 generalize xF xs=V at *
 clear h hN
 simp only [Sl.val]
 go_enter Tryz.func140,Tryz.ntmps140
 go_upto_region 3 with fail
 have HH:=hiD (show Heap w [.row 9 1 (.slice none 0 0) 0 []] w from(Heap.start w).row0)
 go_loopw [3,4,5,8] (fun va _ _ v wr=> ∃k:Nat,k≤n∧v= .int .i64 (k:Int)∧Hid ((∀j (h:j < xs.length),j < k→snB xs[j]=true)∧ ∀j (h:j+1 < xs.length),j+1 < k→xs[j].guid < xs[j+1].guid)∧(∃vA vc,va= .slice vA k vc∧Hid (Heap w [.row 9 1 (.slice vA k vc) k (((xs.map Sna.name).take k).map Value.string)] wr))) (fun _ _ _ v _=>n - (intOf v).toNat)
 case atStart=>exact⟨0,Nat.zero_le _,rfl,hiD ⟨fun j h hj=>absurd hj (Nat.not_lt_zero _),fun j h hj=>absurd hj (Nat.not_lt_zero _)⟩,_,_,rfl,HH⟩
 case round=>
  clear HH
  obtain⟨k,hk,rfl,HK,vA,vc,rfl,HH⟩:=hrel
  by_cases hlt:k < n
  ·have l1:k < xs.length:=by rw [←Hn.out];exact hlt
   obtain⟨b1,o1,hA1,_,hb1,G⟩:=zh (size:=5) (fun _=>rfl) (by omega) HA.out.rd l1
   dsimp only at hA1
   subst hA1
   have HSm:=hiD (HA.out.all _ (List.getElem_mem l1))
   have HB1:=hiD (fun hp=>H1.out k l1 hp)
   have HR0:=hiD (fun(j:Nat) (hj:k=j+1) (hp: ¬(xs[j]'(by omega)).guid < xs[k].guid)=>show V=false by subst hj;exact H2.out j l1 (by omega))
   have HT:=hiD (fun(h1:snB xs[k]=true) (h2: ∀j (hj:k=j+1),(xs[j]'(by omega)).guid < xs[k].guid)=>show(∀j (h:j < xs.length),j < k+1→snB xs[j]=true)∧ ∀j (h:j+1 < xs.length),j+1 < k+1→xs[j].guid < xs[j+1].guid from
    ⟨fun j h hj=>by
      rcases Nat.lt_or_ge j k with h3 | h3
      ·exact HK.out.1 j h h3
      ·obtain rfl:j=k:=by omega
       exact h1,fun j h hj=>by
      rcases Nat.lt_or_ge (j+1) k with h3 | h3
      ·exact HK.out.2 j h h3
      ·obtain rfl:k=j+1:=by omega
       exact h2 j rfl⟩)
   have HPv:=hiD (fun(j:Nat) (hj:k=j+1)=>show∃y:Int,(xs[j]'(by omega)).guid=y∧(Lit.int .i64 y).wf=true∧w.cell? ⟨b1,o1+j * 5+1,none⟩=some (.int .i64 y)by
    obtain⟨b2,o2,hh,_,_,G2⟩:=zh (size:=5) (fun _=>rfl) (by omega) HA.out.rd (k:=j) (show j < xs.length by omega)
    obtain⟨rfl,rfl⟩:b1=b2∧o1=o2:=by simpa using hh
    exact⟨_,rfl,(HA.out.all _ (List.getElem_mem (show j < xs.length by omega))).guid,G2 1 _ rfl⟩)
   have HBk:=hiD (fun W (hW:Ext w W)=>abh W xs[k].body.A xs[k].body.n xs[k].body.c xs[k].body.xs HSm.out.body.len (Nat.le_trans HSm.out.bodyS (by decide)) (Rd.at HSm.out.body.rd hW (Nat.le_refl _)) HSm.out.body.all)
   have HPr:=hiD (fun W (hW:Ext w W)=>aaH W xs[k].own.A xs[k].own.n xs[k].own.c xs[k].own.xs HSm.out.own.len (Nat.le_trans HSm.out.ownS (by decide)) (Rd.at HSm.out.own.rd hW (Nat.le_refl _)) (fun x hx=>⟨Nat.le_trans (HSm.out.own.all x hx).1 (by decide),Nat.le_trans (HSm.out.own.all x hx).2 (by decide)⟩))
   have HTg:=hiD (fun W (hW:Ext w W)=>aje W xs[k].tags (yG HSm.out.tags hW (Nat.le_refl _) fun _ h=>h))
   have HA1:=hiD (fun W=>qh W xs[k].guid 1 (zB HSm.out.guid).1 (zB HSm.out.guid).2)
   have HX:=hiD (show snB xs[k]=(zE xs[k].guid 1 && (decide (bkE xs[k].body.xs=0) && (decide (prE xs[k].own.xs=0) && aad xs[k].tags.xs)))from rfl)
   have HTk:=hiD (show((xs.map Sna.name).take (k+1)).map Value.string=((xs.map Sna.name).take k).map Value.string++ [.string xs[k].name]by
    rw [List.take_succ_eq_append_getElem (by simpa using l1)];simp)
   have HGw:=hiD (fun j u hu=>(Below.cell HH.out.ext hb1).trans (G j u hu))
   clear HSm G
   generalize xs[k]=x at *
   generalize ((xs.map Sna.name).take k).map Value.string=Y at *
   obtain⟨nm,gu,⟨bA,bn,bc,bd⟩,⟨tA,tn,tc,td⟩,⟨pA,pn,pc,pd⟩⟩:=x
   dsimp only at HB1 HR0 HT HBk HPr HTg HA1 HX HTk
   simp only [Sl.val]at HTg
   generalize snB _=sb at *
   generalize bkE bd=bk at *
   generalize prE pd=pe at *
   generalize aad td=tg at *
   generalize zE gu 1=a1 at *
   have hkn:(k:Int) < (n:Int):=by omega
   have HGc:=hiD (show∀j u,([.string nm,.int .i64 gu,.slice bA bn bc,.slice tA tn tc,.slice pA pn pc]:List Value)[j]?=some u→wr.cell? ⟨b1,o1+k * 5+j,none⟩=some u from HGw.out)
   clear HGw
   go_upto_region 5 with(first | (refine yF HGc.out rfl aaj (by kernel_rfl) rfl rfl rfl ?_) | (refine sSX (hiD (HH.out.alloc _ _)) aaj 0 ?_;clear HH;intro wS HH))
   obtain⟨xb,hxb⟩: ∃b,b=wr.heap.size:=⟨_,rfl⟩
   rw [←hxb]at HH ⊢
   clear hxb HGc
   have HHd:=hiD (show Heap w [.box xb [.string nm,.int .i64 gu,.slice bA bn bc,.slice tA tn tc,.slice pA pn pc],_] (World.drew wS)from HH.out.drew)
   clear HH
   refine wp_region_held_drew (S:=Heap w [.box xb [.string nm,.int .i64 gu,.slice bA bn bc,.slice tA tn tc,.slice pA pn pc]]) (by kernel_rfl) (HHd.out.only 0 rfl) (fun hHeld=>?_)
   generalize World.drew _=wd at *
   refine tW 0 1 ?_
   refine tH 1 0 ?_
   clear hHeld
   refine oS 2 (fun K hK=>?_)
   go_simp
   refine cX HHd (HA1.out _) ?_
   clear HHd
   intro w3 HH3
   go_wp2_with fail
   refine hK.out _ _ ((HH3).out.only 0 rfl) (fun hHeld=>?_);clear hK K;refine lyX ?_
   cases a1 with
   | false=>
     obtain rfl:V=false:=HB1.out (by rw [HX.out];rfl)
     clear HT HR0 HB1
     refine zq [(3,some 16,.bool true),(4,some 17,.bool true),(5,some 18,undef),(6,some 19,undef),(7,some 20,undef),(8,some 21,undef),(9,some 22,undef),(10,some 23,undef),(11,some 24,undef),(12,some 25,undef),(13,some 26,undef),(14,some 27,undef),(15,some 28,undef),(16,some 29,undef),(17,some 30,undef),(18,some 31,.bool true),(19,some 32,.bool true),(20,some 33,undef),(21,some 34,undef),(22,some 35,undef),(23,some 36,undef),(24,some 37,.bool true),(25,some 38,.bool true),(26,some 39,undef),(27,some 40,undef),(28,some 41,undef),(29,some 42,undef),(30,some 43,.bool true),(31,some 44,.bool true),(32,some 45,undef),(33,some 46,undef),(34,some 47,undef),(35,some 48,undef),(36,some 49,.bool true)] rfl (fun _ _ _ _ _ h=>h) (by kernel_rfl) (by assumption) ?_;(try simp only [zg,zf,Act.put,lyA,lyB,lyC])
     refine dnX ?_
     clear hHeld
     go_wp2_with fail
     go_ret
     exact⟨rfl,HH3.out.ext⟩
   | true=>
     refine tW 3 3 ?_
     by_cases hk0:k=0
     ·subst hk0
      have HR:=hiD (show∀j (hj:0=j+1),(xs[j]'(by omega)).guid < gu from fun j hj=>by omega)
      refine tW 6 2 ?_
      refine sW 8 9 ?_
      refine tW 17 4 ?_
      refine tH 21 0 ?_
      clear hHeld
      refine oS 22 (fun K hK=>?_)
      go_simp
      refine cX HH3 (HBk.out _ HH3.out.ext) ?_
      clear HH3
      intro w4 HH4
      go_wp2_with fail
      refine hK.out _ _ ((HH4).out.only 0 rfl) (fun hHeld=>?_);clear hK K;refine lyX ?_
      by_cases hE23:bk=0
      ·subst hE23
       refine tW 23 4 ?_
       refine tH 27 0 ?_
       clear hHeld
       refine oS 28 (fun K hK=>?_)
       go_simp
       refine cX HH4 (HPr.out _ HH4.out.ext) ?_
       clear HH4
       intro w5 HH5
       go_wp2_with fail
       refine hK.out _ _ ((HH5).out.only 0 rfl) (fun hHeld=>?_);clear hK K;refine lyX ?_
       by_cases hE29:pe=0
       ·subst hE29
        refine tW 29 4 ?_
        refine tH 33 0 ?_
        clear hHeld
        refine oS 34 (fun K hK=>?_)
        go_simp
        refine cX HH5 (HTg.out _ HH5.out.ext) ?_
        clear HH5
        intro w6 HH6
        go_wp2_with fail
        refine hK.out _ _ ((HH6).out.only 0 rfl) (fun hHeld=>?_);clear hK K;refine lyX ?_
        cases tg with
        | false=>
          obtain rfl:V=false:=HB1.out (by rw [HX.out];simp)
          clear HT HR0 HB1
          refine zq [(35,some 48,.bool true),(36,some 49,.bool true)] rfl (fun _ _ _ _ _ h=>h) (by kernel_rfl) (by assumption) ?_;(try simp only [zg,zf,Act.put,lyA,lyB,lyC])
          refine dnX ?_
          clear hHeld
          go_wp2_with fail
          go_ret
          exact⟨rfl,HH6.out.ext⟩
        | true=>
          have HK2:=hiD (HT.out (by rw [HX.out];rfl) HR.out)
          clear HT HR0 HB1 HR
          refine zq [(35,some 48,.bool false),(36,some 49,.bool false)] rfl (fun _ _ _ _ _ h=>h) (by kernel_rfl) (by assumption) ?_;(try simp only [zg,zf,Act.put,lyA,lyB,lyC])
          refine dnX ?_
          clear hHeld
          go_upto_region 7 with fail
          have HH:=hiD HH6.out
          clear HH6
          go_upto_region 8 with(first | (refine l1X HH 0 ?_) | (refine qk (e:=9) (size:=1) (bytes:=16) (news:= [.string nm]) (lo:=w.heap.size) (.tmp 50) (.tmp 53) _ rfl rfl Tryz.underlying109 hi0 hz0 hz1 hz2 rfl (by omega) (HH.out.alloc #[.string nm] 9) 2 rfl rfl (m:=1) rfl rfl ((HH.out.alloc #[.string nm] 9).boxRd 0 rfl) (by simp [Value.oneCell']) (by simp only [maxLen];omega) (by omega) ?_;intro v7 w7 hh7 h7;obtain⟨A7,c7,rfl⟩:=h7;clear HH;have HH:=hiD hh7.tail;clear hh7))
          go_wp2_with fail
          go_roundw
          case rel=>(first | exact⟨_,by omega,by go_num,HK2,A7,c7,rfl,hiD (by rw [HTk.out];exact HH.out.only 1 rfl)⟩ | exact⟨1,by omega,rfl,HK2,A7,c7,rfl,hiD (by rw [HTk.out];exact HH.out.only 1 rfl)⟩)
          case measure=>(first | (simp [intOf];done) | (simp [intOf];omega))
       ·have q29:(pe == 0)=false:=by rw [beq_eq_false_iff_ne];exact hE29
        have q29b:(pe != 0)=true:=by rw [bne_iff_ne];exact hE29
        have q29c:decide (pe=0)=false:=decide_eq_false hE29
        refine tW 29 1 ?_
        obtain rfl:V=false:=HB1.out (by rw [HX.out,q29c];simp)
        clear HT HR0 HB1
        refine zq [(30,some 43,.bool true),(31,some 44,.bool true),(32,some 45,undef),(33,some 46,undef),(34,some 47,undef),(35,some 48,undef),(36,some 49,.bool true)] rfl (fun _ _ _ _ _ h=>h) (by kernel_rfl) (by assumption) ?_;(try simp only [zg,zf,Act.put,lyA,lyB,lyC])
        refine dnX ?_
        clear hHeld
        go_wp2_with fail
        go_ret
        exact⟨rfl,HH5.out.ext⟩
      ·have q23:(bk == 0)=false:=by rw [beq_eq_false_iff_ne];exact hE23
       have q23b:(bk != 0)=true:=by rw [bne_iff_ne];exact hE23
       have q23c:decide (bk=0)=false:=decide_eq_false hE23
       refine tW 23 1 ?_
       obtain rfl:V=false:=HB1.out (by rw [HX.out,q23c];simp)
       clear HT HR0 HB1
       refine zq [(24,some 37,.bool true),(25,some 38,.bool true),(26,some 39,undef),(27,some 40,undef),(28,some 41,undef),(29,some 42,undef),(30,some 43,.bool true),(31,some 44,.bool true),(32,some 45,undef),(33,some 46,undef),(34,some 47,undef),(35,some 48,undef),(36,some 49,.bool true)] rfl (fun _ _ _ _ _ h=>h) (by kernel_rfl) (by assumption) ?_;(try simp only [zg,zf,Act.put,lyA,lyB,lyC])
       refine dnX ?_
       clear hHeld
       go_wp2_with fail
       go_ret
       exact⟨rfl,HH4.out.ext⟩
     ·obtain⟨j,rfl⟩: ∃j,k=j+1:=⟨k - 1,by omega⟩
      obtain⟨y,hy,hyb,d0⟩:=HPv.out j rfl
      have HRy:=hiD (fun hp=>HR0.out j rfl (by rw [hy];exact hp))
      have HRz:=hiD (fun(hp:y < gu) (i:Nat) (hi:j+1=i+1)=>show(xs[i]'(by omega)).guid < gu from by obtain rfl:i=j:=(by omega);rw [hy];exact hp)
      have p0: ∀W,Heap w [.box xb [.string nm,.int .i64 gu,.slice bA bn bc,.slice tA tn tc,.slice pA pn pc]] W→W.cell? ⟨b1,o1+j * 5+1,none⟩=some (.int .i64 y):=fun W hW=>(Below.cell hW.ext (World.block_lt_of_cell? w _ d0)).trans d0
      clear hy d0
      have q3:IntKind.i64.wrap (j:Int)=(j:Int):=IntWalk.i64_in _ (by omega)
      have q4:(0:Int) < (j:Int)+1:=by omega
      have q5:(j:Int) < (n:Int):=by omega
      refine tW 6 9 ?_
      refine tH 15 0 ?_
      clear p0
      by_cases hl:y < gu
      ·have hq:decide (gu≤y)=false:=decide_eq_false (by omega)
       have HR:=hiD (HRz.out hl)
       clear HRy HRz
       refine tW 16 5 ?_
       refine tH 21 0 ?_
       clear hHeld
       refine oS 22 (fun K hK=>?_)
       go_simp
       refine cX HH3 (HBk.out _ HH3.out.ext) ?_
       clear HH3
       intro w7 HH7
       go_wp2_with fail
       refine hK.out _ _ ((HH7).out.only 0 rfl) (fun hHeld=>?_);clear hK K;refine lyX ?_
       by_cases hE23:bk=0
       ·subst hE23
        refine tW 23 4 ?_
        refine tH 27 0 ?_
        clear hHeld
        refine oS 28 (fun K hK=>?_)
        go_simp
        refine cX HH7 (HPr.out _ HH7.out.ext) ?_
        clear HH7
        intro w8 HH8
        go_wp2_with fail
        refine hK.out _ _ ((HH8).out.only 0 rfl) (fun hHeld=>?_);clear hK K;refine lyX ?_
        by_cases hE29:pe=0
        ·subst hE29
         refine tW 29 4 ?_
         refine tH 33 0 ?_
         clear hHeld
         refine oS 34 (fun K hK=>?_)
         go_simp
         refine cX HH8 (HTg.out _ HH8.out.ext) ?_
         clear HH8
         intro w9 HH9
         go_wp2_with fail
         refine hK.out _ _ ((HH9).out.only 0 rfl) (fun hHeld=>?_);clear hK K;refine lyX ?_
         cases tg with
         | false=>
           obtain rfl:V=false:=HB1.out (by rw [HX.out];simp)
           clear HT HR0 HB1
           refine zq [(35,some 48,.bool true),(36,some 49,.bool true)] rfl (fun _ _ _ _ _ h=>h) (by kernel_rfl) (by assumption) ?_;(try simp only [zg,zf,Act.put,lyA,lyB,lyC])
           refine dnX ?_
           clear hHeld
           go_wp2_with fail
           go_ret
           exact⟨rfl,HH9.out.ext⟩
         | true=>
           have HK2:=hiD (HT.out (by rw [HX.out];rfl) HR.out)
           clear HT HR0 HB1 HR
           refine zq [(35,some 48,.bool false),(36,some 49,.bool false)] rfl (fun _ _ _ _ _ h=>h) (by kernel_rfl) (by assumption) ?_;(try simp only [zg,zf,Act.put,lyA,lyB,lyC])
           refine dnX ?_
           clear hHeld
           go_upto_region 7 with fail
           have HH:=hiD HH9.out
           clear HH9
           go_upto_region 8 with(first | (refine l1X HH 0 ?_) | (refine qk (e:=9) (size:=1) (bytes:=16) (news:= [.string nm]) (lo:=w.heap.size) (.tmp 50) (.tmp 53) _ rfl rfl Tryz.underlying109 hi0 hz0 hz1 hz2 rfl (by omega) (HH.out.alloc #[.string nm] 9) 2 rfl rfl (m:=1) rfl rfl ((HH.out.alloc #[.string nm] 9).boxRd 0 rfl) (by simp [Value.oneCell']) (by simp only [maxLen];omega) (by omega) ?_;intro v7 w7 hh7 h7;obtain⟨A7,c7,rfl⟩:=h7;clear HH;have HH:=hiD hh7.tail;clear hh7))
           go_wp2_with fail
           go_roundw
           case rel=>(first | exact⟨_,by omega,by go_num,HK2,A7,c7,rfl,hiD (by rw [HTk.out];exact HH.out.only 1 rfl)⟩ | exact⟨1,by omega,rfl,HK2,A7,c7,rfl,hiD (by rw [HTk.out];exact HH.out.only 1 rfl)⟩)
           case measure=>(first | (simp [intOf];done) | (simp [intOf];omega))
        ·have q29:(pe == 0)=false:=by rw [beq_eq_false_iff_ne];exact hE29
         have q29b:(pe != 0)=true:=by rw [bne_iff_ne];exact hE29
         have q29c:decide (pe=0)=false:=decide_eq_false hE29
         refine tW 29 1 ?_
         obtain rfl:V=false:=HB1.out (by rw [HX.out,q29c];simp)
         clear HT HR0 HB1
         refine zq [(30,some 43,.bool true),(31,some 44,.bool true),(32,some 45,undef),(33,some 46,undef),(34,some 47,undef),(35,some 48,undef),(36,some 49,.bool true)] rfl (fun _ _ _ _ _ h=>h) (by kernel_rfl) (by assumption) ?_;(try simp only [zg,zf,Act.put,lyA,lyB,lyC])
         refine dnX ?_
         clear hHeld
         go_wp2_with fail
         go_ret
         exact⟨rfl,HH8.out.ext⟩
       ·have q23:(bk == 0)=false:=by rw [beq_eq_false_iff_ne];exact hE23
        have q23b:(bk != 0)=true:=by rw [bne_iff_ne];exact hE23
        have q23c:decide (bk=0)=false:=decide_eq_false hE23
        refine tW 23 1 ?_
        obtain rfl:V=false:=HB1.out (by rw [HX.out,q23c];simp)
        clear HT HR0 HB1
        refine zq [(24,some 37,.bool true),(25,some 38,.bool true),(26,some 39,undef),(27,some 40,undef),(28,some 41,undef),(29,some 42,undef),(30,some 43,.bool true),(31,some 44,.bool true),(32,some 45,undef),(33,some 46,undef),(34,some 47,undef),(35,some 48,undef),(36,some 49,.bool true)] rfl (fun _ _ _ _ _ h=>h) (by kernel_rfl) (by assumption) ?_;(try simp only [zg,zf,Act.put,lyA,lyB,lyC])
        refine dnX ?_
        clear hHeld
        go_wp2_with fail
        go_ret
        exact⟨rfl,HH7.out.ext⟩
      ·have hq:decide (gu≤y)=true:=decide_eq_true (by omega)
       refine tW 16 1 ?_
       have hl2:gu≤y:=by omega
       obtain rfl:V=false:=HRy.out (by first | exact hl2 | omega)
       clear HT HR0 HB1
       refine zq [(17,some 30,.bool true),(18,some 31,.bool true),(19,some 32,.bool true),(20,some 33,undef),(21,some 34,undef),(22,some 35,undef),(23,some 36,undef),(24,some 37,.bool true),(25,some 38,.bool true),(26,some 39,undef),(27,some 40,undef),(28,some 41,undef),(29,some 42,undef),(30,some 43,.bool true),(31,some 44,.bool true),(32,some 45,undef),(33,some 46,undef),(34,some 47,undef),(35,some 48,undef),(36,some 49,.bool true)] rfl (fun _ _ _ _ _ h=>h) (by kernel_rfl) (by assumption) ?_;(try simp only [zg,zf,Act.put,lyA,lyB,lyC])
       refine dnX ?_
       clear hHeld
       go_wp2_with fail
       go_ret
       exact⟨rfl,HH3.out.ext⟩
  ·obtain rfl:k=n:=by omega
   have HV:V=(decide ((k:Int)≤16) && qo (xs.map Sna.name)):=by
    have q:=HY.out (fun j h=>HK.out.1 j h (by rw [Hn.out];exact h)) (fun j h=>HK.out.2 j h (by rw [Hn.out];exact h))
    rw [←Hn.out]at q
    rw [q];congr 1;rw [decide_eq_decide];omega
   have ht:(xs.map Sna.name).take k=xs.map Sna.name:=List.take_of_length_le (by rw [List.length_map,←Hn.out];exact Nat.le_refl _)
   rw [ht]at HH
   obtain⟨f1,f2⟩:=z7 (HH.out.rowAt 0 rfl)
   have HC:=hiD (HUn.out wr vA vc ((HH.out.rowRd 0 rfl).m0) f1 f2)
   have HVh:=hiD HV
   clear HY H1 H2 HK HUn ht HV
   generalize qo _=ub at *
   by_cases h16:(k:Int)≤16
   ·have q16:decide ((k:Int)≤16)=true:=decide_eq_true h16
    go_upto_region 9 with fail
    go_wp2_with (refine HC.out.mono ?_;rintro e w8 ⟨rfl,e8⟩)
    go_ret
    exact⟨by rw [HVh.out,q16];rfl,HH.out.ext.trans e8⟩
   ·have q16:decide ((k:Int)≤16)=false:=decide_eq_false h16
    go_wp2_with fail
    go_ret
    exact⟨by rw [HVh.out,q16];rfl,HH.out.ext⟩
end Go.Proofs.YtckaneapjpiocaaGreatDoor
