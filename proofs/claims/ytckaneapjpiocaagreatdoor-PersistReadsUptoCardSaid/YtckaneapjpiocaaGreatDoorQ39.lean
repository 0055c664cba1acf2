/- The texts Rf4 in one file. -/
import Derived.Test.YtckaneapjpiocaaGreatDoorQ38
set_option linter.unusedVariables false
set_option linter.unusedSimpArgs false
set_option maxHeartbeats 16000000
set_option maxRecDepth 100000
namespace Go.Proofs.YtckaneapjpiocaaGreatDoor
open Go.RowKit Go.Maps Go.Sort Go.Shelf
theorem am6(l:List Sna)(k:Nat)(h:k < l.length)(hp:zd l[k].name=false):xF l=false:=by
 have:qo (l.map Sna.name)=false:=by
  rw [qo,List.all_eq_false]
  refine⟨k,List.mem_range.2 (by simpa using h),?_⟩
  simp [List.getD,List.getElem?_map,List.getElem?_eq_getElem h,hp]
 rw [xF,this];simp
theorem alK(l:List Sna)(k:Nat)(h:k < l.length)(hp:qO ((l.map Sna.name).take k) l[k].name=true):xF l=false:=by
 have:qo (l.map Sna.name)=false:=by
  rw [qo,List.all_eq_false]
  refine⟨k,List.mem_range.2 (by simpa using h),?_⟩
  simp only [List.getD_eq_getElem?_getD,List.getElem?_map,List.getElem?_eq_getElem h,Option.map_some,Option.getD_some,hp]
  simp
 rw [xF,this];simp
theorem amJ(l:List Sna)(h0: ∀k (h:k < l.length),zd l[k].name=true)(h1: ∀k (h:k < l.length),snB l[k]=true)(h2: ∀j (h:j+1 < l.length),l[j].guid < l[j+1].guid)(h3: ∀k (h:k < l.length),qO ((l.map Sna.name).take k) l[k].name=false):xF l=decide (l.length≤16):=by
 have a:qo (l.map Sna.name)=true:=by
  rw [qo,List.all_eq_true]
  intro k hk
  have hk:k < l.length:=by simpa using List.mem_range.1 hk
  simp only [List.getD_eq_getElem?_getD,List.getElem?_map,List.getElem?_eq_getElem hk,Option.map_some,Option.getD_some,h0 k hk,h3 k hk]
  rfl
 rw [ah9 l h1 h2,a];simp
theorem aiC(w:World)(s:Sl Sna)(h:Sl.At w 0 w.heap.size Sna.cells (Sna.At w 0 w.heap.size) s):
 Calls Tryz.prog 76 #[s.val] w fun e w'=>e= .returned (.bool (xF s.xs))∧Ext w w':=by
 have HA:=hiD h
 obtain⟨A,n,c,xs⟩:=s
 have Hn:=hiD (show n=xs.length from h.len)
 have hm:n≤9223372036854775807:=Nat.le_trans (Nat.le_trans h.le h.cap) (by decide)
 have H1:=hiD (akp xs)
 have H2:=hiD (ahX xs)
 have H3:=hiD (am6 xs)
 have H4:=hiD (alK xs)
 have HY:=hiD (amJ xs)
 dsimp only
 generalize xF xs=V at *
 clear h
 simp only [Sl.val]
 go_enter Tryz.func76,Tryz.ntmps76
 go_wp2_with fail
 go_loopw [3,4,5] (fun v _ _ wr=> ∃k:Nat,k≤n∧v= .int .i64 (k:Int)∧Hid (∀j (h:j < xs.length),j < k→(zd xs[j].name=true∧snB xs[j]=true∧(∀i (hi:j=i+1),(xs[i]'(by omega)).guid < xs[j].guid)∧qO ((xs.map Sna.name).take j) xs[j].name=false))∧Ext w wr) (fun v _ _ _=>n - (intOf v).toNat)
 case atStart=>exact⟨0,Nat.zero_le _,rfl,hiD (fun j h hj=>absurd hj (Nat.not_lt_zero _)),Ext.refl _⟩
 case round=>
  obtain⟨k,hk,rfl,HK,e1⟩:=hrel
  by_cases hlt:k < n
  ·have l1:k < xs.length:=by rw [←Hn.out];exact hlt
   have Hl1:=hiD l1
   obtain⟨b1,o1,hA1,_,hb1,G⟩:=zh (size:=5) (fun _=>rfl) (by omega) HA.out.rd l1
   dsimp only at hA1
   subst hA1
   have HSm:=hiD (HA.out.all _ (List.getElem_mem l1))
   have HB1:=hiD (fun hp=>H1.out k l1 hp)
   have HB0:=hiD (fun hp=>H3.out k l1 hp)
   have HB4:=hiD (fun hp=>H4.out k l1 hp)
   have HR0:=hiD (fun(j:Nat) (hj:k=j+1) (hp: ¬(xs[j]'(by omega)).guid < xs[k].guid)=>show V=false by subst hj;exact H2.out j l1 (by omega))
   have HT:=hiD (fun(h0:zd xs[k].name=true) (h1:snB xs[k]=true) (h2: ∀j (hj:k=j+1),(xs[j]'(by omega)).guid < xs[k].guid) (h3:qO ((xs.map Sna.name).take k) xs[k].name=false)=>show∀j (h:j < xs.length),j < k+1→(zd xs[j].name=true∧snB xs[j]=true∧(∀i (hi:j=i+1),(xs[i]'(by omega)).guid < xs[j].guid)∧qO ((xs.map Sna.name).take j) xs[j].name=false)from
    fun j h hj=>by
     rcases Nat.lt_or_ge j k with h9 | h9
     ·exact HK.out j h h9
     ·obtain rfl:j=k:=by omega
      exact⟨h0,h1,h2,h3⟩)
   have HPv:=hiD (fun(j:Nat) (hj:k=j+1)=>show∃y:Int,(xs[j]'(by omega)).guid=y∧(Lit.int .i64 y).wf=true∧w.cell? ⟨b1,o1+j * 5+1,none⟩=some (.int .i64 y)by
    obtain⟨b2,o2,hh,_,_,G2⟩:=zh (size:=5) (fun _=>rfl) (by omega) HA.out.rd (k:=j) (show j < xs.length by omega)
    obtain⟨rfl,rfl⟩:b1=b2∧o1=o2:=by simpa using hh
    exact⟨_,rfl,(HA.out.all _ (List.getElem_mem (show j < xs.length by omega))).guid,G2 1 _ rfl⟩)
   have HNm:=hiD (fun W=>qN xs[k].name W (Nat.le_trans HSm.out.name (by decide)))
   have HBk:=hiD (fun W (hW:Ext w W)=>acT W xs[k].body.A xs[k].body.n xs[k].body.c xs[k].body.xs HSm.out.body.len (Nat.le_trans HSm.out.bodyS (by decide)) (Rd.at HSm.out.body.rd hW (Nat.le_refl _)) HSm.out.body.all)
   have HPr:=hiD (fun W (hW:Ext w W)=>abW W xs[k].own.A xs[k].own.n xs[k].own.c xs[k].own.xs HSm.out.own.len (Nat.le_trans HSm.out.ownS (by decide)) (Rd.at HSm.out.own.rd hW (Nat.le_refl _)) (fun x hx=>⟨Nat.le_trans (HSm.out.own.all x hx).1 (by decide),Nat.le_trans (HSm.out.own.all x hx).2 (by decide)⟩))
   have HTg:=hiD (fun W (hW:Ext w W)=>alq W xs[k].tags (yG HSm.out.tags hW (Nat.le_refl _) fun _ h=>h))
   have HA1:=hiD (fun W=>show Calls Tryz.prog 30 #[.int .i64 xs[k].guid,.int .i64 1] W fun e w'=>e= .returned (.bool (zE xs[k].guid 1))∧Ext W w' from xI W xs[k].guid 1 (zB HSm.out.guid).1 (zB HSm.out.guid).2)
   have HX:=hiD (show snB xs[k]=(zE xs[k].guid 1 && (decide (bkE xs[k].body.xs=0) && (decide (prE xs[k].own.xs=0) && aad xs[k].tags.xs)))from rfl)
   have HGw:=hiD (fun j u hu=>(Below.cell e1 hb1).trans (G j u hu))
   clear HSm G
   generalize xs[k]=x at *
   obtain⟨nm,gu,⟨bA,bn,bc,bd⟩,⟨tA,tn,tc,td⟩,⟨pA,pn,pc,pd⟩⟩:=x
   dsimp only at HB1 HB0 HB4 HR0 HT HNm HBk HPr HTg HA1 HX
   simp only [Sl.val]at HTg
   generalize snB _=sb at *
   generalize bkE bd=bk at *
   generalize prE pd=pe at *
   generalize aad td=tg at *
   generalize zE gu 1=a1 at *
   generalize zd nm=nb at *
   have hkn:(k:Int) < (n:Int):=by omega
   have HGc:=hiD (show∀j u,([.string nm,.int .i64 gu,.slice bA bn bc,.slice tA tn tc,.slice pA pn pc]:List Value)[j]?=some u→wr.cell? ⟨b1,o1+k * 5+j,none⟩=some u from HGw.out)
   have HH:=hiD ((Heap.start w).later e1)
   clear HGw e1
   go_upto_region 5 with(first | (refine yF HGc.out rfl aaj (by kernel_rfl) rfl rfl rfl ?_) | (refine sSX (hiD (HH.out.alloc _ _)) aaj 0 ?_;clear HH;intro wS HH))
   obtain⟨xb,hxb⟩: ∃b,b=wr.heap.size:=⟨_,rfl⟩
   rw [←hxb]at HH ⊢
   clear hxb HGc
   have HHd:=hiD (show Heap w [.box xb [.string nm,.int .i64 gu,.slice bA bn bc,.slice tA tn tc,.slice pA pn pc]] (World.drew wS)from HH.out.drew)
   clear HH
   refine wp_region_held_drew (S:=Heap w [.box xb [.string nm,.int .i64 gu,.slice bA bn bc,.slice tA tn tc,.slice pA pn pc]]) (by kernel_rfl) HHd.out (fun hHeld=>?_)
   generalize World.drew _=wd at *
   refine tW 0 1 ?_
   refine tH 1 0 ?_
   clear hHeld
   refine oS 2 (fun K hK=>?_)
   go_simp
   refine cX HHd (HNm.out _) ?_
   clear HHd
   intro w3 HH3
   go_wp2_with fail
   refine hK.out _ _ ((HH3).out.only 0 rfl) (fun hHeld=>?_);clear hK K;refine lyX ?_
   cases nb with
   | false=>
     obtain rfl:V=false:=HB0.out rfl
     clear HT HR0 HB1 HB0
     refine zq [(3,some 19,.bool true),(4,some 20,.bool true),(5,some 21,undef),(6,some 22,undef),(7,some 23,undef),(8,some 24,undef),(9,some 25,.bool true),(10,some 26,.bool true),(11,some 27,undef),(12,some 28,undef),(13,some 29,undef),(14,some 30,undef),(15,some 31,undef),(16,some 32,undef),(17,some 33,undef),(18,some 34,undef),(19,some 35,undef),(20,some 36,undef),(21,some 37,undef),(22,some 38,undef),(23,some 39,undef),(24,some 40,.bool true),(25,some 41,.bool true),(26,some 42,undef),(27,some 43,undef),(28,some 44,undef),(29,some 45,undef),(30,some 46,.bool true),(31,some 47,.bool true),(32,some 48,undef),(33,some 49,undef),(34,some 50,undef),(35,some 51,undef),(36,some 52,.bool true),(37,some 53,.bool true),(38,some 54,undef),(39,some 55,undef),(40,some 56,undef),(41,some 57,undef),(42,some 58,.bool true)] rfl (fun _ _ _ _ _ h=>h) (by kernel_rfl) (by assumption) ?_;(try simp only [zg,zf,Act.put,lyA,lyB,lyC])
     refine dnX ?_
     clear hHeld
     go_wp2_with fail
     go_ret
     exact⟨rfl,HH3.out.ext⟩
   | true=>
     refine tW 3 3 ?_
     refine tH 6 0 ?_
     clear hHeld
     refine oS 7 (fun K hK=>?_)
     go_simp
     refine cX HH3 (HA1.out _) ?_
     clear HH3
     intro w4 HH4
     go_wp2_with fail
     refine hK.out _ _ ((HH4).out.only 0 rfl) (fun hHeld=>?_);clear hK K;refine lyX ?_
     cases a1 with
     | false=>
       obtain rfl:V=false:=HB1.out (by rw [HX.out];rfl)
       clear HT HR0 HB1 HB0
       refine zq [(8,some 24,.bool true),(9,some 25,.bool true),(10,some 26,.bool true),(11,some 27,undef),(12,some 28,undef),(13,some 29,undef),(14,some 30,undef),(15,some 31,undef),(16,some 32,undef),(17,some 33,undef),(18,some 34,undef),(19,some 35,undef),(20,some 36,undef),(21,some 37,undef),(22,some 38,undef),(23,some 39,undef),(24,some 40,.bool true),(25,some 41,.bool true),(26,some 42,undef),(27,some 43,undef),(28,some 44,undef),(29,some 45,undef),(30,some 46,.bool true),(31,some 47,.bool true),(32,some 48,undef),(33,some 49,undef),(34,some 50,undef),(35,some 51,undef),(36,some 52,.bool true),(37,some 53,.bool true),(38,some 54,undef),(39,some 55,undef),(40,some 56,undef),(41,some 57,undef),(42,some 58,.bool true)] rfl (fun _ _ _ _ _ h=>h) (by kernel_rfl) (by assumption) ?_;(try simp only [zg,zf,Act.put,lyA,lyB,lyC])
       refine dnX ?_
       clear hHeld
       go_wp2_with fail
       go_ret
       exact⟨rfl,HH4.out.ext⟩
     | true=>
       refine tW 8 4 ?_
       by_cases hk0:k=0
       ·subst hk0
        have HR:=hiD (show∀j (hj:0=j+1),(xs[j]'(by omega)).guid < gu from fun j hj=>by omega)
        refine tW 12 2 ?_
        refine sW 14 9 ?_
        refine tW 23 4 ?_
        refine tH 27 0 ?_
        clear hHeld
        refine oS 28 (fun K hK=>?_)
        go_simp
        refine cX HH4 (HTg.out _ HH4.out.ext) ?_
        clear HH4
        intro w5 HH5
        go_wp2_with fail
        refine hK.out _ _ ((HH5).out.only 0 rfl) (fun hHeld=>?_);clear hK K;refine lyX ?_
        cases tg with
        | false=>
          obtain rfl:V=false:=HB1.out (by rw [HX.out];simp)
          clear HT HR0 HB1 HB0
          refine zq [(29,some 45,.bool true),(30,some 46,.bool true),(31,some 47,.bool true),(32,some 48,undef),(33,some 49,undef),(34,some 50,undef),(35,some 51,undef),(36,some 52,.bool true),(37,some 53,.bool true),(38,some 54,undef),(39,some 55,undef),(40,some 56,undef),(41,some 57,undef),(42,some 58,.bool true)] rfl (fun _ _ _ _ _ h=>h) (by kernel_rfl) (by assumption) ?_;(try simp only [zg,zf,Act.put,lyA,lyB,lyC])
          refine dnX ?_
          clear hHeld
          go_wp2_with fail
          go_ret
          exact⟨rfl,HH5.out.ext⟩
        | true=>
          refine tW 29 4 ?_
          refine tH 33 0 ?_
          clear hHeld
          refine oS 34 (fun K hK=>?_)
          go_simp
          refine cX HH5 (HBk.out _ HH5.out.ext) ?_
          clear HH5
          intro w6 HH6
          go_wp2_with fail
          refine hK.out _ _ ((HH6).out.only 0 rfl) (fun hHeld=>?_);clear hK K;refine lyX ?_
          by_cases hE35:bk=0
          ·subst hE35
           refine tW 35 4 ?_
           refine tH 39 0 ?_
           clear hHeld
           refine oS 40 (fun K hK=>?_)
           go_simp
           refine cX HH6 (HPr.out _ HH6.out.ext) ?_
           clear HH6
           intro w7 HH7
           go_wp2_with fail
           refine hK.out _ _ ((HH7).out.only 0 rfl) (fun hHeld=>?_);clear hK K;refine lyX ?_
           by_cases hE41:pe=0
           ·subst hE41
            refine tW 41 1 ?_
            refine zq [(42,some 58,.bool false)] rfl (fun _ _ _ _ _ h=>h) (by kernel_rfl) (by assumption) ?_;(try simp only [zg,zf,Act.put,lyA,lyB,lyC])
            refine dnX ?_
            clear hHeld
            have HHx:=HH7
            clear HH7
            go_wp2_with fail
            go_loopw [5] (fun v wr2=>v= .int .i64 0∧Hid (Heap w [.box xb [.string nm,.int .i64 gu,.slice bA bn bc,.slice tA tn tc,.slice pA pn pc]] wr2)) (fun _ _=>0)
            case atStart=>exact⟨rfl,HHx⟩
            case round=>
             clear HHx
             obtain⟨rfl,HHx⟩:=hrel
             have HK2:=hiD (HT.out (by first | rfl | trivial) (by rw [HX.out];rfl) HR.out (by simp [qO]))
             clear HT HR0 HB1 HB0 HR
             go_wp2_with fail
             go_roundw
             case rel=>exact⟨1,by omega,rfl,HK2,HHx.out.ext⟩
             case measure=>(first | (simp [intOf];done) | (simp [intOf];omega))
           ·have q41:(pe == 0)=false:=by rw [beq_eq_false_iff_ne];exact hE41
            have q41b:(pe != 0)=true:=by rw [bne_iff_ne];exact hE41
            have q41c:decide (pe=0)=false:=decide_eq_false hE41
            refine tW 41 1 ?_
            obtain rfl:V=false:=HB1.out (by rw [HX.out,q41c];simp)
            clear HT HR0 HB1 HB0
            refine zq [(42,some 58,.bool true)] rfl (fun _ _ _ _ _ h=>h) (by kernel_rfl) (by assumption) ?_;(try simp only [zg,zf,Act.put,lyA,lyB,lyC])
            refine dnX ?_
            clear hHeld
            go_wp2_with fail
            go_ret
            exact⟨rfl,HH7.out.ext⟩
          ·have q35:(bk == 0)=false:=by rw [beq_eq_false_iff_ne];exact hE35
           have q35b:(bk != 0)=true:=by rw [bne_iff_ne];exact hE35
           have q35c:decide (bk=0)=false:=decide_eq_false hE35
           refine tW 35 1 ?_
           obtain rfl:V=false:=HB1.out (by rw [HX.out,q35c];simp)
           clear HT HR0 HB1 HB0
           refine zq [(36,some 52,.bool true),(37,some 53,.bool true),(38,some 54,undef),(39,some 55,undef),(40,some 56,undef),(41,some 57,undef),(42,some 58,.bool true)] rfl (fun _ _ _ _ _ h=>h) (by kernel_rfl) (by assumption) ?_;(try simp only [zg,zf,Act.put,lyA,lyB,lyC])
           refine dnX ?_
           clear hHeld
           go_wp2_with fail
           go_ret
           exact⟨rfl,HH6.out.ext⟩
       ·obtain⟨j,rfl⟩: ∃j,k=j+1:=⟨k - 1,by omega⟩
        obtain⟨y,hy,hyb,d0⟩:=HPv.out j rfl
        have HRy:=hiD (fun hp=>HR0.out j rfl (by rw [hy];exact hp))
        have HRz:=hiD (fun(hp:y < gu) (i:Nat) (hi:j+1=i+1)=>show(xs[i]'(by omega)).guid < gu from by obtain rfl:i=j:=(by omega);rw [hy];exact hp)
        have p0: ∀W,Heap w [.box xb [.string nm,.int .i64 gu,.slice bA bn bc,.slice tA tn tc,.slice pA pn pc]] W→W.cell? ⟨b1,o1+j * 5+1,none⟩=some (.int .i64 y):=fun W hW=>(Below.cell hW.ext (World.block_lt_of_cell? w _ d0)).trans d0
        clear hy d0
        have q3:IntKind.i64.wrap (j:Int)=(j:Int):=IntWalk.i64_in _ (by omega)
        have q4:(0:Int) < (j:Int)+1:=by omega
        have q5:(j:Int) < (n:Int):=by omega
        refine tW 12 3 ?_
        refine tH 15 0 ?_
        refine tW 16 6 ?_
        clear p0
        by_cases hl:y < gu
        ·have hq:decide (gu≤y)=false:=decide_eq_false (by omega)
         have HR:=hiD (HRz.out hl)
         clear HRy HRz
         refine tW 22 5 ?_
         refine tH 27 0 ?_
         clear hHeld
         refine oS 28 (fun K hK=>?_)
         go_simp
         refine cX HH4 (HTg.out _ HH4.out.ext) ?_
         clear HH4
         intro w8 HH8
         go_wp2_with fail
         refine hK.out _ _ ((HH8).out.only 0 rfl) (fun hHeld=>?_);clear hK K;refine lyX ?_
         cases tg with
         | false=>
           obtain rfl:V=false:=HB1.out (by rw [HX.out];simp)
           clear HT HR0 HB1 HB0
           refine zq [(29,some 45,.bool true),(30,some 46,.bool true),(31,some 47,.bool true),(32,some 48,undef),(33,some 49,undef),(34,some 50,undef),(35,some 51,undef),(36,some 52,.bool true),(37,some 53,.bool true),(38,some 54,undef),(39,some 55,undef),(40,some 56,undef),(41,some 57,undef),(42,some 58,.bool true)] rfl (fun _ _ _ _ _ h=>h) (by kernel_rfl) (by assumption) ?_;(try simp only [zg,zf,Act.put,lyA,lyB,lyC])
           refine dnX ?_
           clear hHeld
           go_wp2_with fail
           go_ret
           exact⟨rfl,HH8.out.ext⟩
         | true=>
           refine tW 29 4 ?_
           refine tH 33 0 ?_
           clear hHeld
           refine oS 34 (fun K hK=>?_)
           go_simp
           refine cX HH8 (HBk.out _ HH8.out.ext) ?_
           clear HH8
           intro w9 HH9
           go_wp2_with fail
           refine hK.out _ _ ((HH9).out.only 0 rfl) (fun hHeld=>?_);clear hK K;refine lyX ?_
           by_cases hE35:bk=0
           ·subst hE35
            refine tW 35 4 ?_
            refine tH 39 0 ?_
            clear hHeld
            refine oS 40 (fun K hK=>?_)
            go_simp
            refine cX HH9 (HPr.out _ HH9.out.ext) ?_
            clear HH9
            intro w10 HH10
            go_wp2_with fail
            refine hK.out _ _ ((HH10).out.only 0 rfl) (fun hHeld=>?_);clear hK K;refine lyX ?_
            by_cases hE41:pe=0
            ·subst hE41
             refine tW 41 1 ?_
             refine zq [(42,some 58,.bool false)] rfl (fun _ _ _ _ _ h=>h) (by kernel_rfl) (by assumption) ?_;(try simp only [zg,zf,Act.put,lyA,lyB,lyC])
             refine dnX ?_
             clear hHeld
             have HHx:=HH10
             clear HH10
             go_wp2_with fail
             go_loopw [5] (fun v wr2=> ∃m:Nat,m≤j+1∧v= .int .i64 (m:Int)∧Hid (∀y∈(xs.map Sna.name).take m,y≠nm)∧Hid (Heap w [.box xb [.string nm,.int .i64 gu,.slice bA bn bc,.slice tA tn tc,.slice pA pn pc]] wr2)) (fun v _=>j+1 - (intOf v).toNat)
             case atStart=>exact⟨0,Nat.zero_le _,rfl,hiD (by simp),HHx⟩
             case round=>
              clear HHx
              obtain⟨m,hm1,rfl,HM,HHx⟩:=hrel
              by_cases hml:m < j+1
              ·have lm:m < xs.length:=by have:=Hl1.out;omega
               obtain⟨b2,o2,hh,_,_,G2⟩:=zh (size:=5) (fun _=>rfl) (by omega) HA.out.rd lm
               obtain⟨rfl,rfl⟩:b1=b2∧o1=o2:=by simpa using hh
               have q0:=G2 0 _ rfl
               simp only [Nat.add_zero]at q0
               have HTm:=hiD (show(xs.map Sna.name).take (m+1)=(xs.map Sna.name).take m++ [xs[m].name]by rw [List.take_succ_eq_append_getElem (by simpa using lm)];simp)
               have HMm:=hiD (show xs[m].name∈(xs.map Sna.name).take (j+1)from List.mem_take_iff_getElem.2 ⟨m,by have:=Hl1.out;simp;omega,by simp⟩)
               generalize xs[m]=z at *
               have z0: ∀W,Heap w [.box xb [.string nm,.int .i64 gu,.slice bA bn bc,.slice tA tn tc,.slice pA pn pc]] W→W.cell? ⟨b1,o1+m * 5,none⟩=some (.string z.name):=fun W hW=>(Below.cell hW.ext (World.block_lt_of_cell? w _ q0)).trans q0
               have hmn:(m:Int) < (n:Int):=by have:=Hl1.out;have:=Hn.out;omega
               have hmj:(m:Int) < (j:Int)+1:=by omega
               clear q0 G2 hh
               have HDm:=hiD (yW z.name nm)
               generalize z.name=zn at *
               go_upto_region 10 with fail
               have HHe:=hiD HHx.out.drew
               clear HHx
               refine wp_region_held_drew (S:=Heap w [.box xb [.string nm,.int .i64 gu,.slice bA bn bc,.slice tA tn tc,.slice pA pn pc]]) (by kernel_rfl) HHe.out (fun hHeld=>?_)
               generalize World.drew _=we at *
               refine tW 0 6 ?_
               refine tH 6 0 ?_
               clear z0
               by_cases hz:zn=nm
               ·have hd:(zn.toList == nm.toList)=true:=by rw [HDm.out];exact decide_eq_true hz
                obtain rfl:V=false:=HB4.out (by rw [abu];rw [←hz];exact HMm.out)
                clear HT HR0 HB1 HB0 HR hz
                refine tW 7 1 ?_
                refine dnX ?_
                clear hHeld
                go_wp2_with fail
                go_ret
                exact⟨rfl,HHe.out.ext⟩
               ·have hd:(zn.toList == nm.toList)=false:=by rw [HDm.out];exact decide_eq_false hz
                have HM2:=hiD (show∀y∈(xs.map Sna.name).take (m+1),y≠nm by
                 rw [HTm.out]
                 intro y hy
                 rcases List.mem_append.1 hy with hy | hy
                 ·exact HM.out y hy
                 ·simp only [List.mem_singleton]at hy;subst hy;exact hz)
                clear hz
                refine tW 7 1 ?_
                refine dnX ?_
                clear hHeld
                go_wp2_with fail
                go_roundw
                case rel=>exact⟨m+1,by omega,by go_num,HM2,HHe⟩
                case measure=>(first | (simp [intOf];done) | (simp [intOf];omega))
              ·obtain rfl:m=j+1:=by omega
               have HK2:=hiD (HT.out (by first | rfl | trivial) (by rw [HX.out];rfl) HR.out (by
                cases hq:qO ((xs.map Sna.name).take (j+1)) nm with
                | false=>rfl
                | true=>exact absurd rfl (HM.out nm ((abu _ _).1 hq))))
               clear HT HR0 HB1 HB0 HR HB4
               go_wp2_with fail
               go_roundw
               case rel=>exact⟨_,by omega,by go_num,HK2,HHx.out.ext⟩
               case measure=>(first | (simp [intOf];done) | (simp [intOf];omega))
            ·have q41:(pe == 0)=false:=by rw [beq_eq_false_iff_ne];exact hE41
             have q41b:(pe != 0)=true:=by rw [bne_iff_ne];exact hE41
             have q41c:decide (pe=0)=false:=decide_eq_false hE41
             refine tW 41 1 ?_
             obtain rfl:V=false:=HB1.out (by rw [HX.out,q41c];simp)
             clear HT HR0 HB1 HB0
             refine zq [(42,some 58,.bool true)] rfl (fun _ _ _ _ _ h=>h) (by kernel_rfl) (by assumption) ?_;(try simp only [zg,zf,Act.put,lyA,lyB,lyC])
             refine dnX ?_
             clear hHeld
             go_wp2_with fail
             go_ret
             exact⟨rfl,HH10.out.ext⟩
           ·have q35:(bk == 0)=false:=by rw [beq_eq_false_iff_ne];exact hE35
            have q35b:(bk != 0)=true:=by rw [bne_iff_ne];exact hE35
            have q35c:decide (bk=0)=false:=decide_eq_false hE35
            refine tW 35 1 ?_
            obtain rfl:V=false:=HB1.out (by rw [HX.out,q35c];simp)
            clear HT HR0 HB1 HB0
            refine zq [(36,some 52,.bool true),(37,some 53,.bool true),(38,some 54,undef),(39,some 55,undef),(40,some 56,undef),(41,some 57,undef),(42,some 58,.bool true)] rfl (fun _ _ _ _ _ h=>h) (by kernel_rfl) (by assumption) ?_;(try simp only [zg,zf,Act.put,lyA,lyB,lyC])
            refine dnX ?_
            clear hHeld
            go_wp2_with fail
            go_ret
            exact⟨rfl,HH9.out.ext⟩
        ·have hq:decide (gu≤y)=true:=decide_eq_true (by omega)
         refine tW 22 1 ?_
         have hl2:gu≤y:=by omega
         obtain rfl:V=false:=HRy.out (by first | exact hl2 | omega)
         clear HT HR0 HB1 HB0
         refine zq [(23,some 39,.bool true),(24,some 40,.bool true),(25,some 41,.bool true),(26,some 42,undef),(27,some 43,undef),(28,some 44,undef),(29,some 45,undef),(30,some 46,.bool true),(31,some 47,.bool true),(32,some 48,undef),(33,some 49,undef),(34,some 50,undef),(35,some 51,undef),(36,some 52,.bool true),(37,some 53,.bool true),(38,some 54,undef),(39,some 55,undef),(40,some 56,undef),(41,some 57,undef),(42,some 58,.bool true)] rfl (fun _ _ _ _ _ h=>h) (by kernel_rfl) (by assumption) ?_;(try simp only [zg,zf,Act.put,lyA,lyB,lyC])
         refine dnX ?_
         clear hHeld
         go_wp2_with fail
         go_ret
         exact⟨rfl,HH4.out.ext⟩
  ·obtain rfl:k=n:=by omega
   have HV:V=decide ((k:Int)≤16):=by
    have q:=HY.out (fun j h=>(HK.out j h (by rw [Hn.out];exact h)).1) (fun j h=>(HK.out j h (by rw [Hn.out];exact h)).2.1) (fun j h=>(HK.out (j+1) h (by rw [Hn.out];exact h)).2.2.1 j rfl) (fun j h=>(HK.out j h (by rw [Hn.out];exact h)).2.2.2)
    rw [←Hn.out]at q
    rw [q,decide_eq_decide];omega
   clear HY H1 H2 H3 H4 HK
   go_wp2_with fail
   go_ret
   exact⟨by rw [HV];rfl,e1⟩
end Go.Proofs.YtckaneapjpiocaaGreatDoor
