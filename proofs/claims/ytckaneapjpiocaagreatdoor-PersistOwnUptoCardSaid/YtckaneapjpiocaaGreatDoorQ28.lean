/- The texts Tr8 in one file. -/
import Derived.Test.YtckaneapjpiocaaGreatDoorQ26
import Derived.Test.YtckaneapjpiocaaGreatDoorQ27
set_option linter.unusedVariables false
set_option linter.unusedSimpArgs false
set_option maxHeartbeats 16000000
set_option maxRecDepth 100000
namespace Go.Proofs.YtckaneapjpiocaaGreatDoor
open Go.RowKit Go.Maps Go.Sort Go.Shelf
theorem akP(sets:List Dst)(x:Dst):upB sets x=(!(xN x.path).isSome || decide (0≤atS sets ((xN x.path).getD ⟨#[]⟩))):=by
 unfold upB
 cases xN x.path <;> rfl
theorem akE(l:List Dst)(k:Nat)(h:k < l.length)(hp:seB l l[k]=false):yV l=false:=by
 rw [yV,aaf (seB l) l k h hp];simp
theorem aib(l:List Dst)(j:Nat)(h:j+1 < l.length)(hp:lessB l[j].path l[j+1].path=false):yV l=false:=by
 have:yR (l.map Dst.path)=false:=aca _ j (by simpa using h) (by simpa using hp)
 rw [yV,this];simp
theorem ahZ(l:List Dst)(h0:l.length≤32)(ha:0≤atS l .empty)(h1: ∀k (h:k < l.length),seB l l[k]=true)(h2: ∀j (h:j+1 < l.length),lessB l[j].path l[j+1].path=true):yV l=true:=by
 have a:l.all (seB l)=true:=List.all_eq_true.2 fun x hx=>by
  obtain⟨k,hk,rfl⟩:=List.getElem_of_mem hx
  exact h1 k hk
 have b:yR (l.map Dst.path)=true:=aa1 _ fun k h=>by
  have:=h2 k (by simpa using h)
  simpa using this
 rw [yV,a,b];simp [h0,ha]
theorem amp(w:World)(t:Tnt)(hM:xf w)(h:Sl.At w 0 w.heap.size Dst.cells (Dst.At w 0 w.heap.size) t.sets):
 Calls Tryz.prog 81 #[.agg t.cells.toArray] w fun e w'=>e= .returned (.bool (yV t.sets.xs))∧Ext w w':=by
 have HMx:=hiD hM
 have HA:=hiD h
 have HFi:=hiD (fun W (hW:Ext w W) s=>aha W t s (yG h hW (Nat.le_refl _) fun _ h=>Dst.At.on h hW (Nat.le_refl _)))
 have HOg:=hiD (fun W (hW:Ext w W) x hx=>ajx W t x (hM.ext hW) (yG h hW (Nat.le_refl _) fun _ h=>Dst.At.on h hW (Nat.le_refl _)) hx)
 have H1:=hiD (akE t.sets.xs)
 have H2:=hiD (aib t.sets.xs)
 have HY:=hiD (ahZ t.sets.xs)
 have HVd:=hiD (show yV t.sets.xs=(decide (t.sets.xs.length≤32) && (decide (0≤atS t.sets.xs .empty) && (t.sets.xs.all (seB t.sets.xs) && yR (t.sets.xs.map Dst.path))))from rfl)
 have HSeq:=hiD (fun x=>show seB t.sets.xs x=(zF x.path && (upB t.sets.xs x && (decide (prE x.own.xs=0) && (decide (bkE x.body.xs=0) && (xF x.snaps.xs && orB t.sets.xs x)))))from rfl)
 have HUeq:=hiD (akP t.sets.xs)
 generalize yV t.sets.xs=V at *
 clear h hM
 obtain⟨name,quota,next,⟨A,n,c,xs⟩,⟨gA,gn,gc,gs⟩,⟨aA,an,ac,ax⟩,⟨lA,ln,lc,ls⟩⟩:=t
 have Hn:=hiD (show n=xs.length from HA.out.len)
 have hm:n≤9223372036854775807:=Nat.le_trans (Nat.le_trans HA.out.le HA.out.cap) (by decide)
 dsimp only at HFi HOg H1 H2 HY HVd HSeq HUeq
 simp only [Tnt.cells,Sl.val]at HFi HOg ⊢
 generalize hse:seB xs=seF at *
 generalize hup:upB xs=upF at *
 generalize hor:orB xs=orF at *
 generalize hat:atS xs=atF at *
 clear hse hup hor hat
 by_cases h32:32 < n
 ·obtain rfl:V=false:=by rw [HVd.out,decide_eq_false (by have:=Hn.out;omega)];rfl
  have hb:(32:Int) < (n:Int):=by omega
  clear HFi HOg
  go_enter Tryz.func81,Tryz.ntmps81
  go_upto_region 1 with fail
  generalize hwH:World.alloc w _=w1;have HH:=hiD (Heap.one hwH);clear hwH
  have c3:=(HH.out.boxAt 0 rfl).cell 3 _ rfl
  go_wp2_with fail
  go_ret
  exact⟨rfl,HH.out.ext⟩
 ·have hb: ¬(32:Int) < (n:Int):=by omega
  have HFe:=hiD (fun W (hW:Ext w W)=>HFi.out W hW .empty)
  by_cases hfe:0≤atF .empty
  ·have HYe:=hiD (HY.out (by have:=Hn.out;omega) hfe)
   generalize hfv:atF .empty=fe at *
   have qf:decide (fe < 0)=false:=decide_eq_false (by omega)
   clear hfv HVd HY hfe
   go_enter Tryz.func81,Tryz.ntmps81
   go_upto_region 1 with fail
   generalize hwH:World.alloc w _=w1;have HH:=hiD (Heap.one hwH);clear hwH
   obtain⟨c0,c1,c2,c3,c4,c5,c6,-⟩:=za (HH.out.boxAt 0 rfl)
   go_upto_region 3 with(refine(HFe.out _ HH.out.ext).mono ?_;rintro e w2 ⟨rfl,e2⟩;clear c0 c1 c2 c3 c4 c5 c6;have HH2:=hiD (HH.out.later e2);clear HH e2;have HH:=HH2;clear HH2)
   obtain⟨tb,htb⟩: ∃b,b=w.heap.size:=⟨_,rfl⟩
   rw [←htb]at HH ⊢
   clear HFe qf htb
   go_upto_region 4 with(refine l1X HH 0 ?_)
   have HH0:=hiD (show Heap w [.box tb [.string name,.int .i64 quota,.int .i64 next,.slice A n c,.slice gA gn gc,.slice aA an ac,.slice lA ln lc]] _ from HH.out)
   clear HH
   go_loopw [3,4,5,6,19,24,30,60] (fun _ _ _ _ v _ _ _ wr=> ∃k:Nat,k≤n∧v= .int .i64 (k:Int)∧Hid ((∀j (h:j < xs.length),j < k→seF xs[j]=true)∧ ∀j (h:j+1 < xs.length),j+1 < k→lessB xs[j].path xs[j+1].path=true)∧Hid (Heap w [.box tb [.string name,.int .i64 quota,.int .i64 next,.slice A n c,.slice gA gn gc,.slice aA an ac,.slice lA ln lc]] wr)) (fun _ _ _ _ v _ _ _ _=>n - (intOf v).toNat)
   case atStart=>exact⟨0,Nat.zero_le _,rfl,hiD ⟨fun j h hj=>absurd hj (Nat.not_lt_zero _),fun j h hj=>absurd hj (Nat.not_lt_zero _)⟩,HH0⟩
   case round=>
    clear HH0
    obtain⟨k,hk,rfl,HK,HH⟩:=hrel
    by_cases hlt:k < n
    ·have l1:k < xs.length:=by rw [←Hn.out];exact hlt
     obtain⟨b1,o1,hA1,_,hb1,G⟩:=zh (size:=5) (fun _=>rfl) (by omega) HA.out.rd l1
     dsimp only at hA1
     subst hA1
     have HSm:=hiD (HA.out.all _ (List.getElem_mem l1))
     have HB1:=hiD (fun hp=>H1.out k l1 hp)
     have HR0:=hiD (fun(j:Nat) (hj:k=j+1) (hp:lessB (xs[j]'(by omega)).path xs[k].path=false)=>show V=false by subst hj;exact H2.out j l1 hp)
     have HT:=hiD (fun(h1:seF xs[k]=true) (h2: ∀j (hj:k=j+1),lessB (xs[j]'(by omega)).path xs[k].path=true)=>show(∀j (h:j < xs.length),j < k+1→seF xs[j]=true)∧ ∀j (h:j+1 < xs.length),j+1 < k+1→lessB xs[j].path xs[j+1].path=true from
      ⟨fun j h hj=>by
        rcases Nat.lt_or_ge j k with h3 | h3
        ·exact HK.out.1 j h h3
        ·obtain rfl:j=k:=by omega
         exact h1,fun j h hj=>by
        rcases Nat.lt_or_ge (j+1) k with h3 | h3
        ·exact HK.out.2 j h h3
        ·obtain rfl:k=j+1:=by omega
         exact h2 j rfl⟩)
     have HPv:=hiD (fun(j:Nat) (hj:k=j+1)=>show∃y:ByteArray,(xs[j]'(by omega)).path=y∧w.cell? ⟨b1,o1+j * 5,none⟩=some (.string y)by
      obtain⟨b2,o2,hh,_,_,G2⟩:=zh (size:=5) (fun _=>rfl) (by omega) HA.out.rd (k:=j) (show j < xs.length by omega)
      obtain⟨rfl,rfl⟩:b1=b2∧o1=o2:=by simpa using hh
      exact⟨_,rfl,G2 0 _ rfl⟩)
     have HPa:=hiD (fun W (hW:Ext w W)=>aaZ xs[k].path W (HMx.out.ext hW) (Nat.lt_of_le_of_lt HSm.out.path (by decide)))
     have HPn:=hiD (fun W (hW:Ext w W)=>aiO xs[k].path W (HMx.out.ext hW) HSm.out.path)
     have HFu:=hiD (fun W (hW:Ext w W)=>HFi.out W hW ((xN xs[k].path).getD ⟨#[]⟩))
     have HPr:=hiD (fun W (hW:Ext w W)=>aaH W xs[k].own.A xs[k].own.n xs[k].own.c xs[k].own.xs HSm.out.own.len (Nat.le_trans HSm.out.ownS (by decide)) (Rd.at HSm.out.own.rd hW (Nat.le_refl _)) (fun x hx=>⟨Nat.le_trans (HSm.out.own.all x hx).1 (by decide),Nat.le_trans (HSm.out.own.all x hx).2 (by decide)⟩))
     have HBk:=hiD (fun W (hW:Ext w W)=>abh W xs[k].body.A xs[k].body.n xs[k].body.c xs[k].body.xs HSm.out.body.len (Nat.le_trans HSm.out.bodyS (by decide)) (Rd.at HSm.out.body.rd hW (Nat.le_refl _)) HSm.out.body.all)
     have HSn:=hiD (fun W (hW:Ext w W)=>akI W xs[k].snaps (yG HSm.out.snaps hW (Nat.le_refl _) fun _ h=>Sna.At.on h hW (Nat.le_refl _)) HSm.out.snapsS)
     have HOr:=hiD (fun W (hW:Ext w W)=>HOg.out W hW xs[k] HSm.out.origin)
     have HX:=hiD (HSeq.out xs[k])
     have HU:=hiD (HUeq.out xs[k])
     have HGw:=hiD (fun i u hu=>(Below.cell HH.out.ext hb1).trans (G i u hu))
     clear HSm G
     generalize xs[k]=x at *
     obtain⟨path,orig,⟨bA,bn,bc,bd⟩,⟨fA,fn,fc,fs⟩,⟨pA,pn,pc,ps⟩⟩:=x
     dsimp only at HB1 HR0 HT HPa HPn HFu HPr HBk HX HU
     simp only [Sl.val,Dst.cells]at HSn HOr
     generalize seF _=sb at *
     generalize upF _=ub at *
     generalize orF _=ob at *
     generalize xF fs=sn at *
     generalize bkE bd=bk at *
     generalize prE ps=pe at *
     generalize zF path=pb at *
     generalize atF ((xN path).getD ⟨#[]⟩)=fi at *
     generalize (xN path).getD ⟨#[]⟩=up at *
     generalize (xN path).isSome=is at *
     have hkn:(k:Int) < (n:Int):=by omega
     have HGc:=hiD (show∀i u,([.string path,.string orig,.slice bA bn bc,.slice fA fn fc,.slice pA pn pc]:List Value)[i]?=some u→wr.cell? ⟨b1,o1+k * 5+i,none⟩=some u from HGw.out)
     clear HGw
     go_upto_region 6 with(first | (refine yF HGc.out rfl xq (by kernel_rfl) rfl rfl rfl ?_) | (refine sSX (hiD (HH.out.alloc _ _)) xq 0 ?_;clear HH;intro wS HH))
     obtain⟨xb,hxb⟩: ∃b,b=wr.heap.size:=⟨_,rfl⟩
     rw [←hxb]at HH ⊢
     clear hxb HGc
     go_upto_region 7 with(first | (refine l1X HH 0 ?_) | (refine(HPn.out _ HH.out.ext).mono ?_;rintro e w6 ⟨rfl,e6⟩;have HH6:=hiD (HH.out.later e6);clear HH e6;have HH:=HH6;clear HH6))
     have HHd:=hiD (show Heap w [.box xb [.string path,.string orig,.slice bA bn bc,.slice fA fn fc,.slice pA pn pc],.box tb [.string name,.int .i64 quota,.int .i64 next,.slice (some ⟨b1,o1,none⟩) n c,.slice gA gn gc,.slice aA an ac,.slice lA ln lc]] (World.drew w6)from HH.out.drew)
     clear HH HPn
     refine wp_region_held_drew (S:=Heap w [.box xb [.string path,.string orig,.slice bA bn bc,.slice fA fn fc,.slice pA pn pc],.box tb [.string name,.int .i64 quota,.int .i64 next,.slice (some ⟨b1,o1,none⟩) n c,.slice gA gn gc,.slice aA an ac,.slice lA ln lc]]) (by kernel_rfl) HHd.out (fun hHeld=>?_)
     generalize World.drew _=wd at *
     refine tW 0 1 ?_
     refine tH 1 0 ?_
     clear hHeld
     refine oS 2 (fun K hK=>?_)
     go_simp
     refine cX HHd (HPa.out _ HHd.out.ext) ?_
     clear HHd
     intro w3 HH3
     go_wp2_with fail
     refine hK.out _ _ (HH3).out (fun hHeld=>?_);clear hK K;refine lyX ?_
     cases pb with
     | false=>
       obtain rfl:V=false:=HB1.out (by rw [HX.out];rfl)
       clear HT HR0 HB1
       refine zq [(3,some 34,.bool true),(4,some 35,.bool true),(5,some 36,undef),(6,some 37,undef),(7,some 38,undef),(8,some 39,undef),(9,some 40,undef),(10,some 41,undef),(11,some 42,undef),(12,some 43,undef),(13,some 44,undef),(14,some 45,undef),(15,some 46,undef),(16,some 47,undef),(17,some 48,undef),(18,some 49,undef),(19,some 50,.bool true),(20,some 51,.bool true),(21,some 52,undef),(22,some 53,undef),(23,some 54,undef),(24,some 55,undef),(25,some 56,undef),(26,some 57,undef),(27,some 58,undef),(28,some 59,.bool true),(29,some 30,.bool true)] rfl (fun _ _ _ _ _ h=>h) (by kernel_rfl) (by assumption) ?_;(try simp only [zg,zf,Act.put,lyA,lyB,lyC])
       refine dnX ?_
       clear hHeld
       go_wp2_with fail
       go_ret
       exact⟨rfl,HH3.out.ext⟩
     | true=>
       refine tW 3 3 ?_
       by_cases hk0:k=0
       ·subst hk0
        have HR:=hiD (show∀j (hj:0=j+1),lessB (xs[j]'(by omega)).path path=true from fun j hj=>by omega)
        refine tW 6 2 ?_
        refine sW 8 10 ?_
        refine tW 18 3 ?_
        cases is with
        | false=>
          refine tW 21 1 ?_
          have HUt:=hiD (show ub=true by rw [HU.out];rfl)
          refine zq [(22,some 53,.bool false),(23,some 54,undef),(24,some 55,undef),(25,some 56,undef),(26,some 57,undef),(27,some 58,.bool false),(28,some 59,.bool false),(29,some 30,.bool false)] rfl (fun _ _ _ _ _ h=>h) (by kernel_rfl) (by assumption) ?_;(try simp only [zg,zf,Act.put,lyA,lyB,lyC])
          refine dnX ?_
          clear hHeld
          have HH:=HH3
          clear HH3
          go_upto_region 9 with fail
          obtain⟨c0,c1,c2,c3,c4,-⟩:=zb (HH.out.boxAt 0 rfl)
          obtain⟨d0,d1,d2,d3,d4,d5,d6,-⟩:=za (HH.out.boxAt 1 rfl)
          rw [HUt.out]at HX
          clear HUt
          by_cases hpe:pe=0
          ·subst hpe
           by_cases hbk:bk=0
           ·subst hbk
            cases sn with
            | false=>
              obtain rfl:V=false:=HB1.out (by rw [HX.out];simp)
              clear HT HR0 HB1 HR HX
              go_wp2_with (first | (go_at_call 117;refine cX HH (HPr.out _ HH.out.ext) ?_;clear HH;intro wp HH;clear c0 c1 c2 c3 c4 d0 d1 d2 d3 d4 d5 d6;obtain⟨c0,c1,c2,c3,c4,-⟩:=zb (HH.out.boxAt 0 rfl);obtain⟨d0,d1,d2,d3,d4,d5,d6,-⟩:=za (HH.out.boxAt 1 rfl)) | (go_at_call 139;refine cX HH (HBk.out _ HH.out.ext) ?_;clear HH;intro wq HH;clear c0 c1 c2 c3 c4 d0 d1 d2 d3 d4 d5 d6;obtain⟨c0,c1,c2,c3,c4,-⟩:=zb (HH.out.boxAt 0 rfl);obtain⟨d0,d1,d2,d3,d4,d5,d6,-⟩:=za (HH.out.boxAt 1 rfl)) | (go_at_call 140;refine cX HH (HSn.out _ HH.out.ext) ?_;clear HH;intro wn HH;clear c0 c1 c2 c3 c4 d0 d1 d2 d3 d4 d5 d6;obtain⟨c0,c1,c2,c3,c4,-⟩:=zb (HH.out.boxAt 0 rfl);obtain⟨d0,d1,d2,d3,d4,d5,d6,-⟩:=za (HH.out.boxAt 1 rfl)) | (go_at_call 141;refine cX HH (HOr.out _ HH.out.ext) ?_;clear HH;intro wo HH;clear c0 c1 c2 c3 c4 d0 d1 d2 d3 d4 d5 d6;obtain⟨c0,c1,c2,c3,c4,-⟩:=zb (HH.out.boxAt 0 rfl);obtain⟨d0,d1,d2,d3,d4,d5,d6,-⟩:=za (HH.out.boxAt 1 rfl)))
              go_ret
              exact⟨rfl,HH.out.ext⟩
            | true=>
              cases ob with
              | false=>
                obtain rfl:V=false:=HB1.out (by rw [HX.out];simp)
                clear HT HR0 HB1 HR HX
                go_wp2_with (first | (go_at_call 117;refine cX HH (HPr.out _ HH.out.ext) ?_;clear HH;intro wp HH;clear c0 c1 c2 c3 c4 d0 d1 d2 d3 d4 d5 d6;obtain⟨c0,c1,c2,c3,c4,-⟩:=zb (HH.out.boxAt 0 rfl);obtain⟨d0,d1,d2,d3,d4,d5,d6,-⟩:=za (HH.out.boxAt 1 rfl)) | (go_at_call 139;refine cX HH (HBk.out _ HH.out.ext) ?_;clear HH;intro wq HH;clear c0 c1 c2 c3 c4 d0 d1 d2 d3 d4 d5 d6;obtain⟨c0,c1,c2,c3,c4,-⟩:=zb (HH.out.boxAt 0 rfl);obtain⟨d0,d1,d2,d3,d4,d5,d6,-⟩:=za (HH.out.boxAt 1 rfl)) | (go_at_call 140;refine cX HH (HSn.out _ HH.out.ext) ?_;clear HH;intro wn HH;clear c0 c1 c2 c3 c4 d0 d1 d2 d3 d4 d5 d6;obtain⟨c0,c1,c2,c3,c4,-⟩:=zb (HH.out.boxAt 0 rfl);obtain⟨d0,d1,d2,d3,d4,d5,d6,-⟩:=za (HH.out.boxAt 1 rfl)) | (go_at_call 141;refine cX HH (HOr.out _ HH.out.ext) ?_;clear HH;intro wo HH;clear c0 c1 c2 c3 c4 d0 d1 d2 d3 d4 d5 d6;obtain⟨c0,c1,c2,c3,c4,-⟩:=zb (HH.out.boxAt 0 rfl);obtain⟨d0,d1,d2,d3,d4,d5,d6,-⟩:=za (HH.out.boxAt 1 rfl)))
                go_ret
                exact⟨rfl,HH.out.ext⟩
              | true=>
                have HK2:=hiD (HT.out (by rw [HX.out];rfl) HR.out)
                clear HT HR0 HB1 HR HX
                go_wp2_with (first | (go_at_call 117;refine cX HH (HPr.out _ HH.out.ext) ?_;clear HH;intro wp HH;clear c0 c1 c2 c3 c4 d0 d1 d2 d3 d4 d5 d6;obtain⟨c0,c1,c2,c3,c4,-⟩:=zb (HH.out.boxAt 0 rfl);obtain⟨d0,d1,d2,d3,d4,d5,d6,-⟩:=za (HH.out.boxAt 1 rfl)) | (go_at_call 139;refine cX HH (HBk.out _ HH.out.ext) ?_;clear HH;intro wq HH;clear c0 c1 c2 c3 c4 d0 d1 d2 d3 d4 d5 d6;obtain⟨c0,c1,c2,c3,c4,-⟩:=zb (HH.out.boxAt 0 rfl);obtain⟨d0,d1,d2,d3,d4,d5,d6,-⟩:=za (HH.out.boxAt 1 rfl)) | (go_at_call 140;refine cX HH (HSn.out _ HH.out.ext) ?_;clear HH;intro wn HH;clear c0 c1 c2 c3 c4 d0 d1 d2 d3 d4 d5 d6;obtain⟨c0,c1,c2,c3,c4,-⟩:=zb (HH.out.boxAt 0 rfl);obtain⟨d0,d1,d2,d3,d4,d5,d6,-⟩:=za (HH.out.boxAt 1 rfl)) | (go_at_call 141;refine cX HH (HOr.out _ HH.out.ext) ?_;clear HH;intro wo HH;clear c0 c1 c2 c3 c4 d0 d1 d2 d3 d4 d5 d6;obtain⟨c0,c1,c2,c3,c4,-⟩:=zb (HH.out.boxAt 0 rfl);obtain⟨d0,d1,d2,d3,d4,d5,d6,-⟩:=za (HH.out.boxAt 1 rfl)))
                go_roundw
                case rel=>(first | exact⟨_,by omega,by go_num,HK2,HH.out.only 1 rfl⟩ | exact⟨1,by omega,rfl,HK2,HH.out.only 1 rfl⟩)
                case measure=>(first | (simp [intOf];done) | (simp [intOf];omega))
           ·have qb:(bk == 0)=false:=by rw [beq_eq_false_iff_ne];exact hbk
            have qb2:(bk != 0)=true:=by rw [bne_iff_ne];exact hbk
            have qb3:decide (bk=0)=false:=decide_eq_false hbk
            obtain rfl:V=false:=HB1.out (by rw [HX.out,qb3];simp)
            clear HT HR0 HB1 HR HX
            go_wp2_with (first | (go_at_call 117;refine cX HH (HPr.out _ HH.out.ext) ?_;clear HH;intro wp HH;clear c0 c1 c2 c3 c4 d0 d1 d2 d3 d4 d5 d6;obtain⟨c0,c1,c2,c3,c4,-⟩:=zb (HH.out.boxAt 0 rfl);obtain⟨d0,d1,d2,d3,d4,d5,d6,-⟩:=za (HH.out.boxAt 1 rfl)) | (go_at_call 139;refine cX HH (HBk.out _ HH.out.ext) ?_;clear HH;intro wq HH;clear c0 c1 c2 c3 c4 d0 d1 d2 d3 d4 d5 d6;obtain⟨c0,c1,c2,c3,c4,-⟩:=zb (HH.out.boxAt 0 rfl);obtain⟨d0,d1,d2,d3,d4,d5,d6,-⟩:=za (HH.out.boxAt 1 rfl)) | (go_at_call 140;refine cX HH (HSn.out _ HH.out.ext) ?_;clear HH;intro wn HH;clear c0 c1 c2 c3 c4 d0 d1 d2 d3 d4 d5 d6;obtain⟨c0,c1,c2,c3,c4,-⟩:=zb (HH.out.boxAt 0 rfl);obtain⟨d0,d1,d2,d3,d4,d5,d6,-⟩:=za (HH.out.boxAt 1 rfl)) | (go_at_call 141;refine cX HH (HOr.out _ HH.out.ext) ?_;clear HH;intro wo HH;clear c0 c1 c2 c3 c4 d0 d1 d2 d3 d4 d5 d6;obtain⟨c0,c1,c2,c3,c4,-⟩:=zb (HH.out.boxAt 0 rfl);obtain⟨d0,d1,d2,d3,d4,d5,d6,-⟩:=za (HH.out.boxAt 1 rfl)))
            go_ret
            exact⟨rfl,HH.out.ext⟩
          ·have qp:(pe == 0)=false:=by rw [beq_eq_false_iff_ne];exact hpe
           have qp2:(pe != 0)=true:=by rw [bne_iff_ne];exact hpe
           have qp3:decide (pe=0)=false:=decide_eq_false hpe
           obtain rfl:V=false:=HB1.out (by rw [HX.out,qp3];simp)
           clear HT HR0 HB1 HR HX
           go_wp2_with (first | (go_at_call 117;refine cX HH (HPr.out _ HH.out.ext) ?_;clear HH;intro wp HH;clear c0 c1 c2 c3 c4 d0 d1 d2 d3 d4 d5 d6;obtain⟨c0,c1,c2,c3,c4,-⟩:=zb (HH.out.boxAt 0 rfl);obtain⟨d0,d1,d2,d3,d4,d5,d6,-⟩:=za (HH.out.boxAt 1 rfl)) | (go_at_call 139;refine cX HH (HBk.out _ HH.out.ext) ?_;clear HH;intro wq HH;clear c0 c1 c2 c3 c4 d0 d1 d2 d3 d4 d5 d6;obtain⟨c0,c1,c2,c3,c4,-⟩:=zb (HH.out.boxAt 0 rfl);obtain⟨d0,d1,d2,d3,d4,d5,d6,-⟩:=za (HH.out.boxAt 1 rfl)) | (go_at_call 140;refine cX HH (HSn.out _ HH.out.ext) ?_;clear HH;intro wn HH;clear c0 c1 c2 c3 c4 d0 d1 d2 d3 d4 d5 d6;obtain⟨c0,c1,c2,c3,c4,-⟩:=zb (HH.out.boxAt 0 rfl);obtain⟨d0,d1,d2,d3,d4,d5,d6,-⟩:=za (HH.out.boxAt 1 rfl)) | (go_at_call 141;refine cX HH (HOr.out _ HH.out.ext) ?_;clear HH;intro wo HH;clear c0 c1 c2 c3 c4 d0 d1 d2 d3 d4 d5 d6;obtain⟨c0,c1,c2,c3,c4,-⟩:=zb (HH.out.boxAt 0 rfl);obtain⟨d0,d1,d2,d3,d4,d5,d6,-⟩:=za (HH.out.boxAt 1 rfl)))
           go_ret
           exact⟨rfl,HH.out.ext⟩
        | true=>
          refine tW 21 2 ?_
          refine tG 23 rfl (fun wT hST=>zj hST zt (by kernel_rfl) rfl rfl 1 rfl (Nat.le_of_ble_eq_true rfl)) hHeld ?_;refine lyX ?_
          refine tW 24 1 ?_
          clear hHeld
          refine oS 25 (fun K hK=>?_)
          go_simp
          refine cX HH3 (HFu.out _ HH3.out.ext) ?_
          clear HH3
          intro w4 HH4
          go_wp2_with fail
          refine hK.out _ _ (HH4).out (fun hHeld=>?_);clear hK K;refine lyX ?_
          by_cases hf:0≤fi
          ·have q26:decide (0≤fi)=true:=decide_eq_true hf
           have q26b:decide (fi < 0)=false:=decide_eq_false (by omega)
           refine tW 26 1 ?_
           have HUt:=hiD (show ub=true by rw [HU.out,q26];rfl)
           refine zq [(27,some 58,.bool false),(28,some 59,.bool false),(29,some 30,.bool false)] rfl (fun _ _ _ _ _ h=>h) (by kernel_rfl) (by assumption) ?_;(try simp only [zg,zf,Act.put,lyA,lyB,lyC])
           refine dnX ?_
           clear hHeld
           have HH:=HH4
           clear HH4
           go_upto_region 9 with fail
           obtain⟨c0,c1,c2,c3,c4,-⟩:=zb (HH.out.boxAt 0 rfl)
           obtain⟨d0,d1,d2,d3,d4,d5,d6,-⟩:=za (HH.out.boxAt 1 rfl)
           rw [HUt.out]at HX
           clear HUt
           by_cases hpe:pe=0
           ·subst hpe
            by_cases hbk:bk=0
            ·subst hbk
             cases sn with
             | false=>
               obtain rfl:V=false:=HB1.out (by rw [HX.out];simp)
               clear HT HR0 HB1 HR HX
               go_wp2_with (first | (go_at_call 117;refine cX HH (HPr.out _ HH.out.ext) ?_;clear HH;intro wp HH;clear c0 c1 c2 c3 c4 d0 d1 d2 d3 d4 d5 d6;obtain⟨c0,c1,c2,c3,c4,-⟩:=zb (HH.out.boxAt 0 rfl);obtain⟨d0,d1,d2,d3,d4,d5,d6,-⟩:=za (HH.out.boxAt 1 rfl)) | (go_at_call 139;refine cX HH (HBk.out _ HH.out.ext) ?_;clear HH;intro wq HH;clear c0 c1 c2 c3 c4 d0 d1 d2 d3 d4 d5 d6;obtain⟨c0,c1,c2,c3,c4,-⟩:=zb (HH.out.boxAt 0 rfl);obtain⟨d0,d1,d2,d3,d4,d5,d6,-⟩:=za (HH.out.boxAt 1 rfl)) | (go_at_call 140;refine cX HH (HSn.out _ HH.out.ext) ?_;clear HH;intro wn HH;clear c0 c1 c2 c3 c4 d0 d1 d2 d3 d4 d5 d6;obtain⟨c0,c1,c2,c3,c4,-⟩:=zb (HH.out.boxAt 0 rfl);obtain⟨d0,d1,d2,d3,d4,d5,d6,-⟩:=za (HH.out.boxAt 1 rfl)) | (go_at_call 141;refine cX HH (HOr.out _ HH.out.ext) ?_;clear HH;intro wo HH;clear c0 c1 c2 c3 c4 d0 d1 d2 d3 d4 d5 d6;obtain⟨c0,c1,c2,c3,c4,-⟩:=zb (HH.out.boxAt 0 rfl);obtain⟨d0,d1,d2,d3,d4,d5,d6,-⟩:=za (HH.out.boxAt 1 rfl)))
               go_ret
               exact⟨rfl,HH.out.ext⟩
             | true=>
               cases ob with
               | false=>
                 obtain rfl:V=false:=HB1.out (by rw [HX.out];simp)
                 clear HT HR0 HB1 HR HX
                 go_wp2_with (first | (go_at_call 117;refine cX HH (HPr.out _ HH.out.ext) ?_;clear HH;intro wp HH;clear c0 c1 c2 c3 c4 d0 d1 d2 d3 d4 d5 d6;obtain⟨c0,c1,c2,c3,c4,-⟩:=zb (HH.out.boxAt 0 rfl);obtain⟨d0,d1,d2,d3,d4,d5,d6,-⟩:=za (HH.out.boxAt 1 rfl)) | (go_at_call 139;refine cX HH (HBk.out _ HH.out.ext) ?_;clear HH;intro wq HH;clear c0 c1 c2 c3 c4 d0 d1 d2 d3 d4 d5 d6;obtain⟨c0,c1,c2,c3,c4,-⟩:=zb (HH.out.boxAt 0 rfl);obtain⟨d0,d1,d2,d3,d4,d5,d6,-⟩:=za (HH.out.boxAt 1 rfl)) | (go_at_call 140;refine cX HH (HSn.out _ HH.out.ext) ?_;clear HH;intro wn HH;clear c0 c1 c2 c3 c4 d0 d1 d2 d3 d4 d5 d6;obtain⟨c0,c1,c2,c3,c4,-⟩:=zb (HH.out.boxAt 0 rfl);obtain⟨d0,d1,d2,d3,d4,d5,d6,-⟩:=za (HH.out.boxAt 1 rfl)) | (go_at_call 141;refine cX HH (HOr.out _ HH.out.ext) ?_;clear HH;intro wo HH;clear c0 c1 c2 c3 c4 d0 d1 d2 d3 d4 d5 d6;obtain⟨c0,c1,c2,c3,c4,-⟩:=zb (HH.out.boxAt 0 rfl);obtain⟨d0,d1,d2,d3,d4,d5,d6,-⟩:=za (HH.out.boxAt 1 rfl)))
                 go_ret
                 exact⟨rfl,HH.out.ext⟩
               | true=>
                 have HK2:=hiD (HT.out (by rw [HX.out];rfl) HR.out)
                 clear HT HR0 HB1 HR HX
                 go_wp2_with (first | (go_at_call 117;refine cX HH (HPr.out _ HH.out.ext) ?_;clear HH;intro wp HH;clear c0 c1 c2 c3 c4 d0 d1 d2 d3 d4 d5 d6;obtain⟨c0,c1,c2,c3,c4,-⟩:=zb (HH.out.boxAt 0 rfl);obtain⟨d0,d1,d2,d3,d4,d5,d6,-⟩:=za (HH.out.boxAt 1 rfl)) | (go_at_call 139;refine cX HH (HBk.out _ HH.out.ext) ?_;clear HH;intro wq HH;clear c0 c1 c2 c3 c4 d0 d1 d2 d3 d4 d5 d6;obtain⟨c0,c1,c2,c3,c4,-⟩:=zb (HH.out.boxAt 0 rfl);obtain⟨d0,d1,d2,d3,d4,d5,d6,-⟩:=za (HH.out.boxAt 1 rfl)) | (go_at_call 140;refine cX HH (HSn.out _ HH.out.ext) ?_;clear HH;intro wn HH;clear c0 c1 c2 c3 c4 d0 d1 d2 d3 d4 d5 d6;obtain⟨c0,c1,c2,c3,c4,-⟩:=zb (HH.out.boxAt 0 rfl);obtain⟨d0,d1,d2,d3,d4,d5,d6,-⟩:=za (HH.out.boxAt 1 rfl)) | (go_at_call 141;refine cX HH (HOr.out _ HH.out.ext) ?_;clear HH;intro wo HH;clear c0 c1 c2 c3 c4 d0 d1 d2 d3 d4 d5 d6;obtain⟨c0,c1,c2,c3,c4,-⟩:=zb (HH.out.boxAt 0 rfl);obtain⟨d0,d1,d2,d3,d4,d5,d6,-⟩:=za (HH.out.boxAt 1 rfl)))
                 go_roundw
                 case rel=>(first | exact⟨_,by omega,by go_num,HK2,HH.out.only 1 rfl⟩ | exact⟨1,by omega,rfl,HK2,HH.out.only 1 rfl⟩)
                 case measure=>(first | (simp [intOf];done) | (simp [intOf];omega))
            ·have qb:(bk == 0)=false:=by rw [beq_eq_false_iff_ne];exact hbk
             have qb2:(bk != 0)=true:=by rw [bne_iff_ne];exact hbk
             have qb3:decide (bk=0)=false:=decide_eq_false hbk
             obtain rfl:V=false:=HB1.out (by rw [HX.out,qb3];simp)
             clear HT HR0 HB1 HR HX
             go_wp2_with (first | (go_at_call 117;refine cX HH (HPr.out _ HH.out.ext) ?_;clear HH;intro wp HH;clear c0 c1 c2 c3 c4 d0 d1 d2 d3 d4 d5 d6;obtain⟨c0,c1,c2,c3,c4,-⟩:=zb (HH.out.boxAt 0 rfl);obtain⟨d0,d1,d2,d3,d4,d5,d6,-⟩:=za (HH.out.boxAt 1 rfl)) | (go_at_call 139;refine cX HH (HBk.out _ HH.out.ext) ?_;clear HH;intro wq HH;clear c0 c1 c2 c3 c4 d0 d1 d2 d3 d4 d5 d6;obtain⟨c0,c1,c2,c3,c4,-⟩:=zb (HH.out.boxAt 0 rfl);obtain⟨d0,d1,d2,d3,d4,d5,d6,-⟩:=za (HH.out.boxAt 1 rfl)) | (go_at_call 140;refine cX HH (HSn.out _ HH.out.ext) ?_;clear HH;intro wn HH;clear c0 c1 c2 c3 c4 d0 d1 d2 d3 d4 d5 d6;obtain⟨c0,c1,c2,c3,c4,-⟩:=zb (HH.out.boxAt 0 rfl);obtain⟨d0,d1,d2,d3,d4,d5,d6,-⟩:=za (HH.out.boxAt 1 rfl)) | (go_at_call 141;refine cX HH (HOr.out _ HH.out.ext) ?_;clear HH;intro wo HH;clear c0 c1 c2 c3 c4 d0 d1 d2 d3 d4 d5 d6;obtain⟨c0,c1,c2,c3,c4,-⟩:=zb (HH.out.boxAt 0 rfl);obtain⟨d0,d1,d2,d3,d4,d5,d6,-⟩:=za (HH.out.boxAt 1 rfl)))
             go_ret
             exact⟨rfl,HH.out.ext⟩
           ·have qp:(pe == 0)=false:=by rw [beq_eq_false_iff_ne];exact hpe
            have qp2:(pe != 0)=true:=by rw [bne_iff_ne];exact hpe
            have qp3:decide (pe=0)=false:=decide_eq_false hpe
            obtain rfl:V=false:=HB1.out (by rw [HX.out,qp3];simp)
            clear HT HR0 HB1 HR HX
            go_wp2_with (first | (go_at_call 117;refine cX HH (HPr.out _ HH.out.ext) ?_;clear HH;intro wp HH;clear c0 c1 c2 c3 c4 d0 d1 d2 d3 d4 d5 d6;obtain⟨c0,c1,c2,c3,c4,-⟩:=zb (HH.out.boxAt 0 rfl);obtain⟨d0,d1,d2,d3,d4,d5,d6,-⟩:=za (HH.out.boxAt 1 rfl)) | (go_at_call 139;refine cX HH (HBk.out _ HH.out.ext) ?_;clear HH;intro wq HH;clear c0 c1 c2 c3 c4 d0 d1 d2 d3 d4 d5 d6;obtain⟨c0,c1,c2,c3,c4,-⟩:=zb (HH.out.boxAt 0 rfl);obtain⟨d0,d1,d2,d3,d4,d5,d6,-⟩:=za (HH.out.boxAt 1 rfl)) | (go_at_call 140;refine cX HH (HSn.out _ HH.out.ext) ?_;clear HH;intro wn HH;clear c0 c1 c2 c3 c4 d0 d1 d2 d3 d4 d5 d6;obtain⟨c0,c1,c2,c3,c4,-⟩:=zb (HH.out.boxAt 0 rfl);obtain⟨d0,d1,d2,d3,d4,d5,d6,-⟩:=za (HH.out.boxAt 1 rfl)) | (go_at_call 141;refine cX HH (HOr.out _ HH.out.ext) ?_;clear HH;intro wo HH;clear c0 c1 c2 c3 c4 d0 d1 d2 d3 d4 d5 d6;obtain⟨c0,c1,c2,c3,c4,-⟩:=zb (HH.out.boxAt 0 rfl);obtain⟨d0,d1,d2,d3,d4,d5,d6,-⟩:=za (HH.out.boxAt 1 rfl)))
            go_ret
            exact⟨rfl,HH.out.ext⟩
          ·have q26:decide (0≤fi)=false:=decide_eq_false hf
           have q26b:decide (fi < 0)=true:=decide_eq_true (by omega)
           refine tW 26 1 ?_
           obtain rfl:V=false:=HB1.out (by rw [HX.out,HU.out,q26];simp)
           clear HT HR0 HB1
           refine zq [(27,some 58,.bool true),(28,some 59,.bool true),(29,some 30,.bool true)] rfl (fun _ _ _ _ _ h=>h) (by kernel_rfl) (by assumption) ?_;(try simp only [zg,zf,Act.put,lyA,lyB,lyC])
           refine dnX ?_
           clear hHeld
           go_wp2_with fail
           go_ret
           exact⟨rfl,HH4.out.ext⟩
       ·obtain⟨j,rfl⟩: ∃j,k=j+1:=⟨k - 1,by omega⟩
        obtain⟨y,hy,d0⟩:=HPv.out j rfl
        have HRy:=hiD (fun hp=>HR0.out j rfl (by rw [hy];exact hp))
        have HRz:=hiD (fun(hp:lessB y path=true) (i:Nat) (hi:j+1=i+1)=>show lessB (xs[i]'(by omega)).path path=true from by obtain rfl:i=j:=(by omega);rw [hy];exact hp)
        have p0: ∀W,Heap w [.box xb [.string path,.string orig,.slice bA bn bc,.slice fA fn fc,.slice pA pn pc],.box tb [.string name,.int .i64 quota,.int .i64 next,.slice (some ⟨b1,o1,none⟩) n c,.slice gA gn gc,.slice aA an ac,.slice lA ln lc]] W→W.cell? ⟨b1,o1+j * 5,none⟩=some (.string y):=fun W hW=>(Below.cell hW.ext (World.block_lt_of_cell? w _ d0)).trans d0
        clear hy d0
        have q3:IntKind.i64.wrap (j:Int)=(j:Int):=IntWalk.i64_in _ (by omega)
        have q4:(0:Int) < (j:Int)+1:=by omega
        have q5:(j:Int) < (n:Int):=by omega
        refine tW 6 3 ?_
        refine tH 9 1 ?_
        refine tW 10 6 ?_
        refine tH 16 0 ?_
        clear p0
        cases hl:lessB y path with
        | false=>
          have hq:Op.bytesLess y.toList path.toList=false:=hl
          refine tW 17 1 ?_
          obtain rfl:V=false:=HRy.out hl
          clear HT HR0 HB1
          refine zq [(18,some 49,.bool true),(19,some 50,.bool true),(20,some 51,.bool true),(21,some 52,undef),(22,some 53,undef),(23,some 54,undef),(24,some 55,undef),(25,some 56,undef),(26,some 57,undef),(27,some 58,undef),(28,some 59,.bool true),(29,some 30,.bool true)] rfl (fun _ _ _ _ _ h=>h) (by kernel_rfl) (by assumption) ?_;(try simp only [zg,zf,Act.put,lyA,lyB,lyC])
          refine dnX ?_
          clear hHeld
          go_wp2_with fail
          go_ret
          exact⟨rfl,HH3.out.ext⟩
        | true=>
          have hq:Op.bytesLess y.toList path.toList=true:=hl
          have HR:=hiD (HRz.out hl)
          clear HRy HRz
          refine tW 17 4 ?_
          cases is with
          | false=>
            refine tW 21 1 ?_
            have HUt:=hiD (show ub=true by rw [HU.out];rfl)
            refine zq [(22,some 53,.bool false),(23,some 54,undef),(24,some 55,undef),(25,some 56,undef),(26,some 57,undef),(27,some 58,.bool false),(28,some 59,.bool false),(29,some 30,.bool false)] rfl (fun _ _ _ _ _ h=>h) (by kernel_rfl) (by assumption) ?_;(try simp only [zg,zf,Act.put,lyA,lyB,lyC])
            refine dnX ?_
            clear hHeld
            have HH:=HH3
            clear HH3
            go_upto_region 9 with fail
            obtain⟨c0,c1,c2,c3,c4,-⟩:=zb (HH.out.boxAt 0 rfl)
            obtain⟨d0,d1,d2,d3,d4,d5,d6,-⟩:=za (HH.out.boxAt 1 rfl)
            rw [HUt.out]at HX
            clear HUt
            by_cases hpe:pe=0
            ·subst hpe
             by_cases hbk:bk=0
             ·subst hbk
              cases sn with
              | false=>
                obtain rfl:V=false:=HB1.out (by rw [HX.out];simp)
                clear HT HR0 HB1 HR HX
                go_wp2_with (first | (go_at_call 117;refine cX HH (HPr.out _ HH.out.ext) ?_;clear HH;intro wp HH;clear c0 c1 c2 c3 c4 d0 d1 d2 d3 d4 d5 d6;obtain⟨c0,c1,c2,c3,c4,-⟩:=zb (HH.out.boxAt 0 rfl);obtain⟨d0,d1,d2,d3,d4,d5,d6,-⟩:=za (HH.out.boxAt 1 rfl)) | (go_at_call 139;refine cX HH (HBk.out _ HH.out.ext) ?_;clear HH;intro wq HH;clear c0 c1 c2 c3 c4 d0 d1 d2 d3 d4 d5 d6;obtain⟨c0,c1,c2,c3,c4,-⟩:=zb (HH.out.boxAt 0 rfl);obtain⟨d0,d1,d2,d3,d4,d5,d6,-⟩:=za (HH.out.boxAt 1 rfl)) | (go_at_call 140;refine cX HH (HSn.out _ HH.out.ext) ?_;clear HH;intro wn HH;clear c0 c1 c2 c3 c4 d0 d1 d2 d3 d4 d5 d6;obtain⟨c0,c1,c2,c3,c4,-⟩:=zb (HH.out.boxAt 0 rfl);obtain⟨d0,d1,d2,d3,d4,d5,d6,-⟩:=za (HH.out.boxAt 1 rfl)) | (go_at_call 141;refine cX HH (HOr.out _ HH.out.ext) ?_;clear HH;intro wo HH;clear c0 c1 c2 c3 c4 d0 d1 d2 d3 d4 d5 d6;obtain⟨c0,c1,c2,c3,c4,-⟩:=zb (HH.out.boxAt 0 rfl);obtain⟨d0,d1,d2,d3,d4,d5,d6,-⟩:=za (HH.out.boxAt 1 rfl)))
                go_ret
                exact⟨rfl,HH.out.ext⟩
              | true=>
                cases ob with
                | false=>
                  obtain rfl:V=false:=HB1.out (by rw [HX.out];simp)
                  clear HT HR0 HB1 HR HX
                  go_wp2_with (first | (go_at_call 117;refine cX HH (HPr.out _ HH.out.ext) ?_;clear HH;intro wp HH;clear c0 c1 c2 c3 c4 d0 d1 d2 d3 d4 d5 d6;obtain⟨c0,c1,c2,c3,c4,-⟩:=zb (HH.out.boxAt 0 rfl);obtain⟨d0,d1,d2,d3,d4,d5,d6,-⟩:=za (HH.out.boxAt 1 rfl)) | (go_at_call 139;refine cX HH (HBk.out _ HH.out.ext) ?_;clear HH;intro wq HH;clear c0 c1 c2 c3 c4 d0 d1 d2 d3 d4 d5 d6;obtain⟨c0,c1,c2,c3,c4,-⟩:=zb (HH.out.boxAt 0 rfl);obtain⟨d0,d1,d2,d3,d4,d5,d6,-⟩:=za (HH.out.boxAt 1 rfl)) | (go_at_call 140;refine cX HH (HSn.out _ HH.out.ext) ?_;clear HH;intro wn HH;clear c0 c1 c2 c3 c4 d0 d1 d2 d3 d4 d5 d6;obtain⟨c0,c1,c2,c3,c4,-⟩:=zb (HH.out.boxAt 0 rfl);obtain⟨d0,d1,d2,d3,d4,d5,d6,-⟩:=za (HH.out.boxAt 1 rfl)) | (go_at_call 141;refine cX HH (HOr.out _ HH.out.ext) ?_;clear HH;intro wo HH;clear c0 c1 c2 c3 c4 d0 d1 d2 d3 d4 d5 d6;obtain⟨c0,c1,c2,c3,c4,-⟩:=zb (HH.out.boxAt 0 rfl);obtain⟨d0,d1,d2,d3,d4,d5,d6,-⟩:=za (HH.out.boxAt 1 rfl)))
                  go_ret
                  exact⟨rfl,HH.out.ext⟩
                | true=>
                  have HK2:=hiD (HT.out (by rw [HX.out];rfl) HR.out)
                  clear HT HR0 HB1 HR HX
                  go_wp2_with (first | (go_at_call 117;refine cX HH (HPr.out _ HH.out.ext) ?_;clear HH;intro wp HH;clear c0 c1 c2 c3 c4 d0 d1 d2 d3 d4 d5 d6;obtain⟨c0,c1,c2,c3,c4,-⟩:=zb (HH.out.boxAt 0 rfl);obtain⟨d0,d1,d2,d3,d4,d5,d6,-⟩:=za (HH.out.boxAt 1 rfl)) | (go_at_call 139;refine cX HH (HBk.out _ HH.out.ext) ?_;clear HH;intro wq HH;clear c0 c1 c2 c3 c4 d0 d1 d2 d3 d4 d5 d6;obtain⟨c0,c1,c2,c3,c4,-⟩:=zb (HH.out.boxAt 0 rfl);obtain⟨d0,d1,d2,d3,d4,d5,d6,-⟩:=za (HH.out.boxAt 1 rfl)) | (go_at_call 140;refine cX HH (HSn.out _ HH.out.ext) ?_;clear HH;intro wn HH;clear c0 c1 c2 c3 c4 d0 d1 d2 d3 d4 d5 d6;obtain⟨c0,c1,c2,c3,c4,-⟩:=zb (HH.out.boxAt 0 rfl);obtain⟨d0,d1,d2,d3,d4,d5,d6,-⟩:=za (HH.out.boxAt 1 rfl)) | (go_at_call 141;refine cX HH (HOr.out _ HH.out.ext) ?_;clear HH;intro wo HH;clear c0 c1 c2 c3 c4 d0 d1 d2 d3 d4 d5 d6;obtain⟨c0,c1,c2,c3,c4,-⟩:=zb (HH.out.boxAt 0 rfl);obtain⟨d0,d1,d2,d3,d4,d5,d6,-⟩:=za (HH.out.boxAt 1 rfl)))
                  go_roundw
                  case rel=>(first | exact⟨_,by omega,by go_num,HK2,HH.out.only 1 rfl⟩ | exact⟨1,by omega,rfl,HK2,HH.out.only 1 rfl⟩)
                  case measure=>(first | (simp [intOf];done) | (simp [intOf];omega))
             ·have qb:(bk == 0)=false:=by rw [beq_eq_false_iff_ne];exact hbk
              have qb2:(bk != 0)=true:=by rw [bne_iff_ne];exact hbk
              have qb3:decide (bk=0)=false:=decide_eq_false hbk
              obtain rfl:V=false:=HB1.out (by rw [HX.out,qb3];simp)
              clear HT HR0 HB1 HR HX
              go_wp2_with (first | (go_at_call 117;refine cX HH (HPr.out _ HH.out.ext) ?_;clear HH;intro wp HH;clear c0 c1 c2 c3 c4 d0 d1 d2 d3 d4 d5 d6;obtain⟨c0,c1,c2,c3,c4,-⟩:=zb (HH.out.boxAt 0 rfl);obtain⟨d0,d1,d2,d3,d4,d5,d6,-⟩:=za (HH.out.boxAt 1 rfl)) | (go_at_call 139;refine cX HH (HBk.out _ HH.out.ext) ?_;clear HH;intro wq HH;clear c0 c1 c2 c3 c4 d0 d1 d2 d3 d4 d5 d6;obtain⟨c0,c1,c2,c3,c4,-⟩:=zb (HH.out.boxAt 0 rfl);obtain⟨d0,d1,d2,d3,d4,d5,d6,-⟩:=za (HH.out.boxAt 1 rfl)) | (go_at_call 140;refine cX HH (HSn.out _ HH.out.ext) ?_;clear HH;intro wn HH;clear c0 c1 c2 c3 c4 d0 d1 d2 d3 d4 d5 d6;obtain⟨c0,c1,c2,c3,c4,-⟩:=zb (HH.out.boxAt 0 rfl);obtain⟨d0,d1,d2,d3,d4,d5,d6,-⟩:=za (HH.out.boxAt 1 rfl)) | (go_at_call 141;refine cX HH (HOr.out _ HH.out.ext) ?_;clear HH;intro wo HH;clear c0 c1 c2 c3 c4 d0 d1 d2 d3 d4 d5 d6;obtain⟨c0,c1,c2,c3,c4,-⟩:=zb (HH.out.boxAt 0 rfl);obtain⟨d0,d1,d2,d3,d4,d5,d6,-⟩:=za (HH.out.boxAt 1 rfl)))
              go_ret
              exact⟨rfl,HH.out.ext⟩
            ·have qp:(pe == 0)=false:=by rw [beq_eq_false_iff_ne];exact hpe
             have qp2:(pe != 0)=true:=by rw [bne_iff_ne];exact hpe
             have qp3:decide (pe=0)=false:=decide_eq_false hpe
             obtain rfl:V=false:=HB1.out (by rw [HX.out,qp3];simp)
             clear HT HR0 HB1 HR HX
             go_wp2_with (first | (go_at_call 117;refine cX HH (HPr.out _ HH.out.ext) ?_;clear HH;intro wp HH;clear c0 c1 c2 c3 c4 d0 d1 d2 d3 d4 d5 d6;obtain⟨c0,c1,c2,c3,c4,-⟩:=zb (HH.out.boxAt 0 rfl);obtain⟨d0,d1,d2,d3,d4,d5,d6,-⟩:=za (HH.out.boxAt 1 rfl)) | (go_at_call 139;refine cX HH (HBk.out _ HH.out.ext) ?_;clear HH;intro wq HH;clear c0 c1 c2 c3 c4 d0 d1 d2 d3 d4 d5 d6;obtain⟨c0,c1,c2,c3,c4,-⟩:=zb (HH.out.boxAt 0 rfl);obtain⟨d0,d1,d2,d3,d4,d5,d6,-⟩:=za (HH.out.boxAt 1 rfl)) | (go_at_call 140;refine cX HH (HSn.out _ HH.out.ext) ?_;clear HH;intro wn HH;clear c0 c1 c2 c3 c4 d0 d1 d2 d3 d4 d5 d6;obtain⟨c0,c1,c2,c3,c4,-⟩:=zb (HH.out.boxAt 0 rfl);obtain⟨d0,d1,d2,d3,d4,d5,d6,-⟩:=za (HH.out.boxAt 1 rfl)) | (go_at_call 141;refine cX HH (HOr.out _ HH.out.ext) ?_;clear HH;intro wo HH;clear c0 c1 c2 c3 c4 d0 d1 d2 d3 d4 d5 d6;obtain⟨c0,c1,c2,c3,c4,-⟩:=zb (HH.out.boxAt 0 rfl);obtain⟨d0,d1,d2,d3,d4,d5,d6,-⟩:=za (HH.out.boxAt 1 rfl)))
             go_ret
             exact⟨rfl,HH.out.ext⟩
          | true=>
            refine tW 21 2 ?_
            refine tG 23 rfl (fun wT hST=>zj hST zt (by kernel_rfl) rfl rfl 1 rfl (Nat.le_of_ble_eq_true rfl)) hHeld ?_;refine lyX ?_
            refine tW 24 1 ?_
            clear hHeld
            refine oS 25 (fun K hK=>?_)
            go_simp
            refine cX HH3 (HFu.out _ HH3.out.ext) ?_
            clear HH3
            intro w5 HH5
            go_wp2_with fail
            refine hK.out _ _ (HH5).out (fun hHeld=>?_);clear hK K;refine lyX ?_
            by_cases hf:0≤fi
            ·have q26:decide (0≤fi)=true:=decide_eq_true hf
             have q26b:decide (fi < 0)=false:=decide_eq_false (by omega)
             refine tW 26 1 ?_
             have HUt:=hiD (show ub=true by rw [HU.out,q26];rfl)
             refine zq [(27,some 58,.bool false),(28,some 59,.bool false),(29,some 30,.bool false)] rfl (fun _ _ _ _ _ h=>h) (by kernel_rfl) (by assumption) ?_;(try simp only [zg,zf,Act.put,lyA,lyB,lyC])
             refine dnX ?_
             clear hHeld
             have HH:=HH5
             clear HH5
             go_upto_region 9 with fail
             obtain⟨c0,c1,c2,c3,c4,-⟩:=zb (HH.out.boxAt 0 rfl)
             obtain⟨d0,d1,d2,d3,d4,d5,d6,-⟩:=za (HH.out.boxAt 1 rfl)
             rw [HUt.out]at HX
             clear HUt
             by_cases hpe:pe=0
             ·subst hpe
              by_cases hbk:bk=0
              ·subst hbk
               cases sn with
               | false=>
                 obtain rfl:V=false:=HB1.out (by rw [HX.out];simp)
                 clear HT HR0 HB1 HR HX
                 go_wp2_with (first | (go_at_call 117;refine cX HH (HPr.out _ HH.out.ext) ?_;clear HH;intro wp HH;clear c0 c1 c2 c3 c4 d0 d1 d2 d3 d4 d5 d6;obtain⟨c0,c1,c2,c3,c4,-⟩:=zb (HH.out.boxAt 0 rfl);obtain⟨d0,d1,d2,d3,d4,d5,d6,-⟩:=za (HH.out.boxAt 1 rfl)) | (go_at_call 139;refine cX HH (HBk.out _ HH.out.ext) ?_;clear HH;intro wq HH;clear c0 c1 c2 c3 c4 d0 d1 d2 d3 d4 d5 d6;obtain⟨c0,c1,c2,c3,c4,-⟩:=zb (HH.out.boxAt 0 rfl);obtain⟨d0,d1,d2,d3,d4,d5,d6,-⟩:=za (HH.out.boxAt 1 rfl)) | (go_at_call 140;refine cX HH (HSn.out _ HH.out.ext) ?_;clear HH;intro wn HH;clear c0 c1 c2 c3 c4 d0 d1 d2 d3 d4 d5 d6;obtain⟨c0,c1,c2,c3,c4,-⟩:=zb (HH.out.boxAt 0 rfl);obtain⟨d0,d1,d2,d3,d4,d5,d6,-⟩:=za (HH.out.boxAt 1 rfl)) | (go_at_call 141;refine cX HH (HOr.out _ HH.out.ext) ?_;clear HH;intro wo HH;clear c0 c1 c2 c3 c4 d0 d1 d2 d3 d4 d5 d6;obtain⟨c0,c1,c2,c3,c4,-⟩:=zb (HH.out.boxAt 0 rfl);obtain⟨d0,d1,d2,d3,d4,d5,d6,-⟩:=za (HH.out.boxAt 1 rfl)))
                 go_ret
                 exact⟨rfl,HH.out.ext⟩
               | true=>
                 cases ob with
                 | false=>
                   obtain rfl:V=false:=HB1.out (by rw [HX.out];simp)
                   clear HT HR0 HB1 HR HX
                   go_wp2_with (first | (go_at_call 117;refine cX HH (HPr.out _ HH.out.ext) ?_;clear HH;intro wp HH;clear c0 c1 c2 c3 c4 d0 d1 d2 d3 d4 d5 d6;obtain⟨c0,c1,c2,c3,c4,-⟩:=zb (HH.out.boxAt 0 rfl);obtain⟨d0,d1,d2,d3,d4,d5,d6,-⟩:=za (HH.out.boxAt 1 rfl)) | (go_at_call 139;refine cX HH (HBk.out _ HH.out.ext) ?_;clear HH;intro wq HH;clear c0 c1 c2 c3 c4 d0 d1 d2 d3 d4 d5 d6;obtain⟨c0,c1,c2,c3,c4,-⟩:=zb (HH.out.boxAt 0 rfl);obtain⟨d0,d1,d2,d3,d4,d5,d6,-⟩:=za (HH.out.boxAt 1 rfl)) | (go_at_call 140;refine cX HH (HSn.out _ HH.out.ext) ?_;clear HH;intro wn HH;clear c0 c1 c2 c3 c4 d0 d1 d2 d3 d4 d5 d6;obtain⟨c0,c1,c2,c3,c4,-⟩:=zb (HH.out.boxAt 0 rfl);obtain⟨d0,d1,d2,d3,d4,d5,d6,-⟩:=za (HH.out.boxAt 1 rfl)) | (go_at_call 141;refine cX HH (HOr.out _ HH.out.ext) ?_;clear HH;intro wo HH;clear c0 c1 c2 c3 c4 d0 d1 d2 d3 d4 d5 d6;obtain⟨c0,c1,c2,c3,c4,-⟩:=zb (HH.out.boxAt 0 rfl);obtain⟨d0,d1,d2,d3,d4,d5,d6,-⟩:=za (HH.out.boxAt 1 rfl)))
                   go_ret
                   exact⟨rfl,HH.out.ext⟩
                 | true=>
                   have HK2:=hiD (HT.out (by rw [HX.out];rfl) HR.out)
                   clear HT HR0 HB1 HR HX
                   go_wp2_with (first | (go_at_call 117;refine cX HH (HPr.out _ HH.out.ext) ?_;clear HH;intro wp HH;clear c0 c1 c2 c3 c4 d0 d1 d2 d3 d4 d5 d6;obtain⟨c0,c1,c2,c3,c4,-⟩:=zb (HH.out.boxAt 0 rfl);obtain⟨d0,d1,d2,d3,d4,d5,d6,-⟩:=za (HH.out.boxAt 1 rfl)) | (go_at_call 139;refine cX HH (HBk.out _ HH.out.ext) ?_;clear HH;intro wq HH;clear c0 c1 c2 c3 c4 d0 d1 d2 d3 d4 d5 d6;obtain⟨c0,c1,c2,c3,c4,-⟩:=zb (HH.out.boxAt 0 rfl);obtain⟨d0,d1,d2,d3,d4,d5,d6,-⟩:=za (HH.out.boxAt 1 rfl)) | (go_at_call 140;refine cX HH (HSn.out _ HH.out.ext) ?_;clear HH;intro wn HH;clear c0 c1 c2 c3 c4 d0 d1 d2 d3 d4 d5 d6;obtain⟨c0,c1,c2,c3,c4,-⟩:=zb (HH.out.boxAt 0 rfl);obtain⟨d0,d1,d2,d3,d4,d5,d6,-⟩:=za (HH.out.boxAt 1 rfl)) | (go_at_call 141;refine cX HH (HOr.out _ HH.out.ext) ?_;clear HH;intro wo HH;clear c0 c1 c2 c3 c4 d0 d1 d2 d3 d4 d5 d6;obtain⟨c0,c1,c2,c3,c4,-⟩:=zb (HH.out.boxAt 0 rfl);obtain⟨d0,d1,d2,d3,d4,d5,d6,-⟩:=za (HH.out.boxAt 1 rfl)))
                   go_roundw
                   case rel=>(first | exact⟨_,by omega,by go_num,HK2,HH.out.only 1 rfl⟩ | exact⟨1,by omega,rfl,HK2,HH.out.only 1 rfl⟩)
                   case measure=>(first | (simp [intOf];done) | (simp [intOf];omega))
              ·have qb:(bk == 0)=false:=by rw [beq_eq_false_iff_ne];exact hbk
               have qb2:(bk != 0)=true:=by rw [bne_iff_ne];exact hbk
               have qb3:decide (bk=0)=false:=decide_eq_false hbk
               obtain rfl:V=false:=HB1.out (by rw [HX.out,qb3];simp)
               clear HT HR0 HB1 HR HX
               go_wp2_with (first | (go_at_call 117;refine cX HH (HPr.out _ HH.out.ext) ?_;clear HH;intro wp HH;clear c0 c1 c2 c3 c4 d0 d1 d2 d3 d4 d5 d6;obtain⟨c0,c1,c2,c3,c4,-⟩:=zb (HH.out.boxAt 0 rfl);obtain⟨d0,d1,d2,d3,d4,d5,d6,-⟩:=za (HH.out.boxAt 1 rfl)) | (go_at_call 139;refine cX HH (HBk.out _ HH.out.ext) ?_;clear HH;intro wq HH;clear c0 c1 c2 c3 c4 d0 d1 d2 d3 d4 d5 d6;obtain⟨c0,c1,c2,c3,c4,-⟩:=zb (HH.out.boxAt 0 rfl);obtain⟨d0,d1,d2,d3,d4,d5,d6,-⟩:=za (HH.out.boxAt 1 rfl)) | (go_at_call 140;refine cX HH (HSn.out _ HH.out.ext) ?_;clear HH;intro wn HH;clear c0 c1 c2 c3 c4 d0 d1 d2 d3 d4 d5 d6;obtain⟨c0,c1,c2,c3,c4,-⟩:=zb (HH.out.boxAt 0 rfl);obtain⟨d0,d1,d2,d3,d4,d5,d6,-⟩:=za (HH.out.boxAt 1 rfl)) | (go_at_call 141;refine cX HH (HOr.out _ HH.out.ext) ?_;clear HH;intro wo HH;clear c0 c1 c2 c3 c4 d0 d1 d2 d3 d4 d5 d6;obtain⟨c0,c1,c2,c3,c4,-⟩:=zb (HH.out.boxAt 0 rfl);obtain⟨d0,d1,d2,d3,d4,d5,d6,-⟩:=za (HH.out.boxAt 1 rfl)))
               go_ret
               exact⟨rfl,HH.out.ext⟩
             ·have qp:(pe == 0)=false:=by rw [beq_eq_false_iff_ne];exact hpe
              have qp2:(pe != 0)=true:=by rw [bne_iff_ne];exact hpe
              have qp3:decide (pe=0)=false:=decide_eq_false hpe
              obtain rfl:V=false:=HB1.out (by rw [HX.out,qp3];simp)
              clear HT HR0 HB1 HR HX
              go_wp2_with (first | (go_at_call 117;refine cX HH (HPr.out _ HH.out.ext) ?_;clear HH;intro wp HH;clear c0 c1 c2 c3 c4 d0 d1 d2 d3 d4 d5 d6;obtain⟨c0,c1,c2,c3,c4,-⟩:=zb (HH.out.boxAt 0 rfl);obtain⟨d0,d1,d2,d3,d4,d5,d6,-⟩:=za (HH.out.boxAt 1 rfl)) | (go_at_call 139;refine cX HH (HBk.out _ HH.out.ext) ?_;clear HH;intro wq HH;clear c0 c1 c2 c3 c4 d0 d1 d2 d3 d4 d5 d6;obtain⟨c0,c1,c2,c3,c4,-⟩:=zb (HH.out.boxAt 0 rfl);obtain⟨d0,d1,d2,d3,d4,d5,d6,-⟩:=za (HH.out.boxAt 1 rfl)) | (go_at_call 140;refine cX HH (HSn.out _ HH.out.ext) ?_;clear HH;intro wn HH;clear c0 c1 c2 c3 c4 d0 d1 d2 d3 d4 d5 d6;obtain⟨c0,c1,c2,c3,c4,-⟩:=zb (HH.out.boxAt 0 rfl);obtain⟨d0,d1,d2,d3,d4,d5,d6,-⟩:=za (HH.out.boxAt 1 rfl)) | (go_at_call 141;refine cX HH (HOr.out _ HH.out.ext) ?_;clear HH;intro wo HH;clear c0 c1 c2 c3 c4 d0 d1 d2 d3 d4 d5 d6;obtain⟨c0,c1,c2,c3,c4,-⟩:=zb (HH.out.boxAt 0 rfl);obtain⟨d0,d1,d2,d3,d4,d5,d6,-⟩:=za (HH.out.boxAt 1 rfl)))
              go_ret
              exact⟨rfl,HH.out.ext⟩
            ·have q26:decide (0≤fi)=false:=decide_eq_false hf
             have q26b:decide (fi < 0)=true:=decide_eq_true (by omega)
             refine tW 26 1 ?_
             obtain rfl:V=false:=HB1.out (by rw [HX.out,HU.out,q26];simp)
             clear HT HR0 HB1
             refine zq [(27,some 58,.bool true),(28,some 59,.bool true),(29,some 30,.bool true)] rfl (fun _ _ _ _ _ h=>h) (by kernel_rfl) (by assumption) ?_;(try simp only [zg,zf,Act.put,lyA,lyB,lyC])
             refine dnX ?_
             clear hHeld
             go_wp2_with fail
             go_ret
             exact⟨rfl,HH5.out.ext⟩
    ·obtain rfl:k=n:=by omega
     have HV:=hiD (HYe.out (fun j h=>HK.out.1 j h (by rw [Hn.out];exact h)) (fun j h=>HK.out.2 j h (by rw [Hn.out];exact h)))
     clear HYe H1 H2 HK
     go_wp2_with fail
     go_ret
     exact⟨by rw [HV.out];rfl,HH.out.ext⟩
  ·obtain rfl:V=false:=by rw [HVd.out,decide_eq_false hfe];simp
   have qf:decide (atF .empty < 0)=true:=decide_eq_true (by omega)
   clear hfe
   generalize atF .empty=fe at *
   clear HFi HOg
   go_enter Tryz.func81,Tryz.ntmps81
   go_upto_region 1 with fail
   generalize hwH:World.alloc w _=w1;have HH:=hiD (Heap.one hwH);clear hwH
   obtain⟨c0,c1,c2,c3,c4,c5,c6,-⟩:=za (HH.out.boxAt 0 rfl)
   go_wp2_with fail
   refine(HFe.out _ HH.out.ext).mono ?_
   rintro e w2 ⟨rfl,e2⟩
   have HE:=hiD (HH.out.ext.trans e2)
   go_wp2_with fail
   go_ret
   exact⟨rfl,HE.out⟩
end Go.Proofs.YtckaneapjpiocaaGreatDoor
