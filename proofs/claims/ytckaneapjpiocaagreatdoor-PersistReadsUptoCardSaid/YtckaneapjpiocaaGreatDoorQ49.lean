/- The texts Rpck in one file. -/
import Derived.Test.YtckaneapjpiocaaGreatDoorQ34
import Derived.Test.YtckaneapjpiocaaGreatDoorQ43
set_option linter.unusedVariables false
set_option linter.unusedSimpArgs false
set_option maxHeartbeats 16000000
set_option maxRecDepth 100000
namespace Go.Proofs.YtckaneapjpiocaaGreatDoor
open Go.RowKit Go.Maps Go.Sort Go.Shelf
theorem anO{a:Int}(h:a < 0):zE a 0=false:=by rw [zE,decide_eq_false (by omega)];rfl
theorem anW{a:Int}(h:1099511627776 < a):zE a 0=false:=by rw [zE,decide_eq_false (show¬a≤1099511627776 by omega)];simp
theorem ant{a:Int}(h0: ¬a < 0)(h1: ¬1099511627776 < a):zE a 0=true:=by rw [zE,decide_eq_true (by omega),decide_eq_true (by omega)];rfl
theorem af1(w:World)(p:Pol)(h:Pol.At w 0 w.heap.size p):
 Calls Tryz.prog 22 #[.agg p.cells.toArray] w fun e w'=>e= .returned (.int .i64 (xW p))∧Ext w w':=by
 have HPr:=hiD (fun W (hW:Ext w W)=>abW W p.forced.A p.forced.n p.forced.c p.forced.xs h.forced.len (Nat.le_trans h.forcedS (by decide)) (Rd.at h.forced.rd hW (Nat.le_refl _)) (fun x hx=>⟨Nat.le_trans (h.forced.all x hx).1 (by decide),Nat.le_trans (h.forced.all x hx).2 (by decide)⟩))
 have HEn:=hiD (fun k (hk:k < p.log.xs.length) W=>afi W p.log.xs[k] (h.log.all _ (List.getElem_mem hk)))
 have HTc:=hiD (fun k (hk:k < p.ten.xs.length) W (hW:Ext w W)=>aiD W p.ten.xs[k] (Tnt.At.on (h.ten.all _ (List.getElem_mem hk)) hW (Nat.le_refl _)))
 have HAd:=hiD (fun(h6: ∀k (h:k < p.ten.xs.length),yt p.ten.xs[k]=0) W (hW:Ext w W)=>aiS W p (h.on hW (Nat.le_refl _)) (fun t ht=>by
  obtain⟨k,hk,rfl⟩:=List.getElem_of_mem ht
  exact agm (h.ten.all _ (List.getElem_mem hk)) (h6 k hk)))
 have P1:=hiD (akQ p)
 have P2:=hiD (ak9 p)
 have P3:=hiD (alh p)
 have P4:=hiD (aly p)
 have P5:=hiD (fun k hk hp=>aky p (aaf liB p.log.xs k hk hp))
 have HU:=hiD (fun k hk=>aeZ liB p.log.xs k hk)
 have P6:=hiD (ak7 p)
 have P7:=hiD (ale p)
 have PY:=hiD (anf p)
 have HTn:=hiD h.ten
 have HLn:=hiD h.log
 have Hln:=hiD (show p.log.n=p.log.xs.length from h.log.len)
 have hlm:p.log.n≤9223372036854775807:=Nat.le_trans (Nat.le_trans h.log.le h.log.cap) (by decide)
 have hS:=h.tenS
 generalize xW p=V at *
 generalize abk p=ad at *
 clear h
 obtain⟨cap,⟨tA,tn,tc,tx⟩,⟨fA,fn,fc,fx⟩,⟨lA,ln,lc,lx⟩⟩:=p
 have hTn:=hiD (show tn=tx.length from HTn.out.len)
 dsimp only at *
 simp only [Pol.cells,Sl.val]at HAd ⊢
 generalize prE fx=pe at *
 by_cases h4:4 < tn
 ·obtain rfl:V=9:=P1.out (by have:=hTn.out;omega)
  have q4:(4:Int) < (tn:Int):=by omega
  go_enter Tryz.func22,Tryz.ntmps22
  go_upto_region 1 with fail
  generalize hwH:World.alloc w _=w1;have HH:=hiD (Heap.one hwH);clear hwH
  have hc:=zY (HH.out.boxAt 0 rfl)
  obtain⟨c0,c1,c2,c3,-⟩:=hc
  go_wp2_with (go_at_call 56;refine(HPr.out _ HH.out.ext).mono ?_;rintro e wq ⟨rfl,eq⟩;replace HH:=hiD (HH.out.later eq);clear eq c0 c1 c2 c3;have hc:=zY (HH.out.boxAt 0 rfl);obtain⟨c0,c1,c2,c3,-⟩:=hc)
  go_ret
  exact⟨rfl,HH.out.ext⟩
 ·have q4: ¬(4:Int) < (tn:Int):=by omega
  by_cases hc0:cap < 0
  ·obtain rfl:V=9:=P2.out (anO hc0)
   go_enter Tryz.func22,Tryz.ntmps22
   go_upto_region 1 with fail
   generalize hwH:World.alloc w _=w1;have HH:=hiD (Heap.one hwH);clear hwH
   have hc:=zY (HH.out.boxAt 0 rfl)
   obtain⟨c0,c1,c2,c3,-⟩:=hc
   go_wp2_with (go_at_call 56;refine(HPr.out _ HH.out.ext).mono ?_;rintro e wq ⟨rfl,eq⟩;replace HH:=hiD (HH.out.later eq);clear eq c0 c1 c2 c3;have hc:=zY (HH.out.boxAt 0 rfl);obtain⟨c0,c1,c2,c3,-⟩:=hc)
   go_ret
   exact⟨rfl,HH.out.ext⟩
  ·by_cases hc1:1099511627776 < cap
   ·obtain rfl:V=9:=P2.out (anW hc1)
    go_enter Tryz.func22,Tryz.ntmps22
    go_upto_region 1 with fail
    generalize hwH:World.alloc w _=w1;have HH:=hiD (Heap.one hwH);clear hwH
    have hc:=zY (HH.out.boxAt 0 rfl)
    obtain⟨c0,c1,c2,c3,-⟩:=hc
    go_wp2_with (go_at_call 56;refine(HPr.out _ HH.out.ext).mono ?_;rintro e wq ⟨rfl,eq⟩;replace HH:=hiD (HH.out.later eq);clear eq c0 c1 c2 c3;have hc:=zY (HH.out.boxAt 0 rfl);obtain⟨c0,c1,c2,c3,-⟩:=hc)
    go_ret
    exact⟨rfl,HH.out.ext⟩
   ·by_cases hpe:pe=0
    ·subst hpe
     by_cases h16:16 < ln
     ·obtain rfl:V=9:=P4.out (by have:=Hln.out;omega)
      have q16:(16:Int) < (ln:Int):=by omega
      go_enter Tryz.func22,Tryz.ntmps22
      go_upto_region 1 with fail
      generalize hwH:World.alloc w _=w1;have HH:=hiD (Heap.one hwH);clear hwH
      have hc:=zY (HH.out.boxAt 0 rfl)
      obtain⟨c0,c1,c2,c3,-⟩:=hc
      go_wp2_with (go_at_call 56;refine(HPr.out _ HH.out.ext).mono ?_;rintro e wq ⟨rfl,eq⟩;replace HH:=hiD (HH.out.later eq);clear eq c0 c1 c2 c3;have hc:=zY (HH.out.boxAt 0 rfl);obtain⟨c0,c1,c2,c3,-⟩:=hc)
      go_ret
      exact⟨rfl,HH.out.ext⟩
     ·have q16: ¬(16:Int) < (ln:Int):=by omega
      have HYe:=hiD (PY.out (by have:=hTn.out;omega) (ant hc0 hc1) rfl (by have:=Hln.out;omega))
      clear PY P1 P2 P3 P4
      go_enter Tryz.func22,Tryz.ntmps22
      go_upto_region 1 with fail
      generalize hwH:World.alloc w _=w1;have HH:=hiD (Heap.one hwH);clear hwH
      have hc:=zY (HH.out.boxAt 0 rfl)
      obtain⟨c0,c1,c2,c3,-⟩:=hc
      go_upto_region 3 with(go_at_call 56;refine(HPr.out _ HH.out.ext).mono ?_;rintro e wq ⟨rfl,eq⟩;replace HH:=hiD (HH.out.later eq);clear eq c0 c1 c2 c3;have hc:=zY (HH.out.boxAt 0 rfl);obtain⟨c0,c1,c2,c3,-⟩:=hc)
      obtain⟨pb,hpb⟩: ∃b,b=w.heap.size:=⟨_,rfl⟩
      rw [←hpb]at HH ⊢ c0 c1 c2 c3
      clear hpb
      go_wp2_with fail
      clear c0 c1 c2 c3 HPr
      have HH0:=hiD (show Heap w [.box pb [.int .i64 cap,.slice tA tn tc,.slice fA fn fc,.slice lA ln lc]] _ from HH.out)
      clear HH
      go_loopw [3] (fun v wr=> ∃k:Nat,k≤ln∧v= .int .i64 (k:Int)∧Hid ((lx.take k).all liB=true)∧Hid (Heap w [.box pb [.int .i64 cap,.slice tA tn tc,.slice fA fn fc,.slice lA ln lc]] wr)) (fun v _=>ln - (intOf v).toNat)
      case atStart=>exact⟨0,Nat.zero_le _,rfl,hiD rfl,HH0⟩
      case round=>
       clear HH0
       obtain⟨k,hk,rfl,HK,HH⟩:=hrel
       by_cases hlt:k < ln
       ·have l1:k < lx.length:=by rw [←Hln.out];exact hlt
        obtain⟨b1,o1,hA1,_,hb1,G⟩:=zh (size:=4) (fun _=>rfl) (by omega) HLn.out.rd l1
        dsimp only at hA1
        subst hA1
        have HP:=hiD (P5.out k l1)
        have HUk:=hiD (HU.out k l1)
        have HEk:=hiD (HEn.out k l1)
        have HGw:=hiD (fun i u hu=>(Below.cell HH.out.ext hb1).trans (G i u hu))
        clear G
        generalize lx[k]=x at *
        generalize liB x=bx at *
        obtain⟨us,ki,pa,er⟩:=x
        simp only [Lin.cells]at HEk
        have hkn:(k:Int) < (ln:Int):=by omega
        have HGc:=hiD (show∀i u,([.string us,.int .i64 ki,.string pa,.int .i64 er]:List Value)[i]?=some u→wr.cell? ⟨b1,o1+k * 4+i,none⟩=some u from HGw.out)
        clear HGw
        go_wp2_with (first | (refine yF HGc.out rfl ac0 (by kernel_rfl) rfl rfl rfl ?_) | (refine l1X HH 0 ?_))
        refine cX HH (HEk.out _) ?_
        clear HH
        intro w6 HH
        clear HGc
        cases bx with
        | false=>
          obtain rfl:V=9:=HP.out rfl
          clear HYe
          go_wp2_with fail
          go_ret
          exact⟨rfl,HH.out.ext⟩
        | true=>
          have HK2:=hiD (show(lx.take (k+1)).all liB=true by rw [HUk.out,HK.out];rfl)
          go_wp2_with fail
          go_roundw
          case rel=>exact⟨k+1,by omega,by go_num,HK2,HH⟩
          case measure=>(first | (simp [intOf];done) | (simp [intOf];omega))
       ·obtain rfl:k=ln:=by omega
        have h5:=HK.out
        rw [List.take_of_length_le (by rw [←Hln.out];exact Nat.le_refl _)]at h5
        have HYf:=hiD (HYe.out h5)
        clear HYe h5 HK P5 HEn HU hlt hk
        generalize k=lk at *
        go_wp2_with (refine l1X HH 0 ?_)
        have HH0:=HH
        clear HH
        go_loopw [4] (fun v wr=> ∃j:Nat,j≤tn∧v= .int .i64 (j:Int)∧Hid ((∀i (h:i < tx.length),i < j→yt tx[i]=0)∧ ∀i (h:i+1 < tx.length),i+1 < j→lessB tx[i].name tx[i+1].name=true)∧Hid (Heap w [.box pb [.int .i64 cap,.slice tA tn tc,.slice fA fn fc,.slice lA lk lc]] wr)) (fun v _=>tn - (intOf v).toNat)
        case atStart=>exact⟨0,Nat.zero_le _,rfl,hiD ⟨fun j h hj=>absurd hj (Nat.not_lt_zero _),fun j h hj=>absurd hj (Nat.not_lt_zero _)⟩,HH0⟩
        case round=>
         clear HH0
         obtain⟨k,hk,rfl,HK,HH⟩:=hrel
         by_cases hlt:k < tn
         ·have l1:k < tx.length:=by rw [←hTn.out];exact hlt
          obtain⟨b1,o1,hA1,_,hb1,G⟩:=zh (size:=7) (fun _=>rfl) (by omega) HTn.out.rd l1
          dsimp only at hA1
          subst hA1
          have HB1:=hiD (fun hp=>P6.out k l1 hp)
          have HR0:=hiD (fun(j:Nat) (hj:k=j+1) (hp:lessB (tx[j]'(by omega)).name tx[k].name=false)=>show V=9 by subst hj;exact P7.out j l1 hp)
          have HT:=hiD (fun(h1:yt tx[k]=0) (h2: ∀j (hj:k=j+1),lessB (tx[j]'(by omega)).name tx[k].name=true)=>show(∀j (h:j < tx.length),j < k+1→yt tx[j]=0)∧ ∀j (h:j+1 < tx.length),j+1 < k+1→lessB tx[j].name tx[j+1].name=true from
           ⟨fun j h hj=>by
             rcases Nat.lt_or_ge j k with h3 | h3
             ·exact HK.out.1 j h h3
             ·obtain rfl:j=k:=by omega
              exact h1,fun j h hj=>by
             rcases Nat.lt_or_ge (j+1) k with h3 | h3
             ·exact HK.out.2 j h h3
             ·obtain rfl:k=j+1:=by omega
              exact h2 j rfl⟩)
          have HPv:=hiD (fun(j:Nat) (hj:k=j+1)=>show∃y:ByteArray,(tx[j]'(by omega)).name=y∧w.cell? ⟨b1,o1+j * 7,none⟩=some (.string y)by
           obtain⟨b2,o2,hh,_,_,G2⟩:=zh (size:=7) (fun _=>rfl) (by omega) HTn.out.rd (k:=j) (show j < tx.length by omega)
           obtain⟨rfl,rfl⟩:b1=b2∧o1=o2:=by simpa using hh
           exact⟨_,rfl,G2 0 _ rfl⟩)
          have HCk:=hiD (HTc.out k l1)
          have HG:=hiD (fun(wT:World) (hT:Heap w [.box pb [.int .i64 cap,.slice (some ⟨b1,o1,none⟩) tn tc,.slice fA fn fc,.slice lA lk lc]] wT) i u hu=>(Below.cell hT.ext hb1).trans (G i u hu))
          clear G
          generalize tx[k]=x at *
          obtain⟨name,quota,next,⟨sA,sn,sc,ss⟩,⟨gA,gn,gc,gs⟩,⟨aA,an,ac,ax⟩,⟨mA,mn,mc,ms⟩⟩:=x
          generalize yt _=te at *
          dsimp only at HB1 HR0 HT
          simp only [Tnt.cells,Sl.val]at HCk HG
          have hkn:(k:Int) < (tn:Int):=by omega
          go_upto_region 11 with(refine l1X HH 0 ?_)
          have HHd:=hiD HH.out.drew
          clear HH
          refine wp_region_held_drew (S:=Heap w [.box pb [.int .i64 cap,.slice (some ⟨b1,o1,none⟩) tn tc,.slice fA fn fc,.slice lA lk lc]]) (by kernel_rfl) HHd.out (fun hHeld=>?_)
          generalize World.drew _=wd at *
          refine tW 0 1 ?_
          refine tH 1 0 ?_
          refine tW 2 2 ?_
          refine tG 4 rfl (fun wT hST=>qm (HG.out wT hST) rfl zt (by kernel_rfl) rfl rfl) hHeld ?_;refine lyX ?_
          clear hHeld
          refine oS 5 (fun K hK=>?_)
          go_simp
          refine cX HHd (HCk.out _ HHd.out.ext) ?_
          clear HHd
          intro w3 HH3
          go_wp2_with fail
          refine hK.out _ _ (HH3).out (fun hHeld=>?_);clear hK K;refine lyX ?_
          by_cases hte:te=0
          ·subst hte
           refine tW 6 3 ?_
           by_cases hk0:k=0
           ·subst hk0
            have HR:=hiD (show∀j (hj:0=j+1),lessB (tx[j]'(by omega)).name name=true from fun j hj=>by omega)
            refine tW 9 1 ?_
            refine zq [(10,some 62,.bool false),(11,some 63,undef),(12,some 64,undef),(13,some 65,undef),(14,some 66,undef),(15,some 67,undef),(16,some 68,undef),(17,some 69,undef),(18,some 70,undef),(19,some 71,undef),(20,some 72,undef),(21,some 73,undef),(22,some 74,undef),(23,some 75,undef),(24,some 76,undef),(25,some 77,.bool false),(26,some 78,.bool false)] rfl (fun _ _ _ _ _ h=>h) (by kernel_rfl) (by assumption) ?_;(try simp only [zg,zf,Act.put,lyA,lyB,lyC])
            refine dnX ?_
            clear hHeld
            have HH:=HH3
            clear HH3
            have HK2:=hiD (HT.out rfl HR.out)
            clear HT HR0 HB1 HR
            go_wp2_with fail
            go_roundw
            case rel=>(first | exact⟨_,by omega,by go_num,HK2,HH.out.only 0 rfl⟩ | exact⟨1,by omega,rfl,HK2,HH.out.only 0 rfl⟩)
            case measure=>(first | (simp [intOf];done) | (simp [intOf];omega))
           ·obtain⟨j,rfl⟩: ∃j,k=j+1:=⟨k - 1,by omega⟩
            obtain⟨y,hy,d0⟩:=HPv.out j rfl
            have HRy:=hiD (fun hp=>HR0.out j rfl (by rw [hy];exact hp))
            have HRz:=hiD (fun(hp:lessB y name=true) (i:Nat) (hi:j+1=i+1)=>show lessB (tx[i]'(by omega)).name name=true from by obtain rfl:i=j:=(by omega);rw [hy];exact hp)
            have p0: ∀W,Heap w [.box pb [.int .i64 cap,.slice (some ⟨b1,o1,none⟩) tn tc,.slice fA fn fc,.slice lA lk lc]] W→W.cell? ⟨b1,o1+j * 7,none⟩=some (.string y):=fun W hW=>(Below.cell hW.ext (World.block_lt_of_cell? w _ d0)).trans d0
            clear hy d0
            have q3:IntKind.i64.wrap (j:Int)=(j:Int):=IntWalk.i64_in _ (by omega)
            have q4:(0:Int) < (j:Int)+1:=by omega
            have q5:(j:Int) < (tn:Int):=by omega
            have p1: ∀W,Heap w [.box pb [.int .i64 cap,.slice (some ⟨b1,o1,none⟩) tn tc,.slice fA fn fc,.slice lA lk lc]] W→W.cell? ⟨b1,o1+(j+1) * 7,none⟩=some (.string name):=fun W hW=>HG.out W hW 0 _ rfl
            have q6:(j:Int)+1 < (tn:Int):=by omega
            have q7:(0:Int)≤(j:Int)+1:=by omega
            refine tW 9 3 ?_
            refine tH 12 0 ?_
            refine tW 13 5 ?_
            refine tH 18 0 ?_
            refine tW 19 5 ?_
            clear p0 p1
            cases hl:lessB y name with
            | false=>
              have hq:(Op.bytesLess name.toList y.toList || name.toList == y.toList)=true:=by have q:=xP y name;rw [hl]at q;exact q
              refine tW 24 1 ?_
              obtain rfl:V=9:=HRy.out hl
              clear HT HR0 HB1
              refine zq [(25,some 77,.bool true),(26,some 78,.bool true)] rfl (fun _ _ _ _ _ h=>h) (by kernel_rfl) (by assumption) ?_;(try simp only [zg,zf,Act.put,lyA,lyB,lyC])
              refine dnX ?_
              clear hHeld
              go_wp2_with fail
              go_ret
              exact⟨rfl,HH3.out.ext⟩
            | true=>
              have hq:(Op.bytesLess name.toList y.toList || name.toList == y.toList)=false:=by have q:=xP y name;rw [hl]at q;exact q
              have HR:=hiD (HRz.out hl)
              clear HRy HRz
              refine tW 24 1 ?_
              refine zq [(25,some 77,.bool false),(26,some 78,.bool false)] rfl (fun _ _ _ _ _ h=>h) (by kernel_rfl) (by assumption) ?_;(try simp only [zg,zf,Act.put,lyA,lyB,lyC])
              refine dnX ?_
              clear hHeld
              have HH:=HH3
              clear HH3
              have HK2:=hiD (HT.out rfl HR.out)
              clear HT HR0 HB1 HR
              go_wp2_with fail
              go_roundw
              case rel=>(first | exact⟨_,by omega,by go_num,HK2,HH.out.only 0 rfl⟩ | exact⟨1,by omega,rfl,HK2,HH.out.only 0 rfl⟩)
              case measure=>(first | (simp [intOf];done) | (simp [intOf];omega))
          ·
           have hq9:(te == 0)=false:=by rw [beq_eq_false_iff_ne];exact hte
           have hq8:(te != 0)=true:=by rw [bne_iff_ne];exact hte
           refine tW 6 1 ?_
           obtain rfl:V=9:=HB1.out hte
           clear HT HR0 HB1
           refine zq [(7,some 59,.bool true),(8,some 60,undef),(9,some 61,undef),(10,some 62,undef),(11,some 63,undef),(12,some 64,undef),(13,some 65,undef),(14,some 66,undef),(15,some 67,undef),(16,some 68,undef),(17,some 69,undef),(18,some 70,undef),(19,some 71,undef),(20,some 72,undef),(21,some 73,undef),(22,some 74,undef),(23,some 75,undef),(24,some 76,undef),(25,some 77,undef),(26,some 78,.bool true)] rfl (fun _ _ _ _ _ h=>h) (by kernel_rfl) (by assumption) ?_;(try simp only [zg,zf,Act.put,lyA,lyB,lyC])
           refine dnX ?_
           clear hHeld
           go_wp2_with fail
           go_ret
           exact⟨rfl,HH3.out.ext⟩
         ·obtain rfl:k=tn:=by omega
          have HK1:=hiD (fun j (h:j < tx.length)=>HK.out.1 j h (by rw [hTn.out];exact h))
          have HV:=hiD (HYf.out HK1.out (fun j h=>HK.out.2 j h (by rw [hTn.out];exact h)))
          have HAe:=hiD (HAd.out HK1.out)
          clear HYf HK HAd HK1 P6 P7
          go_wp2_with (first | (refine lSX HH zD 0 ?_) | (refine l1X HH 0 ?_))
          refine cX HH (HAe.out _ HH.out.ext) ?_
          clear HH
          intro w7 HH
          by_cases had:ad=0
          ·obtain rfl:V=0:=by rw [HV.out,if_pos had]
           subst had
           clear HV
           go_wp2_with fail
           go_ret
           exact⟨rfl,HH.out.ext⟩
          ·obtain rfl:V=9:=by rw [HV.out,if_neg had]
           have q9:(ad == 0)=false:=by rw [beq_eq_false_iff_ne];exact had
           have q8:(ad != 0)=true:=by rw [bne_iff_ne];exact had
           clear HV
           go_wp2_with fail
           go_ret
           exact⟨rfl,HH.out.ext⟩
    ·obtain rfl:V=9:=P3.out hpe
     have q9:(pe == 0)=false:=by rw [beq_eq_false_iff_ne];exact hpe
     have q8:(pe != 0)=true:=by rw [bne_iff_ne];exact hpe
     go_enter Tryz.func22,Tryz.ntmps22
     go_upto_region 1 with fail
     generalize hwH:World.alloc w _=w1;have HH:=hiD (Heap.one hwH);clear hwH
     have hc:=zY (HH.out.boxAt 0 rfl)
     obtain⟨c0,c1,c2,c3,-⟩:=hc
     go_wp2_with (go_at_call 56;refine(HPr.out _ HH.out.ext).mono ?_;rintro e wq ⟨rfl,eq⟩;replace HH:=hiD (HH.out.later eq);clear eq c0 c1 c2 c3;have hc:=zY (HH.out.boxAt 0 rfl);obtain⟨c0,c1,c2,c3,-⟩:=hc)
     go_ret
     exact⟨rfl,HH.out.ext⟩
end Go.Proofs.YtckaneapjpiocaaGreatDoor
