/- The texts Rf6 in one file. -/
import Derived.Test.YtckaneapjpiocaaGreatDoorQ39
import Derived.Test.YtckaneapjpiocaaGreatDoorQ40
set_option linter.unusedVariables false
set_option linter.unusedSimpArgs false
set_option maxHeartbeats 16000000
set_option maxRecDepth 100000
namespace Go.Proofs.YtckaneapjpiocaaGreatDoor
open Go.RowKit Go.Maps Go.Sort Go.Shelf
theorem ai4(w:World)(t:Tnt)(x:Dst)(ht:Sl.At w 0 w.heap.size Dst.cells (Dst.At w 0 w.heap.size) t.sets)(hx:Dst.At w 0 w.heap.size x):
 Calls Tryz.prog 33 #[.agg t.cells.toArray,.agg x.cells.toArray] w fun e w'=>e= .returned (.bool (seB t.sets.xs x))∧Ext w w':=by
 have HA:=hiD ht
 have HSp:=hiD (fun W (_:Ext w W)=>ai6 x.origin W hx.origin)
 have HPn:=hiD (fun W (_:Ext w W)=>aho x.path W hx.path)
 have HPa:=hiD (fun W=>aa8 x.path W (Nat.lt_of_le_of_lt hx.path (by decide)))
 have HFi:=hiD (fun W (hW:Ext w W) s=>show Calls Tryz.prog 31 #[.agg t.cells.toArray,.string s] W fun e w'=>e= .returned (.int .i64 (atS t.sets.xs s))∧Ext W w' from afW W t s (yG ht hW (Nat.le_refl _) fun _ h=>Dst.At.on h hW (Nat.le_refl _)))
 have HAt:=hiD (fun s (h:0≤atS t.sets.xs s)=>abX (fun x:Dst=>decide (x.path=s)) t.sets.xs h)
 have HLe:=hiD (fun s=>show atS t.sets.xs s < (t.sets.xs.length:Int)from(ae0 _ _).2)
 have HSq:=hiD (fun(k:Nat) (hk:k < t.sets.xs.length) W (hW:Ext w W) s=>alC W t.sets.xs[k] s (yG (ht.all _ (List.getElem_mem hk)).snaps hW (Nat.le_refl _) fun _ h=>Sna.At.on h hW (Nat.le_refl _)))
 have HBk:=hiD (fun W (hW:Ext w W)=>acT W x.body.A x.body.n x.body.c x.body.xs hx.body.len (Nat.le_trans hx.bodyS (by decide)) (Rd.at hx.body.rd hW (Nat.le_refl _)) hx.body.all)
 have HPr:=hiD (fun W (hW:Ext w W)=>abW W x.own.A x.own.n x.own.c x.own.xs hx.own.len (Nat.le_trans hx.ownS (by decide)) (Rd.at hx.own.rd hW (Nat.le_refl _)) (fun y hy=>⟨Nat.le_trans (hx.own.all y hy).1 (by decide),Nat.le_trans (hx.own.all y hy).2 (by decide)⟩))
 have HSn:=hiD (fun W (hW:Ext w W)=>aiC W x.snaps (yG hx.snaps hW (Nat.le_refl _) fun _ h=>Sna.At.on h hW (Nat.le_refl _)))
 have HO:=hiD (show orB t.sets.xs x=(decide (x.origin.size=0) || (abg x.origin && (decide (zT x.origin≠x.path) && (decide (0≤atS t.sets.xs (zT x.origin)) && decide (0≤snO t.sets.xs (zT x.origin) (yP x.origin))))))from rfl)
 have HX:=hiD (show seB t.sets.xs x=(zF x.path && (upB t.sets.xs x && (decide (prE x.own.xs=0) && (decide (bkE x.body.xs=0) && (xF x.snaps.xs && orB t.sets.xs x)))))from rfl)
 have HU:=hiD (akP t.sets.xs x)
 have HD:=hiD (yW (zT x.origin) x.path)
 have HFu:=hiD (fun W (hW:Ext w W)=>HFi.out W hW ((xN x.path).getD ⟨#[]⟩))
 obtain⟨V,hV⟩: ∃V,V=seB t.sets.xs x:=⟨_,rfl⟩
 rw [←hV]
 have HV:=hiD hV
 clear ht hx hV
 obtain⟨name,quota,next,⟨sA,sn_,sc,ss⟩,⟨gA,gn,gc,gs⟩,⟨aA,an,ac,ax⟩,⟨lA,ln,lc,ls⟩⟩:=t
 obtain⟨path,orig,⟨bA,bn,bc,bd⟩,⟨fA,fn,fc,fs⟩,⟨pA,pn,pc,ps⟩⟩:=x
 have Hsn:=hiD (show sn_=ss.length from HA.out.len)
 dsimp only at HSp HPn HPa HFi HAt HLe HSq HBk HPr HSn HO HX HU HD HFu HV
 simp only [Tnt.cells,Dst.cells,Sl.val]at HFi HSq HFu HSn ⊢
 generalize seB ss _=sb at *
 generalize upB ss _=ub0 at *
 generalize orB ss _=ob at *
 generalize xF fs=sn at *
 generalize bkE bd=bk at *
 generalize prE ps=pe at *
 generalize zF path=pb at *
 generalize atS ss ((xN path).getD ⟨#[]⟩)=fi at *
 generalize (xN path).getD ⟨#[]⟩=up at *
 generalize (xN path).isSome=is at *
 go_enter Tryz.func33,Tryz.ntmps33
 go_upto_region 1 with fail
 generalize hwH:World.alloc (World.alloc w _) _=w1;have HH:=hiD (Heap.two hwH);clear hwH
 go_upto_region 2 with(first | (refine l1X HH 0 ?_) | (go_at_call 74;with_reducible refine(HPn.out _ HH.out.ext).mono ?_;rintro e w6 ⟨rfl,e6⟩;have HH6:=hiD (HH.out.later e6);clear HH e6;have HH:=HH6;clear HH6))
 clear HPn
 obtain⟨c0,c1,c2,c3,c4,-⟩:=zb (HH.out.boxAt 0 rfl)
 obtain⟨d0,d1,d2,d3,d4,d5,d6,-⟩:=za (HH.out.boxAt 1 rfl)
 cases pb with
 | false=>
   obtain rfl:V=false:=by rw [HV.out,HX.out];simp
   clear HX HV
   go_wp2_with (first | (go_at_call 73;with_reducible refine cX HH (HPa.out _) ?_;clear HH;intro wp HH;clear c0 c1 c2 c3 c4 d0 d1 d2 d3 d4 d5 d6;obtain⟨c0,c1,c2,c3,c4,-⟩:=zb (HH.out.boxAt 0 rfl);obtain⟨d0,d1,d2,d3,d4,d5,d6,-⟩:=za (HH.out.boxAt 1 rfl)) | (go_at_call 31;with_reducible refine cX HH (HFu.out _ HH.out.ext) ?_;clear HH;intro wq HH;clear c0 c1 c2 c3 c4 d0 d1 d2 d3 d4 d5 d6;obtain⟨c0,c1,c2,c3,c4,-⟩:=zb (HH.out.boxAt 0 rfl);obtain⟨d0,d1,d2,d3,d4,d5,d6,-⟩:=za (HH.out.boxAt 1 rfl)) | (go_at_call 75;with_reducible refine cX HH (HBk.out _ HH.out.ext) ?_;clear HH;intro wb HH;clear c0 c1 c2 c3 c4 d0 d1 d2 d3 d4 d5 d6;obtain⟨c0,c1,c2,c3,c4,-⟩:=zb (HH.out.boxAt 0 rfl);obtain⟨d0,d1,d2,d3,d4,d5,d6,-⟩:=za (HH.out.boxAt 1 rfl)) | (go_at_call 56;with_reducible refine cX HH (HPr.out _ HH.out.ext) ?_;clear HH;intro wo HH;clear c0 c1 c2 c3 c4 d0 d1 d2 d3 d4 d5 d6;obtain⟨c0,c1,c2,c3,c4,-⟩:=zb (HH.out.boxAt 0 rfl);obtain⟨d0,d1,d2,d3,d4,d5,d6,-⟩:=za (HH.out.boxAt 1 rfl)) | (go_at_call 76;with_reducible refine cX HH (HSn.out _ HH.out.ext) ?_;clear HH;intro wn HH;clear c0 c1 c2 c3 c4 d0 d1 d2 d3 d4 d5 d6;obtain⟨c0,c1,c2,c3,c4,-⟩:=zb (HH.out.boxAt 0 rfl);obtain⟨d0,d1,d2,d3,d4,d5,d6,-⟩:=za (HH.out.boxAt 1 rfl)))
   go_ret
   exact⟨rfl,HH.out.ext⟩
 | true=>
   obtain⟨ub,hub⟩: ∃ub,ub=(!is || decide (0≤fi)):=⟨_,rfl⟩
   have HU2:=hiD hub
   have HU3:=hiD (HU.out.trans hub.symm)
   rw [HU3.out]at HX
   clear HU HU3 hub
   by_cases hbad:is=true∧fi < 0
   ·obtain⟨his,hfi⟩:=hbad
    subst his
    have qf:decide (fi < 0)=true:=decide_eq_true hfi
    obtain rfl:ub=false:=by rw [HU2.out,decide_eq_false (by omega)];rfl
    clear HU2 hfi
    obtain rfl:V=false:=by rw [HV.out,HX.out];simp
    clear HX HV
    go_wp2_with (first | (go_at_call 73;with_reducible refine cX HH (HPa.out _) ?_;clear HH;intro wp HH;clear c0 c1 c2 c3 c4 d0 d1 d2 d3 d4 d5 d6;obtain⟨c0,c1,c2,c3,c4,-⟩:=zb (HH.out.boxAt 0 rfl);obtain⟨d0,d1,d2,d3,d4,d5,d6,-⟩:=za (HH.out.boxAt 1 rfl)) | (go_at_call 31;with_reducible refine cX HH (HFu.out _ HH.out.ext) ?_;clear HH;intro wq HH;clear c0 c1 c2 c3 c4 d0 d1 d2 d3 d4 d5 d6;obtain⟨c0,c1,c2,c3,c4,-⟩:=zb (HH.out.boxAt 0 rfl);obtain⟨d0,d1,d2,d3,d4,d5,d6,-⟩:=za (HH.out.boxAt 1 rfl)) | (go_at_call 75;with_reducible refine cX HH (HBk.out _ HH.out.ext) ?_;clear HH;intro wb HH;clear c0 c1 c2 c3 c4 d0 d1 d2 d3 d4 d5 d6;obtain⟨c0,c1,c2,c3,c4,-⟩:=zb (HH.out.boxAt 0 rfl);obtain⟨d0,d1,d2,d3,d4,d5,d6,-⟩:=za (HH.out.boxAt 1 rfl)) | (go_at_call 56;with_reducible refine cX HH (HPr.out _ HH.out.ext) ?_;clear HH;intro wo HH;clear c0 c1 c2 c3 c4 d0 d1 d2 d3 d4 d5 d6;obtain⟨c0,c1,c2,c3,c4,-⟩:=zb (HH.out.boxAt 0 rfl);obtain⟨d0,d1,d2,d3,d4,d5,d6,-⟩:=za (HH.out.boxAt 1 rfl)) | (go_at_call 76;with_reducible refine cX HH (HSn.out _ HH.out.ext) ?_;clear HH;intro wn HH;clear c0 c1 c2 c3 c4 d0 d1 d2 d3 d4 d5 d6;obtain⟨c0,c1,c2,c3,c4,-⟩:=zb (HH.out.boxAt 0 rfl);obtain⟨d0,d1,d2,d3,d4,d5,d6,-⟩:=za (HH.out.boxAt 1 rfl)))
    go_ret
    exact⟨rfl,HH.out.ext⟩
   ·obtain rfl:ub=true:=by
     rw [HU2.out]
     cases is with
     | false=>rfl
     | true=>rw [decide_eq_true (by have: ¬fi < 0:=fun h=>hbad ⟨rfl,h⟩;omega)];rfl
    have HBad:=hiD hbad
    clear HU2 hbad
    cases is with
    | false=>
      clear HBad
      by_cases hbk:bk=0
      ·subst hbk
       by_cases hpe:pe=0
       ·subst hpe
        cases sn with
        | false=>
          obtain rfl:V=false:=by rw [HV.out,HX.out];simp
          clear HX HV
          go_wp2_with (first | (go_at_call 73;with_reducible refine cX HH (HPa.out _) ?_;clear HH;intro wp HH;clear c0 c1 c2 c3 c4 d0 d1 d2 d3 d4 d5 d6;obtain⟨c0,c1,c2,c3,c4,-⟩:=zb (HH.out.boxAt 0 rfl);obtain⟨d0,d1,d2,d3,d4,d5,d6,-⟩:=za (HH.out.boxAt 1 rfl)) | (go_at_call 31;with_reducible refine cX HH (HFu.out _ HH.out.ext) ?_;clear HH;intro wq HH;clear c0 c1 c2 c3 c4 d0 d1 d2 d3 d4 d5 d6;obtain⟨c0,c1,c2,c3,c4,-⟩:=zb (HH.out.boxAt 0 rfl);obtain⟨d0,d1,d2,d3,d4,d5,d6,-⟩:=za (HH.out.boxAt 1 rfl)) | (go_at_call 75;with_reducible refine cX HH (HBk.out _ HH.out.ext) ?_;clear HH;intro wb HH;clear c0 c1 c2 c3 c4 d0 d1 d2 d3 d4 d5 d6;obtain⟨c0,c1,c2,c3,c4,-⟩:=zb (HH.out.boxAt 0 rfl);obtain⟨d0,d1,d2,d3,d4,d5,d6,-⟩:=za (HH.out.boxAt 1 rfl)) | (go_at_call 56;with_reducible refine cX HH (HPr.out _ HH.out.ext) ?_;clear HH;intro wo HH;clear c0 c1 c2 c3 c4 d0 d1 d2 d3 d4 d5 d6;obtain⟨c0,c1,c2,c3,c4,-⟩:=zb (HH.out.boxAt 0 rfl);obtain⟨d0,d1,d2,d3,d4,d5,d6,-⟩:=za (HH.out.boxAt 1 rfl)) | (go_at_call 76;with_reducible refine cX HH (HSn.out _ HH.out.ext) ?_;clear HH;intro wn HH;clear c0 c1 c2 c3 c4 d0 d1 d2 d3 d4 d5 d6;obtain⟨c0,c1,c2,c3,c4,-⟩:=zb (HH.out.boxAt 0 rfl);obtain⟨d0,d1,d2,d3,d4,d5,d6,-⟩:=za (HH.out.boxAt 1 rfl)))
          go_ret
          exact⟨rfl,HH.out.ext⟩
        | true=>
          have HV2:=hiD (show V=ob by rw [HV.out,HX.out];simp)
          clear HX HV
          go_upto_region 4 with(first | (go_at_call 73;with_reducible refine cX HH (HPa.out _) ?_;clear HH;intro wp HH;clear c0 c1 c2 c3 c4 d0 d1 d2 d3 d4 d5 d6;obtain⟨c0,c1,c2,c3,c4,-⟩:=zb (HH.out.boxAt 0 rfl);obtain⟨d0,d1,d2,d3,d4,d5,d6,-⟩:=za (HH.out.boxAt 1 rfl)) | (go_at_call 31;with_reducible refine cX HH (HFu.out _ HH.out.ext) ?_;clear HH;intro wq HH;clear c0 c1 c2 c3 c4 d0 d1 d2 d3 d4 d5 d6;obtain⟨c0,c1,c2,c3,c4,-⟩:=zb (HH.out.boxAt 0 rfl);obtain⟨d0,d1,d2,d3,d4,d5,d6,-⟩:=za (HH.out.boxAt 1 rfl)) | (go_at_call 75;with_reducible refine cX HH (HBk.out _ HH.out.ext) ?_;clear HH;intro wb HH;clear c0 c1 c2 c3 c4 d0 d1 d2 d3 d4 d5 d6;obtain⟨c0,c1,c2,c3,c4,-⟩:=zb (HH.out.boxAt 0 rfl);obtain⟨d0,d1,d2,d3,d4,d5,d6,-⟩:=za (HH.out.boxAt 1 rfl)) | (go_at_call 56;with_reducible refine cX HH (HPr.out _ HH.out.ext) ?_;clear HH;intro wo HH;clear c0 c1 c2 c3 c4 d0 d1 d2 d3 d4 d5 d6;obtain⟨c0,c1,c2,c3,c4,-⟩:=zb (HH.out.boxAt 0 rfl);obtain⟨d0,d1,d2,d3,d4,d5,d6,-⟩:=za (HH.out.boxAt 1 rfl)) | (go_at_call 76;with_reducible refine cX HH (HSn.out _ HH.out.ext) ?_;clear HH;intro wn HH;clear c0 c1 c2 c3 c4 d0 d1 d2 d3 d4 d5 d6;obtain⟨c0,c1,c2,c3,c4,-⟩:=zb (HH.out.boxAt 0 rfl);obtain⟨d0,d1,d2,d3,d4,d5,d6,-⟩:=za (HH.out.boxAt 1 rfl)))
          clear c0 c1 c2 c3 c4 d0 d1 d2 d3 d4 d5 d6 HFu HBk HPr HSn HPa
          by_cases h0:orig.size=0
          ·obtain rfl:=ql orig h0
           obtain rfl:V=true:=by rw [HV2.out,HO.out];rfl
           clear HV2 HO h0
           go_wp2_with (refine l1X HH 0 ?_)
           go_ret
           exact⟨rfl,HH.out.ext⟩
          ·have hne:orig.toList.isEmpty=false:=by rw [abJ];exact decide_eq_false h0
           have h0':decide (orig.size=0)=false:=decide_eq_false h0
           rw [h0',Bool.false_or]at HO
           have HV:=hiD (HV2.out.trans HO.out)
           clear HV2 HO h0 h0'
           go_upto_region 6 with(refine l1X HH 0 ?_)
           go_wp2_with (refine l1X HH 0 ?_)
           refine cX HH (HSp.out _ HH.out.ext) ?_
           clear HH
           intro w2 HH2
           clear HSp
           have HH:=HH2
           clear HH2
           cases hsp:abg orig with
           | false=>
             rw [hsp]at HV
             obtain rfl:V=false:=HV.out
             rw [if_neg (by decide)]
             go_wp2_with (refine lSX HH zt 1 ?_)
             refine(HFi.out _ HH.out.ext _).mono ?_
             rintro e w3 ⟨rfl,e3⟩
             have HE:=hiD (HH.out.ext.trans e3)
             go_wp2_with fail
             go_ret
             exact⟨rfl,HE.out⟩
           | true=>
             rw [hsp,Bool.true_and]at HV
             rw [if_pos rfl]
             go_wp2_with (refine lSX HH zt 1 ?_)
             refine cX HH (HFi.out _ HH.out.ext _) ?_
             clear HH
             intro w3 HH3
             have HH:=HH3
             clear HH3
             have HAt2:=hiD (HAt.out (zT orig))
             have HLe2:=hiD (HLe.out (zT orig))
             have HSO:=hiD (show snO ss (zT orig) (yP orig)=zC (fun x:Sna=>decide (x.name=yP orig)) ((ss.map fun x=>x.snaps.xs).getD (atS ss (zT orig)).toNat [])from rfl)
             generalize snO ss (zT orig) (yP orig)=so at *
             generalize atS ss (zT orig)=at_ at *
             generalize zT orig=sp at *
             generalize yP orig=sq at *
             clear HAt HLe HFi
             have c0:=(HH.out.boxAt 0 rfl).cell 0 _ rfl
             by_cases hpa:sp=path
             ·have hd:(sp.toList == path.toList)=true:=by rw [HD.out];exact decide_eq_true hpa
              obtain rfl:V=false:=by rw [HV.out];simp [hpa]
              clear HV HD HAt2 hpa
              go_wp2_with fail
              go_ret
              exact⟨rfl,HH.out.ext⟩
             ·have hd:(sp.toList == path.toList)=false:=by rw [HD.out];exact decide_eq_false hpa
              rw [show decide (sp≠path)=true from decide_eq_true hpa,Bool.true_and]at HV
              by_cases hat:0≤at_
              ·have hd2:decide (0≤at_)=true:=decide_eq_true hat
               rw [hd2,Bool.true_and]at HV
               obtain⟨k,rfl⟩: ∃k:Nat,at_=(k:Int):=⟨at_.toNat,by omega⟩
               have hkn:k < ss.length:=by have:=HLe2.out;omega
               obtain⟨b1,o1,hA1,_,hb1,G⟩:=zh (size:=5) (fun _=>rfl) (by omega) (HA.out.rd.ext HH.out.ext (Nat.le_refl _)) hkn
               dsimp only at hA1
               subst hA1
               have HCs:=hiD (HSq.out k hkn w3 HH.out.ext sq)
               rw [Int.toNat_natCast,List.getD_eq_getElem?_getD,List.getElem?_map,List.getElem?_eq_getElem hkn]at HSO
               dsimp only [Option.map_some,Option.getD_some]at HSO
               rw [←HSO.out]at HCs
               clear HSO HAt2
               generalize ss[k]=y at *
               obtain⟨ya,yb,⟨y1,y2,y3,y4⟩,⟨y5,y6,y7,y8⟩,⟨z1,z2,z3,z4⟩⟩:=y
               have g0:=G 0 _ rfl
               have g1:=G 1 _ rfl
               have g2:=G 2 _ rfl
               have g3:=G 3 _ rfl
               have g4:=G 4 _ rfl
               simp only [Nat.add_zero,Sl.val]at g0 g1 g2 g3 g4
               dsimp only at HCs
               have c3:=(HH.out.boxAt 1 rfl).cell 3 _ rfl
               have hks:(k:Int) < (sn_:Int):=by have:=Hsn.out;omega
               have hk0:(0:Int)≤(k:Int):=by omega
               clear G hd2 hat
               go_wp2_with fail
               refine HCs.out.mono ?_
               rintro e w4 ⟨rfl,e4⟩
               have HE:=hiD (HH.out.ext.trans e4)
               go_wp2_with fail
               go_ret
               exact⟨aaP (by rw [HV.out]),HE.out⟩
              ·have hd2:decide (0≤at_)=false:=decide_eq_false hat
               rw [hd2,Bool.false_and]at HV
               obtain rfl:V=false:=HV.out
               clear HAt2 HLe2 HSO hat
               go_wp2_with fail
               go_ret
               exact⟨rfl,HH.out.ext⟩
       ·have qp:(pe == 0)=false:=by rw [beq_eq_false_iff_ne];exact hpe
        have qp2:(pe != 0)=true:=by rw [bne_iff_ne];exact hpe
        have qp3:decide (pe=0)=false:=decide_eq_false hpe
        obtain rfl:V=false:=by rw [HV.out,HX.out,qp3];simp
        clear HX HV
        go_wp2_with (first | (go_at_call 73;with_reducible refine cX HH (HPa.out _) ?_;clear HH;intro wp HH;clear c0 c1 c2 c3 c4 d0 d1 d2 d3 d4 d5 d6;obtain⟨c0,c1,c2,c3,c4,-⟩:=zb (HH.out.boxAt 0 rfl);obtain⟨d0,d1,d2,d3,d4,d5,d6,-⟩:=za (HH.out.boxAt 1 rfl)) | (go_at_call 31;with_reducible refine cX HH (HFu.out _ HH.out.ext) ?_;clear HH;intro wq HH;clear c0 c1 c2 c3 c4 d0 d1 d2 d3 d4 d5 d6;obtain⟨c0,c1,c2,c3,c4,-⟩:=zb (HH.out.boxAt 0 rfl);obtain⟨d0,d1,d2,d3,d4,d5,d6,-⟩:=za (HH.out.boxAt 1 rfl)) | (go_at_call 75;with_reducible refine cX HH (HBk.out _ HH.out.ext) ?_;clear HH;intro wb HH;clear c0 c1 c2 c3 c4 d0 d1 d2 d3 d4 d5 d6;obtain⟨c0,c1,c2,c3,c4,-⟩:=zb (HH.out.boxAt 0 rfl);obtain⟨d0,d1,d2,d3,d4,d5,d6,-⟩:=za (HH.out.boxAt 1 rfl)) | (go_at_call 56;with_reducible refine cX HH (HPr.out _ HH.out.ext) ?_;clear HH;intro wo HH;clear c0 c1 c2 c3 c4 d0 d1 d2 d3 d4 d5 d6;obtain⟨c0,c1,c2,c3,c4,-⟩:=zb (HH.out.boxAt 0 rfl);obtain⟨d0,d1,d2,d3,d4,d5,d6,-⟩:=za (HH.out.boxAt 1 rfl)) | (go_at_call 76;with_reducible refine cX HH (HSn.out _ HH.out.ext) ?_;clear HH;intro wn HH;clear c0 c1 c2 c3 c4 d0 d1 d2 d3 d4 d5 d6;obtain⟨c0,c1,c2,c3,c4,-⟩:=zb (HH.out.boxAt 0 rfl);obtain⟨d0,d1,d2,d3,d4,d5,d6,-⟩:=za (HH.out.boxAt 1 rfl)))
        go_ret
        exact⟨rfl,HH.out.ext⟩
      ·have qb:(bk == 0)=false:=by rw [beq_eq_false_iff_ne];exact hbk
       have qb2:(bk != 0)=true:=by rw [bne_iff_ne];exact hbk
       have qb3:decide (bk=0)=false:=decide_eq_false hbk
       obtain rfl:V=false:=by rw [HV.out,HX.out,qb3];simp
       clear HX HV
       go_wp2_with (first | (go_at_call 73;with_reducible refine cX HH (HPa.out _) ?_;clear HH;intro wp HH;clear c0 c1 c2 c3 c4 d0 d1 d2 d3 d4 d5 d6;obtain⟨c0,c1,c2,c3,c4,-⟩:=zb (HH.out.boxAt 0 rfl);obtain⟨d0,d1,d2,d3,d4,d5,d6,-⟩:=za (HH.out.boxAt 1 rfl)) | (go_at_call 31;with_reducible refine cX HH (HFu.out _ HH.out.ext) ?_;clear HH;intro wq HH;clear c0 c1 c2 c3 c4 d0 d1 d2 d3 d4 d5 d6;obtain⟨c0,c1,c2,c3,c4,-⟩:=zb (HH.out.boxAt 0 rfl);obtain⟨d0,d1,d2,d3,d4,d5,d6,-⟩:=za (HH.out.boxAt 1 rfl)) | (go_at_call 75;with_reducible refine cX HH (HBk.out _ HH.out.ext) ?_;clear HH;intro wb HH;clear c0 c1 c2 c3 c4 d0 d1 d2 d3 d4 d5 d6;obtain⟨c0,c1,c2,c3,c4,-⟩:=zb (HH.out.boxAt 0 rfl);obtain⟨d0,d1,d2,d3,d4,d5,d6,-⟩:=za (HH.out.boxAt 1 rfl)) | (go_at_call 56;with_reducible refine cX HH (HPr.out _ HH.out.ext) ?_;clear HH;intro wo HH;clear c0 c1 c2 c3 c4 d0 d1 d2 d3 d4 d5 d6;obtain⟨c0,c1,c2,c3,c4,-⟩:=zb (HH.out.boxAt 0 rfl);obtain⟨d0,d1,d2,d3,d4,d5,d6,-⟩:=za (HH.out.boxAt 1 rfl)) | (go_at_call 76;with_reducible refine cX HH (HSn.out _ HH.out.ext) ?_;clear HH;intro wn HH;clear c0 c1 c2 c3 c4 d0 d1 d2 d3 d4 d5 d6;obtain⟨c0,c1,c2,c3,c4,-⟩:=zb (HH.out.boxAt 0 rfl);obtain⟨d0,d1,d2,d3,d4,d5,d6,-⟩:=za (HH.out.boxAt 1 rfl)))
       go_ret
       exact⟨rfl,HH.out.ext⟩
    | true=>
      have qf:decide (fi < 0)=false:=decide_eq_false (fun h=>HBad.out ⟨rfl,h⟩)
      clear HBad
      by_cases hbk:bk=0
      ·subst hbk
       by_cases hpe:pe=0
       ·subst hpe
        cases sn with
        | false=>
          obtain rfl:V=false:=by rw [HV.out,HX.out];simp
          clear HX HV
          go_wp2_with (first | (go_at_call 73;with_reducible refine cX HH (HPa.out _) ?_;clear HH;intro wp HH;clear c0 c1 c2 c3 c4 d0 d1 d2 d3 d4 d5 d6;obtain⟨c0,c1,c2,c3,c4,-⟩:=zb (HH.out.boxAt 0 rfl);obtain⟨d0,d1,d2,d3,d4,d5,d6,-⟩:=za (HH.out.boxAt 1 rfl)) | (go_at_call 31;with_reducible refine cX HH (HFu.out _ HH.out.ext) ?_;clear HH;intro wq HH;clear c0 c1 c2 c3 c4 d0 d1 d2 d3 d4 d5 d6;obtain⟨c0,c1,c2,c3,c4,-⟩:=zb (HH.out.boxAt 0 rfl);obtain⟨d0,d1,d2,d3,d4,d5,d6,-⟩:=za (HH.out.boxAt 1 rfl)) | (go_at_call 75;with_reducible refine cX HH (HBk.out _ HH.out.ext) ?_;clear HH;intro wb HH;clear c0 c1 c2 c3 c4 d0 d1 d2 d3 d4 d5 d6;obtain⟨c0,c1,c2,c3,c4,-⟩:=zb (HH.out.boxAt 0 rfl);obtain⟨d0,d1,d2,d3,d4,d5,d6,-⟩:=za (HH.out.boxAt 1 rfl)) | (go_at_call 56;with_reducible refine cX HH (HPr.out _ HH.out.ext) ?_;clear HH;intro wo HH;clear c0 c1 c2 c3 c4 d0 d1 d2 d3 d4 d5 d6;obtain⟨c0,c1,c2,c3,c4,-⟩:=zb (HH.out.boxAt 0 rfl);obtain⟨d0,d1,d2,d3,d4,d5,d6,-⟩:=za (HH.out.boxAt 1 rfl)) | (go_at_call 76;with_reducible refine cX HH (HSn.out _ HH.out.ext) ?_;clear HH;intro wn HH;clear c0 c1 c2 c3 c4 d0 d1 d2 d3 d4 d5 d6;obtain⟨c0,c1,c2,c3,c4,-⟩:=zb (HH.out.boxAt 0 rfl);obtain⟨d0,d1,d2,d3,d4,d5,d6,-⟩:=za (HH.out.boxAt 1 rfl)))
          go_ret
          exact⟨rfl,HH.out.ext⟩
        | true=>
          have HV2:=hiD (show V=ob by rw [HV.out,HX.out];simp)
          clear HX HV
          go_upto_region 4 with(first | (go_at_call 73;with_reducible refine cX HH (HPa.out _) ?_;clear HH;intro wp HH;clear c0 c1 c2 c3 c4 d0 d1 d2 d3 d4 d5 d6;obtain⟨c0,c1,c2,c3,c4,-⟩:=zb (HH.out.boxAt 0 rfl);obtain⟨d0,d1,d2,d3,d4,d5,d6,-⟩:=za (HH.out.boxAt 1 rfl)) | (go_at_call 31;with_reducible refine cX HH (HFu.out _ HH.out.ext) ?_;clear HH;intro wq HH;clear c0 c1 c2 c3 c4 d0 d1 d2 d3 d4 d5 d6;obtain⟨c0,c1,c2,c3,c4,-⟩:=zb (HH.out.boxAt 0 rfl);obtain⟨d0,d1,d2,d3,d4,d5,d6,-⟩:=za (HH.out.boxAt 1 rfl)) | (go_at_call 75;with_reducible refine cX HH (HBk.out _ HH.out.ext) ?_;clear HH;intro wb HH;clear c0 c1 c2 c3 c4 d0 d1 d2 d3 d4 d5 d6;obtain⟨c0,c1,c2,c3,c4,-⟩:=zb (HH.out.boxAt 0 rfl);obtain⟨d0,d1,d2,d3,d4,d5,d6,-⟩:=za (HH.out.boxAt 1 rfl)) | (go_at_call 56;with_reducible refine cX HH (HPr.out _ HH.out.ext) ?_;clear HH;intro wo HH;clear c0 c1 c2 c3 c4 d0 d1 d2 d3 d4 d5 d6;obtain⟨c0,c1,c2,c3,c4,-⟩:=zb (HH.out.boxAt 0 rfl);obtain⟨d0,d1,d2,d3,d4,d5,d6,-⟩:=za (HH.out.boxAt 1 rfl)) | (go_at_call 76;with_reducible refine cX HH (HSn.out _ HH.out.ext) ?_;clear HH;intro wn HH;clear c0 c1 c2 c3 c4 d0 d1 d2 d3 d4 d5 d6;obtain⟨c0,c1,c2,c3,c4,-⟩:=zb (HH.out.boxAt 0 rfl);obtain⟨d0,d1,d2,d3,d4,d5,d6,-⟩:=za (HH.out.boxAt 1 rfl)))
          clear c0 c1 c2 c3 c4 d0 d1 d2 d3 d4 d5 d6 HFu HBk HPr HSn HPa
          by_cases h0:orig.size=0
          ·obtain rfl:=ql orig h0
           obtain rfl:V=true:=by rw [HV2.out,HO.out];rfl
           clear HV2 HO h0
           go_wp2_with (refine l1X HH 0 ?_)
           go_ret
           exact⟨rfl,HH.out.ext⟩
          ·have hne:orig.toList.isEmpty=false:=by rw [abJ];exact decide_eq_false h0
           have h0':decide (orig.size=0)=false:=decide_eq_false h0
           rw [h0',Bool.false_or]at HO
           have HV:=hiD (HV2.out.trans HO.out)
           clear HV2 HO h0 h0'
           go_upto_region 6 with(refine l1X HH 0 ?_)
           go_wp2_with (refine l1X HH 0 ?_)
           refine cX HH (HSp.out _ HH.out.ext) ?_
           clear HH
           intro w2 HH2
           clear HSp
           have HH:=HH2
           clear HH2
           cases hsp:abg orig with
           | false=>
             rw [hsp]at HV
             obtain rfl:V=false:=HV.out
             rw [if_neg (by decide)]
             go_wp2_with (refine lSX HH zt 1 ?_)
             refine(HFi.out _ HH.out.ext _).mono ?_
             rintro e w3 ⟨rfl,e3⟩
             have HE:=hiD (HH.out.ext.trans e3)
             go_wp2_with fail
             go_ret
             exact⟨rfl,HE.out⟩
           | true=>
             rw [hsp,Bool.true_and]at HV
             rw [if_pos rfl]
             go_wp2_with (refine lSX HH zt 1 ?_)
             refine cX HH (HFi.out _ HH.out.ext _) ?_
             clear HH
             intro w3 HH3
             have HH:=HH3
             clear HH3
             have HAt2:=hiD (HAt.out (zT orig))
             have HLe2:=hiD (HLe.out (zT orig))
             have HSO:=hiD (show snO ss (zT orig) (yP orig)=zC (fun x:Sna=>decide (x.name=yP orig)) ((ss.map fun x=>x.snaps.xs).getD (atS ss (zT orig)).toNat [])from rfl)
             generalize snO ss (zT orig) (yP orig)=so at *
             generalize atS ss (zT orig)=at_ at *
             generalize zT orig=sp at *
             generalize yP orig=sq at *
             clear HAt HLe HFi
             have c0:=(HH.out.boxAt 0 rfl).cell 0 _ rfl
             by_cases hpa:sp=path
             ·have hd:(sp.toList == path.toList)=true:=by rw [HD.out];exact decide_eq_true hpa
              obtain rfl:V=false:=by rw [HV.out];simp [hpa]
              clear HV HD HAt2 hpa
              go_wp2_with fail
              go_ret
              exact⟨rfl,HH.out.ext⟩
             ·have hd:(sp.toList == path.toList)=false:=by rw [HD.out];exact decide_eq_false hpa
              rw [show decide (sp≠path)=true from decide_eq_true hpa,Bool.true_and]at HV
              by_cases hat:0≤at_
              ·have hd2:decide (0≤at_)=true:=decide_eq_true hat
               rw [hd2,Bool.true_and]at HV
               obtain⟨k,rfl⟩: ∃k:Nat,at_=(k:Int):=⟨at_.toNat,by omega⟩
               have hkn:k < ss.length:=by have:=HLe2.out;omega
               obtain⟨b1,o1,hA1,_,hb1,G⟩:=zh (size:=5) (fun _=>rfl) (by omega) (HA.out.rd.ext HH.out.ext (Nat.le_refl _)) hkn
               dsimp only at hA1
               subst hA1
               have HCs:=hiD (HSq.out k hkn w3 HH.out.ext sq)
               rw [Int.toNat_natCast,List.getD_eq_getElem?_getD,List.getElem?_map,List.getElem?_eq_getElem hkn]at HSO
               dsimp only [Option.map_some,Option.getD_some]at HSO
               rw [←HSO.out]at HCs
               clear HSO HAt2
               generalize ss[k]=y at *
               obtain⟨ya,yb,⟨y1,y2,y3,y4⟩,⟨y5,y6,y7,y8⟩,⟨z1,z2,z3,z4⟩⟩:=y
               have g0:=G 0 _ rfl
               have g1:=G 1 _ rfl
               have g2:=G 2 _ rfl
               have g3:=G 3 _ rfl
               have g4:=G 4 _ rfl
               simp only [Nat.add_zero,Sl.val]at g0 g1 g2 g3 g4
               dsimp only at HCs
               have c3:=(HH.out.boxAt 1 rfl).cell 3 _ rfl
               have hks:(k:Int) < (sn_:Int):=by have:=Hsn.out;omega
               have hk0:(0:Int)≤(k:Int):=by omega
               clear G hd2 hat
               go_wp2_with fail
               refine HCs.out.mono ?_
               rintro e w4 ⟨rfl,e4⟩
               have HE:=hiD (HH.out.ext.trans e4)
               go_wp2_with fail
               go_ret
               exact⟨aaP (by rw [HV.out]),HE.out⟩
              ·have hd2:decide (0≤at_)=false:=decide_eq_false hat
               rw [hd2,Bool.false_and]at HV
               obtain rfl:V=false:=HV.out
               clear HAt2 HLe2 HSO hat
               go_wp2_with fail
               go_ret
               exact⟨rfl,HH.out.ext⟩
       ·have qp:(pe == 0)=false:=by rw [beq_eq_false_iff_ne];exact hpe
        have qp2:(pe != 0)=true:=by rw [bne_iff_ne];exact hpe
        have qp3:decide (pe=0)=false:=decide_eq_false hpe
        obtain rfl:V=false:=by rw [HV.out,HX.out,qp3];simp
        clear HX HV
        go_wp2_with (first | (go_at_call 73;with_reducible refine cX HH (HPa.out _) ?_;clear HH;intro wp HH;clear c0 c1 c2 c3 c4 d0 d1 d2 d3 d4 d5 d6;obtain⟨c0,c1,c2,c3,c4,-⟩:=zb (HH.out.boxAt 0 rfl);obtain⟨d0,d1,d2,d3,d4,d5,d6,-⟩:=za (HH.out.boxAt 1 rfl)) | (go_at_call 31;with_reducible refine cX HH (HFu.out _ HH.out.ext) ?_;clear HH;intro wq HH;clear c0 c1 c2 c3 c4 d0 d1 d2 d3 d4 d5 d6;obtain⟨c0,c1,c2,c3,c4,-⟩:=zb (HH.out.boxAt 0 rfl);obtain⟨d0,d1,d2,d3,d4,d5,d6,-⟩:=za (HH.out.boxAt 1 rfl)) | (go_at_call 75;with_reducible refine cX HH (HBk.out _ HH.out.ext) ?_;clear HH;intro wb HH;clear c0 c1 c2 c3 c4 d0 d1 d2 d3 d4 d5 d6;obtain⟨c0,c1,c2,c3,c4,-⟩:=zb (HH.out.boxAt 0 rfl);obtain⟨d0,d1,d2,d3,d4,d5,d6,-⟩:=za (HH.out.boxAt 1 rfl)) | (go_at_call 56;with_reducible refine cX HH (HPr.out _ HH.out.ext) ?_;clear HH;intro wo HH;clear c0 c1 c2 c3 c4 d0 d1 d2 d3 d4 d5 d6;obtain⟨c0,c1,c2,c3,c4,-⟩:=zb (HH.out.boxAt 0 rfl);obtain⟨d0,d1,d2,d3,d4,d5,d6,-⟩:=za (HH.out.boxAt 1 rfl)) | (go_at_call 76;with_reducible refine cX HH (HSn.out _ HH.out.ext) ?_;clear HH;intro wn HH;clear c0 c1 c2 c3 c4 d0 d1 d2 d3 d4 d5 d6;obtain⟨c0,c1,c2,c3,c4,-⟩:=zb (HH.out.boxAt 0 rfl);obtain⟨d0,d1,d2,d3,d4,d5,d6,-⟩:=za (HH.out.boxAt 1 rfl)))
        go_ret
        exact⟨rfl,HH.out.ext⟩
      ·have qb:(bk == 0)=false:=by rw [beq_eq_false_iff_ne];exact hbk
       have qb2:(bk != 0)=true:=by rw [bne_iff_ne];exact hbk
       have qb3:decide (bk=0)=false:=decide_eq_false hbk
       obtain rfl:V=false:=by rw [HV.out,HX.out,qb3];simp
       clear HX HV
       go_wp2_with (first | (go_at_call 73;with_reducible refine cX HH (HPa.out _) ?_;clear HH;intro wp HH;clear c0 c1 c2 c3 c4 d0 d1 d2 d3 d4 d5 d6;obtain⟨c0,c1,c2,c3,c4,-⟩:=zb (HH.out.boxAt 0 rfl);obtain⟨d0,d1,d2,d3,d4,d5,d6,-⟩:=za (HH.out.boxAt 1 rfl)) | (go_at_call 31;with_reducible refine cX HH (HFu.out _ HH.out.ext) ?_;clear HH;intro wq HH;clear c0 c1 c2 c3 c4 d0 d1 d2 d3 d4 d5 d6;obtain⟨c0,c1,c2,c3,c4,-⟩:=zb (HH.out.boxAt 0 rfl);obtain⟨d0,d1,d2,d3,d4,d5,d6,-⟩:=za (HH.out.boxAt 1 rfl)) | (go_at_call 75;with_reducible refine cX HH (HBk.out _ HH.out.ext) ?_;clear HH;intro wb HH;clear c0 c1 c2 c3 c4 d0 d1 d2 d3 d4 d5 d6;obtain⟨c0,c1,c2,c3,c4,-⟩:=zb (HH.out.boxAt 0 rfl);obtain⟨d0,d1,d2,d3,d4,d5,d6,-⟩:=za (HH.out.boxAt 1 rfl)) | (go_at_call 56;with_reducible refine cX HH (HPr.out _ HH.out.ext) ?_;clear HH;intro wo HH;clear c0 c1 c2 c3 c4 d0 d1 d2 d3 d4 d5 d6;obtain⟨c0,c1,c2,c3,c4,-⟩:=zb (HH.out.boxAt 0 rfl);obtain⟨d0,d1,d2,d3,d4,d5,d6,-⟩:=za (HH.out.boxAt 1 rfl)) | (go_at_call 76;with_reducible refine cX HH (HSn.out _ HH.out.ext) ?_;clear HH;intro wn HH;clear c0 c1 c2 c3 c4 d0 d1 d2 d3 d4 d5 d6;obtain⟨c0,c1,c2,c3,c4,-⟩:=zb (HH.out.boxAt 0 rfl);obtain⟨d0,d1,d2,d3,d4,d5,d6,-⟩:=za (HH.out.boxAt 1 rfl)))
       go_ret
       exact⟨rfl,HH.out.ext⟩
end Go.Proofs.YtckaneapjpiocaaGreatDoor
