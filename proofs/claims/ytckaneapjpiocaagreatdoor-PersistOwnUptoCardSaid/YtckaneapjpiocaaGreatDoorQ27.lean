/- The texts Tr7 in one file. -/
import Derived.Test.YtckaneapjpiocaaGreatDoorQ8
import Derived.Test.YtckaneapjpiocaaGreatDoorQ9
set_option linter.unusedVariables false
set_option linter.unusedSimpArgs false
set_option maxHeartbeats 8000000
set_option maxRecDepth 100000
namespace Go.Proofs.YtckaneapjpiocaaGreatDoor
open Go.RowKit Go.Maps Go.Sort Go.Shelf
theorem ajx(w:World)(t:Tnt)(x:Dst)(hM:xf w)(ht:Sl.At w 0 w.heap.size Dst.cells (Dst.At w 0 w.heap.size) t.sets)(hx:sml x.origin):
 Calls Tryz.prog 141 #[.agg t.cells.toArray,.agg x.cells.toArray] w fun e w'=>e= .returned (.bool (orB t.sets.xs x))∧Ext w w':=by
 have HMx:=hiD hM
 have HA:=hiD ht
 have HSp:=hiD (fun W (hW:Ext w W)=>aiw x.origin W (hM.ext hW) hx)
 have HFi:=hiD (fun W (hW:Ext w W) s=>aha W t s (yG ht hW (Nat.le_refl _) fun _ h=>Dst.At.on h hW (Nat.le_refl _)))
 have HAt:=hiD (fun s (h:0≤atS t.sets.xs s)=>abX (fun x:Dst=>decide (x.path=s)) t.sets.xs h)
 have HLe:=hiD (fun s=>show atS t.sets.xs s < (t.sets.xs.length:Int)from(ae0 _ _).2)
 have HSn:=hiD (fun(k:Nat) (hk:k < t.sets.xs.length) W (hW:Ext w W) s=>amT W t.sets.xs[k] s (yG (ht.all _ (List.getElem_mem hk)).snaps hW (Nat.le_refl _) fun _ h=>Sna.At.on h hW (Nat.le_refl _)))
 have HV:=hiD (show orB t.sets.xs x=(decide (x.origin.size=0) || (abg x.origin && (decide (zT x.origin≠x.path) && (decide (0≤atS t.sets.xs (zT x.origin)) && decide (0≤snO t.sets.xs (zT x.origin) (yP x.origin))))))from rfl)
 have HD:=hiD (yW (zT x.origin) x.path)
 generalize orB t.sets.xs x=V at *
 clear hM ht hx
 obtain⟨name,quota,next,⟨sA,sn,sc,ss⟩,⟨gA,gn,gc,gs⟩,⟨aA,an,ac,ax⟩,⟨lA,ln,lc,ls⟩⟩:=t
 obtain⟨path,orig,⟨bA,bn,bc,bd⟩,⟨fA,fn,fc,fs⟩,⟨pA,pn,pc,ps⟩⟩:=x
 have Hsn:=hiD (show sn=ss.length from HA.out.len)
 dsimp only at HSp HFi HAt HLe HSn HV HD
 simp only [Tnt.cells,Dst.cells,Sl.val]at HFi HSn ⊢
 by_cases h0:orig.size=0
 ·obtain rfl:=ql orig h0
  obtain rfl:V=true:=by rw [HV.out];rfl
  go_enter Tryz.func141,Tryz.ntmps141
  go_upto_region 1 with fail
  generalize hwH:World.alloc (World.alloc w _) _=w1;have HH:=hiD (Heap.two hwH);clear hwH
  go_wp2_with (refine l1X HH 0 ?_)
  go_ret
  exact⟨rfl,HH.out.ext⟩
 ·have hne:orig.toList.isEmpty=false:=by
   cases hq:orig.toList.isEmpty with
   | false=>rfl
   | true=>
     rw [List.isEmpty_iff]at hq
     exact absurd (by rw [←zv,←Lib.toList_data,hq];rfl) h0
  have h0':decide (orig.size=0)=false:=decide_eq_false h0
  rw [h0',Bool.false_or]at HV
  go_enter Tryz.func141,Tryz.ntmps141
  go_upto_region 1 with fail
  generalize hwH:World.alloc (World.alloc w _) _=w1;have HH:=hiD (Heap.two hwH);clear hwH
  go_upto_region 3 with(refine l1X HH 0 ?_)
  go_wp2_with (refine l1X HH 0 ?_)
  refine cX HH (HSp.out _ HH.out.ext) ?_
  clear HH
  intro w2 HH2
  clear HSp
  have HH:=HH2
  clear HH2
  cases hsp:abg orig with
  | false=>
    rw [hsp]at HV
    obtain rfl:V=false:=HV.out
    rw [if_neg (by decide)]
    go_wp2_with (refine lSX HH zt 1 ?_)
    refine(HFi.out _ HH.out.ext _).mono ?_
    rintro e w3 ⟨rfl,e3⟩
    have HE:=hiD (HH.out.ext.trans e3)
    go_wp2_with fail
    go_ret
    exact⟨rfl,HE.out⟩
  | true=>
    rw [hsp,Bool.true_and]at HV
    rw [if_pos rfl]
    go_wp2_with (refine lSX HH zt 1 ?_)
    refine cX HH (HFi.out _ HH.out.ext _) ?_
    clear HH
    intro w3 HH3
    have HH:=HH3
    clear HH3
    have HAt2:=hiD (HAt.out (zT orig))
    have HLe2:=hiD (HLe.out (zT orig))
    have HSO:=hiD (show snO ss (zT orig) (yP orig)=zC (fun x:Sna=>decide (x.name=yP orig)) ((ss.map fun x=>x.snaps.xs).getD (atS ss (zT orig)).toNat [])from rfl)
    generalize snO ss (zT orig) (yP orig)=so at *
    generalize atS ss (zT orig)=at_ at *
    generalize zT orig=sp at *
    generalize yP orig=sq at *
    clear HAt HLe HFi
    have c0:=(HH.out.boxAt 0 rfl).cell 0 _ rfl
    by_cases hpa:sp=path
    ·have hd:(sp.toList == path.toList)=true:=by rw [HD.out];exact decide_eq_true hpa
     obtain rfl:V=false:=by rw [HV.out];simp [hpa]
     clear HV HD HAt2 hpa
     go_wp2_with fail
     go_ret
     exact⟨rfl,HH.out.ext⟩
    ·have hd:(sp.toList == path.toList)=false:=by rw [HD.out];exact decide_eq_false hpa
     rw [show decide (sp≠path)=true from decide_eq_true hpa,Bool.true_and]at HV
     by_cases hat:0≤at_
     ·have hd2:decide (0≤at_)=true:=decide_eq_true hat
      rw [hd2,Bool.true_and]at HV
      obtain⟨k,rfl⟩: ∃k:Nat,at_=(k:Int):=⟨at_.toNat,by omega⟩
      have hkn:k < ss.length:=by have:=HLe2.out;omega
      obtain⟨b1,o1,hA1,_,hb1,G⟩:=zh (size:=5) (fun _=>rfl) (by omega) (HA.out.rd.ext HH.out.ext (Nat.le_refl _)) hkn
      dsimp only at hA1
      subst hA1
      have HCs:=hiD (HSn.out k hkn w3 HH.out.ext sq)
      rw [Int.toNat_natCast,List.getD_eq_getElem?_getD,List.getElem?_map,List.getElem?_eq_getElem hkn]at HSO
      dsimp only [Option.map_some,Option.getD_some]at HSO
      rw [←HSO.out]at HCs
      clear HSO HAt2
      generalize ss[k]=y at *
      obtain⟨ya,yb,⟨y1,y2,y3,y4⟩,⟨y5,y6,y7,y8⟩,⟨z1,z2,z3,z4⟩⟩:=y
      have g0:=G 0 _ rfl
      have g1:=G 1 _ rfl
      have g2:=G 2 _ rfl
      have g3:=G 3 _ rfl
      have g4:=G 4 _ rfl
      simp only [Nat.add_zero,Sl.val]at g0 g1 g2 g3 g4
      dsimp only at HCs
      have c3:=(HH.out.boxAt 1 rfl).cell 3 _ rfl
      have hks:(k:Int) < (sn:Int):=by have:=Hsn.out;omega
      have hk0:(0:Int)≤(k:Int):=by omega
      clear G hd2 hat
      go_wp2_with fail
      refine HCs.out.mono ?_
      rintro e w4 ⟨rfl,e4⟩
      have HE:=hiD (HH.out.ext.trans e4)
      go_wp2_with fail
      go_ret
      exact⟨aaP (by rw [HV.out]),HE.out⟩
     ·have hd2:decide (0≤at_)=false:=decide_eq_false hat
      rw [hd2,Bool.false_and]at HV
      obtain rfl:V=false:=HV.out
      clear HAt2 HLe2 HSO hat
      go_wp2_with fail
      go_ret
      exact⟨rfl,HH.out.ext⟩
end Go.Proofs.YtckaneapjpiocaaGreatDoor
