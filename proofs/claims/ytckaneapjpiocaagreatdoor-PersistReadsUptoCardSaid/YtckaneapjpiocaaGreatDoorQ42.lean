/- The texts Rf5 in one file. -/
import Derived.Test.YtckaneapjpiocaaGreatDoorQ29
set_option linter.unusedVariables false
set_option linter.unusedSimpArgs false
set_option maxHeartbeats 16000000
set_option maxRecDepth 100000
namespace Go.Proofs.YtckaneapjpiocaaGreatDoor
open Go.RowKit Go.Maps Go.Sort Go.Shelf
def gk(x:Gra):Gra:=⟨x.user,x.path,0⟩
theorem aoB(yu yp us pa:ByteArray):ltG ⟨yu,yp,0⟩ ⟨us,pa,0⟩=(!(Op.bytesLess us.toList yu.toList || (yu.toList == us.toList && !lessB yp pa))):=by
 rw [yW]
 show(lessB yu us || (decide (yu=us) && lessB yp pa))=(!(lessB us yu || (decide (yu=us) && !lessB yp pa)))
 by_cases h:yu=us
 ·subst h
  rw [decide_eq_true rfl,aa7]
  cases lessB yp pa <;> rfl
 ·rw [decide_eq_false h]
  cases h1:lessB yu us with
  | true=>rw [aeB h1];rfl
  | false=>
    cases h2:lessB us yu with
    | true=>rfl
    | false=>exact absurd (acx h1 h2) h
def grE(l:List Gra):Int:=if grB l=true then 0 else 9
theorem aoI(l:List Gra)(k:Nat)(h:k < l.length)(hp:qz l[k]=false):grE l=9:=by
 have:grB l=false:=by rw [grB,aaf qz l k h hp];simp
 rw [grE,this];rfl
theorem an8(l:List Gra)(j:Nat)(h:j+1 < l.length)(hp:ltG l[j] l[j+1]=false):grE l=9:=by
 have:grB l=false:=by
  have h2:((List.range (l.length - 1)).all fun k=>ltG (l.getD k zG) (l.getD (k+1) zG))=false:=by
   rw [List.all_eq_false]
   refine⟨j,List.mem_range.2 (by omega),?_⟩
   simp [List.getD,List.getElem?_eq_getElem h,List.getElem?_eq_getElem (show j < l.length by omega),hp]
  rw [grB,h2];simp
 rw [grE,this];rfl
theorem anm(l:List Gra)(h1: ∀k (h:k < l.length),qz l[k]=true)(h2: ∀j (h:j+1 < l.length),ltG l[j] l[j+1]=true):grE l=if 16 < l.length then 9 else 0:=by
 have a:l.all qz=true:=List.all_eq_true.2 fun x hx=>by
  obtain⟨k,hk,rfl⟩:=List.getElem_of_mem hx
  exact h1 k hk
 have b:((List.range (l.length - 1)).all fun k=>ltG (l.getD k zG) (l.getD (k+1) zG))=true:=by
  rw [List.all_eq_true]
  intro k hk
  have hk:=List.mem_range.1 hk
  simp [List.getD,List.getElem?_eq_getElem (show k+1 < l.length by omega),List.getElem?_eq_getElem (show k < l.length by omega),h2 k (by omega)]
 have c:grB l=decide (l.length≤16):=by rw [grB,a,b];simp
 rw [grE,c]
 by_cases h:16 < l.length
 ·rw [if_pos h,decide_eq_false (by omega)];rfl
 ·rw [if_neg h,decide_eq_true (by omega)];rfl
theorem ahB(w:World)(s:Sl Gra)(h:Sl.At w 0 w.heap.size Gra.cells Gra.sm s):
 Calls Tryz.prog 32 #[s.val] w fun e w'=>e= .returned (.int .i64 (grE s.xs))∧Ext w w':=by
 have HA:=hiD h
 obtain⟨A,n,c,xs⟩:=s
 have Hn:=hiD (show n=xs.length from h.len)
 have hm:n≤9223372036854775807:=Nat.le_trans (Nat.le_trans h.le h.cap) (by decide)
 have H1:=hiD (aoI xs)
 have H2:=hiD (an8 xs)
 have HY:=hiD (anm xs)
 dsimp only
 generalize grE xs=V at *
 clear h
 simp only [Sl.val]
 go_enter Tryz.func32,Tryz.ntmps32
 go_wp2_with fail
 go_loopw [3,4] (fun v _ wr=> ∃k:Nat,k≤n∧v= .int .i64 (k:Int)∧Hid (∀j (h:j < xs.length),j < k→(qz xs[j]=true∧ ∀i (hi:j=i+1),ltG (gk (xs[i]'(by omega))) (gk xs[j])=true))∧Ext w wr) (fun v _ _=>n - (intOf v).toNat)
 case atStart=>exact⟨0,Nat.zero_le _,rfl,hiD (fun j h hj=>absurd hj (Nat.not_lt_zero _)),Ext.refl _⟩
 case round=>
  obtain⟨k,hk,rfl,HK,e1⟩:=hrel
  by_cases hlt:k < n
  ·have l1:k < xs.length:=by rw [←Hn.out];exact hlt
   obtain⟨b1,o1,hA1,_,hb1,G⟩:=zh (size:=3) (fun _=>rfl) (by omega) HA.out.rd l1
   dsimp only at hA1
   subst hA1
   have HSm:=hiD (HA.out.all _ (List.getElem_mem l1))
   have HB1:=hiD (fun hp=>H1.out k l1 hp)
   have HR0:=hiD (fun(j:Nat) (hj:k=j+1) (hp:ltG (gk (xs[j]'(by omega))) (gk xs[k])=false)=>show V=9 by subst hj;exact H2.out j l1 hp)
   have HT:=hiD (fun(h1:qz xs[k]=true) (h2: ∀i (hi:k=i+1),ltG (gk (xs[i]'(by omega))) (gk xs[k])=true)=>show∀j (h:j < xs.length),j < k+1→(qz xs[j]=true∧ ∀i (hi:j=i+1),ltG (gk (xs[i]'(by omega))) (gk xs[j])=true)from
    fun j h hj=>by
     rcases Nat.lt_or_ge j k with h9 | h9
     ·exact HK.out j h h9
     ·obtain rfl:j=k:=by omega
      exact⟨h1,h2⟩)
   have HPv:=hiD (fun(j:Nat) (hj:k=j+1)=>show∃yu yp:ByteArray,gk (xs[j]'(by omega))=⟨yu,yp,0⟩∧w.cell? ⟨b1,o1+j * 3,none⟩=some (.string yu)∧w.cell? ⟨b1,o1+j * 3+1,none⟩=some (.string yp)by
    obtain⟨b2,o2,hh,_,_,G2⟩:=zh (size:=3) (fun _=>rfl) (by omega) HA.out.rd (k:=j) (show j < xs.length by omega)
    obtain⟨rfl,rfl⟩:b1=b2∧o1=o2:=by simpa using hh
    exact⟨_,_,rfl,G2 0 _ rfl,G2 1 _ rfl⟩)
   have HNm:=hiD (fun W=>qN xs[k].user W (Nat.le_trans HSm.out.1 (by decide)))
   have HPa:=hiD (fun W=>aa8 xs[k].path W (Nat.lt_of_le_of_lt HSm.out.2.1 (by decide)))
   have HX:=hiD (show qz xs[k]=(zd xs[k].user && (zF xs[k].path && (decide (1≤xs[k].perms) && decide (xs[k].perms≤255))))from rfl)
   have HGw:=hiD (fun j u hu=>(Below.cell e1 hb1).trans (G j u hu))
   clear HSm G
   generalize xs[k]=x at *
   obtain⟨us,pa,pe⟩:=x
   dsimp only at HB1 HNm HPa HX
   (try simp only [gk]at HR0)
   (try simp only [gk]at HT)
   have HT2:=hiD (fun(h1:qz ⟨us,pa,pe⟩=true) (h2: ∀i (hi:k=i+1),ltG (gk (xs[i]'(by omega))) ⟨us,pa,0⟩=true)=>HT.out h1 h2)
   have HR2:=hiD (fun(j:Nat) (hj:k=j+1) (hp:ltG (gk (xs[j]'(by omega))) ⟨us,pa,0⟩=false)=>HR0.out j hj hp)
   clear HT HR0
   have HT:=HT2
   have HR0:=HR2
   clear HT2 HR2
   generalize qz _=sb at *
   generalize zd us=nb at *
   generalize zF pa=pb at *
   have hkn:(k:Int) < (n:Int):=by omega
   have HGc:=hiD (show∀j u,([.string us,.string pa,.int .i64 pe]:List Value)[j]?=some u→wr.cell? ⟨b1,o1+k * 3+j,none⟩=some u from HGw.out)
   have HH:=hiD ((Heap.start w).later e1)
   clear HGw e1
   go_upto_region 5 with(first | (refine yF HGc.out rfl abx (by kernel_rfl) rfl rfl rfl ?_) | (refine sSX (hiD (HH.out.alloc _ _)) abx 0 ?_;clear HH;intro wS HH))
   obtain⟨xb,hxb⟩: ∃b,b=wr.heap.size:=⟨_,rfl⟩
   rw [←hxb]at HH ⊢
   clear hxb HGc
   have HH2:=hiD (show Heap w [.box xb [.string us,.string pa,.int .i64 pe]] wS from HH.out)
   clear HH
   have HH:=HH2
   clear HH2
   obtain⟨c0,c1,c2,-⟩:=ach (HH.out.boxAt 0 rfl)
   cases nb with
   | false=>
     obtain rfl:V=9:=HB1.out (by rw [HX.out];simp)
     clear HT HR0 HB1 HX
     go_wp2_with (first | (go_at_call 29;refine cX HH (HNm.out _) ?_;clear HH;intro wp HH;clear c0 c1 c2;obtain⟨c0,c1,c2,-⟩:=ach (HH.out.boxAt 0 rfl)) | (go_at_call 73;refine cX HH (HPa.out _) ?_;clear HH;intro wq HH;clear c0 c1 c2;obtain⟨c0,c1,c2,-⟩:=ach (HH.out.boxAt 0 rfl)))
     go_ret
     exact⟨rfl,HH.out.ext⟩
   | true=>
     cases pb with
     | false=>
       obtain rfl:V=9:=HB1.out (by rw [HX.out];simp)
       clear HT HR0 HB1 HX
       go_wp2_with (first | (go_at_call 29;refine cX HH (HNm.out _) ?_;clear HH;intro wp HH;clear c0 c1 c2;obtain⟨c0,c1,c2,-⟩:=ach (HH.out.boxAt 0 rfl)) | (go_at_call 73;refine cX HH (HPa.out _) ?_;clear HH;intro wq HH;clear c0 c1 c2;obtain⟨c0,c1,c2,-⟩:=ach (HH.out.boxAt 0 rfl)))
       go_ret
       exact⟨rfl,HH.out.ext⟩
     | true=>
       by_cases hp1:1≤pe
       ·have hq1:decide (pe < 1)=false:=decide_eq_false (by omega)
        have hr1:decide (1≤pe)=true:=decide_eq_true hp1
        by_cases hp2:pe≤255
        ·have hq2:decide (255 < pe)=false:=decide_eq_false (by omega)
         have hr2:decide (pe≤255)=true:=decide_eq_true hp2
         rw [hr1,hr2]at HX
         go_upto_region 7 with(first | (go_at_call 29;refine cX HH (HNm.out _) ?_;clear HH;intro wp HH;clear c0 c1 c2;obtain⟨c0,c1,c2,-⟩:=ach (HH.out.boxAt 0 rfl)) | (go_at_call 73;refine cX HH (HPa.out _) ?_;clear HH;intro wq HH;clear c0 c1 c2;obtain⟨c0,c1,c2,-⟩:=ach (HH.out.boxAt 0 rfl)))
         clear hq1 hr1 hq2 hr2 hp1 hp2 c0 c1 c2
         have HHd:=hiD HH.out.drew
         clear HH
         refine wp_region_held_drew (S:=Heap w [.box xb [.string us,.string pa,.int .i64 pe]]) (by kernel_rfl) HHd.out (fun hHeld=>?_)
         generalize World.drew _=wd at *
         refine tW 0 1 ?_
         by_cases hk0:k=0
         ·subst hk0
          have HR:=hiD (show∀i (hi:0=i+1),ltG (gk (xs[i]'(by omega))) ⟨us,pa,0⟩=true from fun i hi=>by omega)
          refine tW 1 1 ?_
          have HK2:=hiD (HT.out (by rw [HX.out];rfl) HR.out)
          clear HT HR0 HB1 HR
          refine zq [(2,some 37,.bool false),(3,some 38,undef),(4,some 39,undef),(5,some 40,undef),(6,some 41,undef),(7,some 42,undef),(8,some 43,undef),(9,some 44,undef),(10,some 45,undef),(11,some 46,undef),(12,some 47,undef),(13,some 48,undef),(14,some 49,undef),(15,some 50,undef),(16,some 51,undef),(17,some 52,undef),(18,some 53,undef),(19,some 54,undef),(20,some 55,undef),(21,some 56,undef),(22,some 57,undef),(23,some 58,undef),(24,some 59,undef),(25,some 60,undef),(26,some 61,undef),(27,some 62,undef),(28,some 63,undef),(29,some 64,undef),(30,some 65,undef),(31,some 66,undef),(32,some 67,undef),(33,some 68,undef),(34,some 69,.bool false)] rfl (fun _ _ _ _ _ h=>h) (by kernel_rfl) (by assumption) ?_;(try simp only [zg,zf,Act.put,lyA,lyB,lyC])
          refine dnX ?_
          clear hHeld
          go_wp2_with fail
          go_roundw
          case rel=>(first | exact⟨_,by omega,by go_num,HK2,HHd.out.ext⟩ | exact⟨1,by omega,rfl,HK2,HHd.out.ext⟩)
          case measure=>(first | (simp [intOf];done) | (simp [intOf];omega))
         ·obtain⟨j,rfl⟩: ∃j,k=j+1:=⟨k - 1,by omega⟩
          obtain⟨yu,yp,hy,d0,d1⟩:=HPv.out j rfl
          have HRy:=hiD (fun hp=>HR0.out j rfl (by rw [hy];exact hp))
          have HRz:=hiD (fun(hp:ltG ⟨yu,yp,0⟩ ⟨us,pa,0⟩=true) (i:Nat) (hi:j+1=i+1)=>show ltG (gk (xs[i]'(by omega))) ⟨us,pa,0⟩=true from by obtain rfl:i=j:=(by omega);rw [hy];exact hp)
          have HLt:=hiD (aoB yu yp us pa)
          have p0: ∀W,Heap w [.box xb [.string us,.string pa,.int .i64 pe]] W→W.cell? ⟨b1,o1+j * 3,none⟩=some (.string yu):=fun W hW=>(Below.cell hW.ext (World.block_lt_of_cell? w _ d0)).trans d0
          have p1: ∀W,Heap w [.box xb [.string us,.string pa,.int .i64 pe]] W→W.cell? ⟨b1,o1+j * 3+1,none⟩=some (.string yp):=fun W hW=>(Below.cell hW.ext (World.block_lt_of_cell? w _ d1)).trans d1
          clear hy d0 d1
          have HDu:=hiD (yW yu us)
          have q3:IntKind.i64.wrap (j:Int)=(j:Int):=IntWalk.i64_in _ (by omega)
          have q4:(0:Int) < (j:Int)+1:=by omega
          have q5:(j:Int) < (n:Int):=by omega
          refine tW 1 9 ?_
          refine tH 10 0 ?_
          cases hg1:Op.bytesLess us.toList yu.toList with
          | true=>
            have hgv:(!Op.bytesLess yu.toList us.toList && !yu.toList == us.toList)=true:=by rw [←Bool.not_or,←acq,hg1];rfl
            refine tW 11 1 ?_
            obtain rfl:V=9:=HRy.out (by rw [HLt.out];simp [hg1])
            clear HT HR0 HB1
            refine zq [(12,some 47,.bool true),(13,some 48,undef),(14,some 49,undef),(15,some 50,undef),(16,some 51,undef),(17,some 52,undef),(18,some 53,undef),(19,some 54,undef),(20,some 55,undef),(21,some 56,undef),(22,some 57,undef),(23,some 58,undef),(24,some 59,undef),(25,some 60,undef),(26,some 61,undef),(27,some 62,undef),(28,some 63,undef),(29,some 64,undef),(30,some 65,undef),(31,some 66,undef),(32,some 67,undef),(33,some 68,.bool true),(34,some 69,.bool true)] rfl (fun _ _ _ _ _ h=>h) (by kernel_rfl) (by assumption) ?_;(try simp only [zg,zf,Act.put,lyA,lyB,lyC])
            refine dnX ?_
            clear hHeld
            go_wp2_with fail
            go_ret
            exact⟨rfl,HHd.out.ext⟩
          | false=>
            have hgv:(!Op.bytesLess yu.toList us.toList && !yu.toList == us.toList)=false:=by rw [←Bool.not_or,←acq,hg1];rfl
            refine tW 11 9 ?_
            refine tH 20 0 ?_
            cases hg2:yu.toList == us.toList with
            | false=>
              refine tW 21 1 ?_
              have HR:=hiD (HRz.out (by rw [HLt.out];simp [hg1,hg2]))
              have HK2:=hiD (HT.out (by rw [HX.out];rfl) HR.out)
              clear HT HR0 HB1 HR
              refine zq [(22,some 57,.bool false),(23,some 58,undef),(24,some 59,undef),(25,some 60,undef),(26,some 61,undef),(27,some 62,undef),(28,some 63,undef),(29,some 64,undef),(30,some 65,undef),(31,some 66,undef),(32,some 67,.bool false),(33,some 68,.bool false),(34,some 69,.bool false)] rfl (fun _ _ _ _ _ h=>h) (by kernel_rfl) (by assumption) ?_;(try simp only [zg,zf,Act.put,lyA,lyB,lyC])
              refine dnX ?_
              clear hHeld
              go_wp2_with fail
              go_roundw
              case rel=>(first | exact⟨_,by omega,by go_num,HK2,HHd.out.ext⟩ | exact⟨1,by omega,rfl,HK2,HHd.out.ext⟩)
              case measure=>(first | (simp [intOf];done) | (simp [intOf];omega))
            | true=>
              refine tW 21 9 ?_
              refine tH 30 0 ?_
              cases hg3:lessB yp pa with
              | false=>
                have hg4:Op.bytesLess yp.toList pa.toList=false:=hg3
                refine tW 31 1 ?_
                obtain rfl:V=9:=HRy.out (by rw [HLt.out];simp [hg1,hg2,hg3])
                clear HT HR0 HB1
                refine zq [(32,some 67,.bool true),(33,some 68,.bool true),(34,some 69,.bool true)] rfl (fun _ _ _ _ _ h=>h) (by kernel_rfl) (by assumption) ?_;(try simp only [zg,zf,Act.put,lyA,lyB,lyC])
                refine dnX ?_
                clear hHeld
                go_wp2_with fail
                go_ret
                exact⟨rfl,HHd.out.ext⟩
              | true=>
                have hg4:Op.bytesLess yp.toList pa.toList=true:=hg3
                refine tW 31 1 ?_
                have HR:=hiD (HRz.out (by rw [HLt.out];simp [hg1,hg2,hg3]))
                have HK2:=hiD (HT.out (by rw [HX.out];rfl) HR.out)
                clear HT HR0 HB1 HR
                refine zq [(32,some 67,.bool false),(33,some 68,.bool false),(34,some 69,.bool false)] rfl (fun _ _ _ _ _ h=>h) (by kernel_rfl) (by assumption) ?_;(try simp only [zg,zf,Act.put,lyA,lyB,lyC])
                refine dnX ?_
                clear hHeld
                go_wp2_with fail
                go_roundw
                case rel=>(first | exact⟨_,by omega,by go_num,HK2,HHd.out.ext⟩ | exact⟨1,by omega,rfl,HK2,HHd.out.ext⟩)
                case measure=>(first | (simp [intOf];done) | (simp [intOf];omega))
        ·have hq2:decide (255 < pe)=true:=decide_eq_true (by omega)
         have hr2:decide (pe≤255)=false:=decide_eq_false hp2
         obtain rfl:V=9:=HB1.out (by rw [HX.out,hr1,hr2];simp)
         clear HT HR0 HB1 HX
         go_wp2_with (first | (go_at_call 29;refine cX HH (HNm.out _) ?_;clear HH;intro wp HH;clear c0 c1 c2;obtain⟨c0,c1,c2,-⟩:=ach (HH.out.boxAt 0 rfl)) | (go_at_call 73;refine cX HH (HPa.out _) ?_;clear HH;intro wq HH;clear c0 c1 c2;obtain⟨c0,c1,c2,-⟩:=ach (HH.out.boxAt 0 rfl)))
         go_ret
         exact⟨rfl,HH.out.ext⟩
       ·have hq1:decide (pe < 1)=true:=decide_eq_true (by omega)
        have hr1:decide (1≤pe)=false:=decide_eq_false hp1
        obtain rfl:V=9:=HB1.out (by rw [HX.out,hr1];simp)
        clear HT HR0 HB1 HX
        go_wp2_with (first | (go_at_call 29;refine cX HH (HNm.out _) ?_;clear HH;intro wp HH;clear c0 c1 c2;obtain⟨c0,c1,c2,-⟩:=ach (HH.out.boxAt 0 rfl)) | (go_at_call 73;refine cX HH (HPa.out _) ?_;clear HH;intro wq HH;clear c0 c1 c2;obtain⟨c0,c1,c2,-⟩:=ach (HH.out.boxAt 0 rfl)))
        go_ret
        exact⟨rfl,HH.out.ext⟩
  ·obtain rfl:k=n:=by omega
   have HV:V=if 16 < k then 9 else 0:=by
    have q:=HY.out (fun j h=>(HK.out j h (by rw [Hn.out];exact h)).1) (fun j h=>(HK.out (j+1) h (by rw [Hn.out];exact h)).2 j rfl)
    rw [←Hn.out]at q
    exact q
   clear HY H1 H2 HK
   by_cases h16:16 < k
   ·rw [if_pos h16]at HV
    have hq:(16:Int) < (k:Int):=by omega
    have HVh:=hiD HV
    clear HV
    go_wp2_with fail
    go_ret
    exact⟨by rw [HVh.out];rfl,e1⟩
   ·rw [if_neg h16]at HV
    have hq: ¬(16:Int) < (k:Int):=by omega
    have HVh:=hiD HV
    clear HV
    go_wp2_with fail
    go_ret
    exact⟨by rw [HVh.out];rfl,e1⟩
end Go.Proofs.YtckaneapjpiocaaGreatDoor
