/- The texts Rf7 in one file. -/
import Derived.Test.YtckaneapjpiocaaGreatDoorQ41
import Derived.Test.YtckaneapjpiocaaGreatDoorQ42
set_option linter.unusedVariables false
set_option linter.unusedSimpArgs false
set_option maxHeartbeats 16000000
set_option maxRecDepth 100000
namespace Go.Proofs.YtckaneapjpiocaaGreatDoor
open Go.RowKit Go.Maps Go.Sort Go.Shelf
theorem Stg.At.ok{w:World}{x:Stg}(h:Stg.At w 0 w.heap.size x):x.ok w:=
 ⟨Nat.le_trans h.into (by decide),h.beg,h.begR,Nat.le_trans h.begN (by decide),h.begS,h.bodyN,Nat.le_trans h.bodyM (by decide),h.bodyR,h.bodyW,zB h.pos,zB h.next,h.su⟩
theorem ab3{t:Tnt}(h:zH t=false):yt t=9:=by rw [yt,h];rfl
theorem aiD(w:World)(t:Tnt)(h:Tnt.At w 0 w.heap.size t):
 Calls Tryz.prog 13 #[.agg t.cells.toArray] w fun e w'=>e= .returned (.int .i64 (yt t))∧Ext w w':=by
 have HNm:=hiD (fun W=>qN t.name W (Nat.le_trans h.name (by decide)))
 have HAq:=hiD (fun W=>show Calls Tryz.prog 30 #[.int .i64 t.quota,.int .i64 0] W fun e w'=>e= .returned (.bool (zE t.quota 0))∧Ext W w' from xI W t.quota 0 (zB h.quota).1 (zB h.quota).2)
 have HAx:=hiD (fun W=>show Calls Tryz.prog 30 #[.int .i64 t.next,.int .i64 1] W fun e w'=>e= .returned (.bool (zE t.next 1))∧Ext W w' from xI W t.next 1 (zB h.next).1 (zB h.next).2)
 have HFe:=hiD (fun W (hW:Ext w W)=>show Calls Tryz.prog 31 #[.agg t.cells.toArray,.string ⟨#[]⟩] W fun e w'=>e= .returned (.int .i64 (atS t.sets.xs .empty))∧Ext W w' from afW W t .empty (yG h.sets hW (Nat.le_refl _) fun _ h=>Dst.At.on h hW (Nat.le_refl _)))
 have HGr:=hiD (fun W (hW:Ext w W)=>ahB W t.grants (yG h.grants hW (Nat.le_refl _) fun _ h=>h))
 have HSe:=hiD (fun(k:Nat) (hk:k < t.sets.xs.length) W (hW:Ext w W)=>ai4 W t t.sets.xs[k] (yG h.sets hW (Nat.le_refl _) fun _ h=>Dst.At.on h hW (Nat.le_refl _)) (Dst.At.on (h.sets.all _ (List.getElem_mem hk)) hW (Nat.le_refl _)))
 have HSx:=hiD (fun(k:Nat) (hk:k < t.stages.xs.length) W (hW:Ext w W)=>aiM W t.stages.xs[k] (Stg.At.ok (Stg.At.on (h.stages.all _ (List.getElem_mem hk)) hW (Nat.le_refl _))))
 have HEn:=hiD (fun(k:Nat) (hk:k < t.log.xs.length) W=>afi W t.log.xs[k] (h.log.all _ (List.getElem_mem hk)))
 have hT:zH t=(zd t.name && (zE t.quota 0 && (zE t.next 1 && (yV t.sets.xs && (grB t.grants.xs && (xM t.stages.xs && (decide (t.log.xs.length≤16) && t.log.xs.all liB))))))):=rfl
 have hSt:yV t.sets.xs=(decide (t.sets.xs.length≤32) && (decide (0≤atS t.sets.xs .empty) && (t.sets.xs.all (seB t.sets.xs) && yR (t.sets.xs.map Dst.path)))):=rfl
 have hGt:xM t.stages.xs=(decide (t.stages.xs.length≤4) && (t.stages.xs.all stB && yR (t.stages.xs.map Stg.into))):=rfl
 have hgE:grE t.grants.xs=0↔grB t.grants.xs=true:=by rw [grE];cases grB t.grants.xs <;> simp
 have HBd:=hiD (fun(q: ¬(zd t.name=true∧zE t.quota 0=true∧zE t.next 1=true∧t.sets.n≤32∧0≤atS t.sets.xs .empty∧grE t.grants.xs=0∧t.stages.n≤4∧t.log.n≤16))=>show yt t=9 from ab3 (by
  cases hb:zH t with
  | false=>rfl
  | true=>
    refine absurd ?_ q
    rw [hT,hSt,hGt]at hb
    simp only [Bool.and_eq_true,decide_eq_true_eq]at hb
    rw [h.sets.len,h.stages.len,h.log.len]
    exact⟨hb.1,hb.2.1,hb.2.2.1,hb.2.2.2.1.1,hb.2.2.2.1.2.1,hgE.2 hb.2.2.2.2.1,hb.2.2.2.2.2.1.1,hb.2.2.2.2.2.2.1⟩))
 have HS1:=hiD (fun k hk hp=>show yt t=9 from ab3 (by rw [hT,akE t.sets.xs k hk hp];simp))
 have HS2:=hiD (fun j hj hp=>show yt t=9 from ab3 (by rw [hT,aib t.sets.xs j hj hp];simp))
 have HT1:=hiD (fun k hk hp=>show yt t=9 from ab3 (by rw [hT,ake t.stages.xs k hk hp];simp))
 have HT2:=hiD (fun j hj hp=>show yt t=9 from ab3 (by rw [hT,ahR t.stages.xs j hj hp];simp))
 have HL1:=hiD (fun k hk hp=>show yt t=9 from ab3 (by rw [hT,aaf liB t.log.xs k hk hp];simp))
 have HOK:=hiD (fun(q:zd t.name=true∧zE t.quota 0=true∧zE t.next 1=true∧t.sets.n≤32∧0≤atS t.sets.xs .empty∧grE t.grants.xs=0∧t.stages.n≤4∧t.log.n≤16) (s1: ∀k (h:k < t.sets.xs.length),seB t.sets.xs t.sets.xs[k]=true) (s2: ∀j (h:j+1 < t.sets.xs.length),lessB t.sets.xs[j].path t.sets.xs[j+1].path=true)
  (g1: ∀k (h:k < t.stages.xs.length),stB t.stages.xs[k]=true) (g2: ∀j (h:j+1 < t.stages.xs.length),lessB t.stages.xs[j].into t.stages.xs[j+1].into=true) (l1: ∀k (h:k < t.log.xs.length),liB t.log.xs[k]=true)=>show yt t=0 by
  obtain⟨q1,q2,q3,q4,q5,q6,q7,q8⟩:=q
  rw [h.sets.len]at q4
  rw [h.stages.len]at q7
  rw [h.log.len]at q8
  have hl:t.log.xs.all liB=true:=List.all_eq_true.2 fun x hx=>by
   obtain⟨k,hk,rfl⟩:=List.getElem_of_mem hx
   exact l1 k hk
  have ht:zH t=true:=by
   rw [hT,q1,q2,q3,ahZ t.sets.xs q4 q5 s1 s2,hgE.1 q6,ahY t.stages.xs g1 g2,decide_eq_true q7,decide_eq_true q8,hl];rfl
  rw [yt,ht];rfl)
 have HSa:=hiD h.sets
 have HTa:=hiD h.stages
 have HLa:=hiD h.log
 generalize yt t=V at *
 clear h hT hSt hGt hgE
 obtain⟨name,quota,next,⟨A,sn,c,xs0⟩,⟨gA,gn,gc,gs⟩,⟨aA,an,ac,ax⟩,⟨lA,ln,lc,ls⟩⟩:=t
 have Hsn:=hiD (show sn=xs0.length from HSa.out.len)
 have Han:=hiD (show an=ax.length from HTa.out.len)
 have Hln:=hiD (show ln=ls.length from HLa.out.len)
 dsimp only at HNm HAq HAx HBd HS1 HS2 HT1 HT2 HL1 HOK
 simp only [Tnt.cells,Sl.val]at HFe HGr HSe HSx ⊢
 generalize atS xs0 .empty=fe at *
 generalize grE gs=gE at *
 generalize zd name=nb at *
 generalize zE quota 0=qb at *
 generalize zE next 1=xb at *
 generalize hse:seB xs0=seF at *
 clear hse
 go_enter Tryz.func13,Tryz.ntmps13
 go_upto_region 1 with fail
 generalize hwH:World.alloc w _=w1;have HH:=hiD (Heap.one hwH);clear hwH
 obtain⟨c0,c1,c2,c3,c4,c5,c6,-⟩:=za (HH.out.boxAt 0 rfl)
 cases nb with
 | false=>
   obtain rfl:V=9:=HBd.out (by simp)
   clear HBd
   go_wp2_with (first | (go_at_call 29;with_reducible refine cX HH (HNm.out _) ?_;clear HH;intro wa HH;clear c0 c1 c2 c3 c4 c5 c6;obtain⟨c0,c1,c2,c3,c4,c5,c6,-⟩:=za (HH.out.boxAt 0 rfl)) | (go_at_call 30;with_reducible refine cX HH (HAq.out _) ?_;clear HH;intro wb HH;clear c0 c1 c2 c3 c4 c5 c6;obtain⟨c0,c1,c2,c3,c4,c5,c6,-⟩:=za (HH.out.boxAt 0 rfl)) | (go_at_call 30;with_reducible refine cX HH (HAx.out _) ?_;clear HH;intro wc HH;clear c0 c1 c2 c3 c4 c5 c6;obtain⟨c0,c1,c2,c3,c4,c5,c6,-⟩:=za (HH.out.boxAt 0 rfl)) | (go_at_call 31;with_reducible refine cX HH (HFe.out _ HH.out.ext) ?_;clear HH;intro wd HH;clear c0 c1 c2 c3 c4 c5 c6;obtain⟨c0,c1,c2,c3,c4,c5,c6,-⟩:=za (HH.out.boxAt 0 rfl)) | (go_at_call 32;with_reducible refine cX HH (HGr.out _ HH.out.ext) ?_;clear HH;intro wf HH;clear c0 c1 c2 c3 c4 c5 c6;obtain⟨c0,c1,c2,c3,c4,c5,c6,-⟩:=za (HH.out.boxAt 0 rfl)))
   go_ret
   exact⟨rfl,HH.out.ext⟩
 | true=>
   cases qb with
   | false=>
     obtain rfl:V=9:=HBd.out (by simp)
     clear HBd
     go_wp2_with (first | (go_at_call 29;with_reducible refine cX HH (HNm.out _) ?_;clear HH;intro wa HH;clear c0 c1 c2 c3 c4 c5 c6;obtain⟨c0,c1,c2,c3,c4,c5,c6,-⟩:=za (HH.out.boxAt 0 rfl)) | (go_at_call 30;with_reducible refine cX HH (HAq.out _) ?_;clear HH;intro wb HH;clear c0 c1 c2 c3 c4 c5 c6;obtain⟨c0,c1,c2,c3,c4,c5,c6,-⟩:=za (HH.out.boxAt 0 rfl)) | (go_at_call 30;with_reducible refine cX HH (HAx.out _) ?_;clear HH;intro wc HH;clear c0 c1 c2 c3 c4 c5 c6;obtain⟨c0,c1,c2,c3,c4,c5,c6,-⟩:=za (HH.out.boxAt 0 rfl)) | (go_at_call 31;with_reducible refine cX HH (HFe.out _ HH.out.ext) ?_;clear HH;intro wd HH;clear c0 c1 c2 c3 c4 c5 c6;obtain⟨c0,c1,c2,c3,c4,c5,c6,-⟩:=za (HH.out.boxAt 0 rfl)) | (go_at_call 32;with_reducible refine cX HH (HGr.out _ HH.out.ext) ?_;clear HH;intro wf HH;clear c0 c1 c2 c3 c4 c5 c6;obtain⟨c0,c1,c2,c3,c4,c5,c6,-⟩:=za (HH.out.boxAt 0 rfl)))
     go_ret
     exact⟨rfl,HH.out.ext⟩
   | true=>
     cases xb with
     | false=>
       obtain rfl:V=9:=HBd.out (by simp)
       clear HBd
       go_wp2_with (first | (go_at_call 29;with_reducible refine cX HH (HNm.out _) ?_;clear HH;intro wa HH;clear c0 c1 c2 c3 c4 c5 c6;obtain⟨c0,c1,c2,c3,c4,c5,c6,-⟩:=za (HH.out.boxAt 0 rfl)) | (go_at_call 30;with_reducible refine cX HH (HAq.out _) ?_;clear HH;intro wb HH;clear c0 c1 c2 c3 c4 c5 c6;obtain⟨c0,c1,c2,c3,c4,c5,c6,-⟩:=za (HH.out.boxAt 0 rfl)) | (go_at_call 30;with_reducible refine cX HH (HAx.out _) ?_;clear HH;intro wc HH;clear c0 c1 c2 c3 c4 c5 c6;obtain⟨c0,c1,c2,c3,c4,c5,c6,-⟩:=za (HH.out.boxAt 0 rfl)) | (go_at_call 31;with_reducible refine cX HH (HFe.out _ HH.out.ext) ?_;clear HH;intro wd HH;clear c0 c1 c2 c3 c4 c5 c6;obtain⟨c0,c1,c2,c3,c4,c5,c6,-⟩:=za (HH.out.boxAt 0 rfl)) | (go_at_call 32;with_reducible refine cX HH (HGr.out _ HH.out.ext) ?_;clear HH;intro wf HH;clear c0 c1 c2 c3 c4 c5 c6;obtain⟨c0,c1,c2,c3,c4,c5,c6,-⟩:=za (HH.out.boxAt 0 rfl)))
       go_ret
       exact⟨rfl,HH.out.ext⟩
     | true=>
       by_cases h3:sn≤32
       ·have h3b:decide ((32:Int) < (sn:Int))=false:=decide_eq_false (by omega)
        by_cases h4:0≤fe
        ·have h4b:decide (fe < 0)=false:=decide_eq_false (by omega)
         by_cases h5:gE=0
         ·subst h5
          by_cases h6:an≤4
          ·have h6b:decide ((4:Int) < (an:Int))=false:=decide_eq_false (by omega)
           by_cases h7:ln≤16
           ·have h7b:decide ((16:Int) < (ln:Int))=false:=decide_eq_false (by omega)
            have HQ:=hiD (HOK.out (by simp [*]))
            clear HBd HOK
            go_upto_region 3 with(first | (go_at_call 29;with_reducible refine cX HH (HNm.out _) ?_;clear HH;intro wa HH;clear c0 c1 c2 c3 c4 c5 c6;obtain⟨c0,c1,c2,c3,c4,c5,c6,-⟩:=za (HH.out.boxAt 0 rfl)) | (go_at_call 30;with_reducible refine cX HH (HAq.out _) ?_;clear HH;intro wb HH;clear c0 c1 c2 c3 c4 c5 c6;obtain⟨c0,c1,c2,c3,c4,c5,c6,-⟩:=za (HH.out.boxAt 0 rfl)) | (go_at_call 30;with_reducible refine cX HH (HAx.out _) ?_;clear HH;intro wc HH;clear c0 c1 c2 c3 c4 c5 c6;obtain⟨c0,c1,c2,c3,c4,c5,c6,-⟩:=za (HH.out.boxAt 0 rfl)) | (go_at_call 31;with_reducible refine cX HH (HFe.out _ HH.out.ext) ?_;clear HH;intro wd HH;clear c0 c1 c2 c3 c4 c5 c6;obtain⟨c0,c1,c2,c3,c4,c5,c6,-⟩:=za (HH.out.boxAt 0 rfl)) | (go_at_call 32;with_reducible refine cX HH (HGr.out _ HH.out.ext) ?_;clear HH;intro wf HH;clear c0 c1 c2 c3 c4 c5 c6;obtain⟨c0,c1,c2,c3,c4,c5,c6,-⟩:=za (HH.out.boxAt 0 rfl)))
            clear h3b h4b h6b h7b h4 HNm HAq HAx HFe HGr c0 c1 c2 c3 c4 c5 c6
            obtain⟨tb,htb⟩: ∃b,b=w.heap.size:=⟨_,rfl⟩
            rw [←htb]at HH ⊢
            clear htb
            have hm1:sn≤9223372036854775807:=by omega
            go_wp2_with fail
            have HH0:=HH
            clear HH
            go_loopw [3] (fun v wr=> ∃k:Nat,k≤sn∧v= .int .i64 (k:Int)∧Hid ((∀j (h:j < xs0.length),j < k→seF xs0[j]=true)∧ ∀j (h:j+1 < xs0.length),j+1 < k→lessB xs0[j].path xs0[j+1].path=true)∧Hid (Heap w [.box tb [.string name,.int .i64 quota,.int .i64 next,.slice A sn c,.slice gA gn gc,.slice aA an ac,.slice lA ln lc]] wr)) (fun v _=>sn - (intOf v).toNat)
            case atStart=>exact⟨0,Nat.zero_le _,rfl,hiD ⟨fun j h hj=>absurd hj (Nat.not_lt_zero _),fun j h hj=>absurd hj (Nat.not_lt_zero _)⟩,HH0⟩
            case round=>
             clear HH0
             obtain⟨k,hk,rfl,HK,HH⟩:=hrel
             by_cases hlt:k < sn
             ·have l1:k < xs0.length:=by rw [←Hsn.out];exact hlt
              obtain⟨b1,o1,hA1,_,hb1,G⟩:=zh (size:=5) (fun _=>rfl) (by omega) HSa.out.rd l1
              dsimp only at hA1
              subst hA1
              have HB1:=hiD (fun hp=>HS1.out k l1 hp)
              have HR0:=hiD (fun(j:Nat) (hj:k=j+1) (hp:lessB (xs0[j]'(by omega)).path xs0[k].path=false)=>show V=9 by subst hj;exact HS2.out j l1 hp)
              have HT:=hiD (fun(h1:seF xs0[k]=true) (h2: ∀j (hj:k=j+1),lessB (xs0[j]'(by omega)).path xs0[k].path=true)=>show(∀j (h:j < xs0.length),j < k+1→seF xs0[j]=true)∧ ∀j (h:j+1 < xs0.length),j+1 < k+1→lessB xs0[j].path xs0[j+1].path=true from
               ⟨fun j h hj=>by
                 rcases Nat.lt_or_ge j k with h3 | h3
                 ·exact HK.out.1 j h h3
                 ·obtain rfl:j=k:=by omega
                  exact h1,fun j h hj=>by
                 rcases Nat.lt_or_ge (j+1) k with h3 | h3
                 ·exact HK.out.2 j h h3
                 ·obtain rfl:k=j+1:=by omega
                  exact h2 j rfl⟩)
              have HPv:=hiD (fun(j:Nat) (hj:k=j+1)=>show∃y:ByteArray,(xs0[j]'(by omega)).path=y∧w.cell? ⟨b1,o1+j * 5,none⟩=some (.string y)by
               obtain⟨b2,o2,hh,_,_,G2⟩:=zh (size:=5) (fun _=>rfl) (by omega) HSa.out.rd (k:=j) (show j < xs0.length by omega)
               obtain⟨rfl,rfl⟩:b1=b2∧o1=o2:=by simpa using hh
               exact⟨_,rfl,G2 0 _ rfl⟩)
              have HGW0:=hiD (fun W (hW:Heap w [.box tb [.string name,.int .i64 quota,.int .i64 next,.slice (some ⟨b1,o1,none⟩) sn c,.slice gA gn gc,.slice aA an ac,.slice lA ln lc]] W) i u hu=>(Below.cell hW.ext hb1).trans (G i u hu))
              have p1a:=G 0 _ rfl
              clear G
              have HSt:=hiD (fun W (hW:Ext w W)=>HSe.out k l1 W hW)
              generalize xs0[k]=x at *
              obtain⟨path,orig,⟨bA,bn,bc,bd⟩,⟨fA,fn,fc,fs⟩,⟨pA,pn,pc,ps⟩⟩:=x
              simp only [Dst.cells,Sl.val]at HSt
              dsimp only at HSt HR0 HT p1a
              have HGW:=hiD (show∀W,Heap w [.box tb [.string name,.int .i64 quota,.int .i64 next,.slice (some ⟨b1,o1,none⟩) sn c,.slice gA gn gc,.slice aA an ac,.slice lA ln lc]] W→ ∀i u,([.string path,.string orig,.slice bA bn bc,.slice fA fn fc,.slice pA pn pc]:List Value)[i]?=some u→W.cell? ⟨b1,o1+k * 5+i,none⟩=some u from HGW0.out)
              have p1: ∀W,Heap w [.box tb [.string name,.int .i64 quota,.int .i64 next,.slice (some ⟨b1,o1,none⟩) sn c,.slice gA gn gc,.slice aA an ac,.slice lA ln lc]] W→W.cell? ⟨b1,o1+k * 5,none⟩=some (.string path):=fun W hW=>(Below.cell hW.ext (World.block_lt_of_cell? w _ p1a)).trans p1a
              clear HGW0 p1a
              generalize seF _=sb at *
              have hkn:(k:Int) < (sn:Int):=by omega
              go_upto_region 6 with(refine l1X HH 0 ?_)
              have HHd:=hiD (show Heap w [.box tb [.string name,.int .i64 quota,.int .i64 next,.slice (some ⟨b1,o1,none⟩) sn c,.slice gA gn gc,.slice aA an ac,.slice lA ln lc]] (World.drew wr)from HH.out.drew)
              clear HH
              refine wp_region_held_drew (S:=Heap w [.box tb [.string name,.int .i64 quota,.int .i64 next,.slice (some ⟨b1,o1,none⟩) sn c,.slice gA gn gc,.slice aA an ac,.slice lA ln lc]]) (by kernel_rfl) HHd.out (fun hHeld=>?_)
              generalize World.drew _=wd at *
              refine tG 0 rfl (fun wT hST=>zj hST zt (by kernel_rfl) rfl rfl 0 rfl (Nat.le_of_ble_eq_true rfl)) hHeld ?_;refine lyX ?_
              refine tW 1 1 ?_
              refine tH 2 0 ?_
              refine tW 3 2 ?_
              refine tG 5 rfl (fun wT hST=>qm (HGW.out wT hST) rfl xq (by kernel_rfl) rfl rfl) hHeld ?_;refine lyX ?_
              clear hHeld
              refine oS 6 (fun K hK=>?_)
              go_simp
              refine cX HHd (HSt.out _ HHd.out.ext) ?_
              clear HHd
              intro w3 HH3
              go_wp2_with fail
              refine hK.out _ _ (HH3).out (fun hHeld=>?_);clear hK K;refine lyX ?_
              cases sb with
              | false=>
                obtain rfl:V=9:=HB1.out rfl
                clear HT HR0 HB1
                refine zq [(7,some 65,.bool true),(8,some 66,.bool true),(9,some 67,undef),(10,some 68,undef),(11,some 69,undef),(12,some 70,undef),(13,some 71,undef),(14,some 72,undef),(15,some 73,undef),(16,some 74,undef),(17,some 75,undef),(18,some 76,undef),(19,some 77,undef),(20,some 78,undef),(21,some 79,undef),(22,some 80,undef),(23,some 81,undef),(24,some 82,undef),(25,some 83,undef),(26,some 84,undef),(27,some 85,.bool true)] rfl (fun _ _ _ _ _ h=>h) (by kernel_rfl) (by assumption) ?_;(try simp only [zg,zf,Act.put,lyA,lyB,lyC])
                refine dnX ?_
                clear hHeld
                go_wp2_with fail
                go_ret
                exact⟨rfl,HH3.out.ext⟩
              | true=>
                refine tW 7 3 ?_
                by_cases hk0:k=0
                ·subst hk0
                 have HR:=hiD (show∀j (hj:0=j+1),lessB (xs0[j]'(by omega)).path path=true from fun j hj=>by omega)
                 refine tW 10 1 ?_
                 have HK2:=hiD (HT.out (by first | rfl | trivial) HR.out)
                 clear HT HR0 HB1 HR
                 refine zq [(11,some 69,.bool false),(12,some 70,undef),(13,some 71,undef),(14,some 72,undef),(15,some 73,undef),(16,some 74,undef),(17,some 75,undef),(18,some 76,undef),(19,some 77,undef),(20,some 78,undef),(21,some 79,undef),(22,some 80,undef),(23,some 81,undef),(24,some 82,undef),(25,some 83,undef),(26,some 84,.bool false),(27,some 85,.bool false)] rfl (fun _ _ _ _ _ h=>h) (by kernel_rfl) (by assumption) ?_;(try simp only [zg,zf,Act.put,lyA,lyB,lyC])
                 refine dnX ?_
                 clear hHeld
                 go_wp2_with fail
                 go_roundw
                 case rel=>(first | exact⟨_,by omega,by go_num,HK2,HH3⟩ | exact⟨1,by omega,rfl,HK2,HH3⟩)
                 case measure=>(first | (simp [intOf];done) | (simp [intOf];omega))
                ·obtain⟨j,rfl⟩: ∃j,k=j+1:=⟨k - 1,by omega⟩
                 obtain⟨y,hy,z0⟩:=HPv.out j rfl
                 have HRy:=hiD (fun hp=>HR0.out j rfl (by rw [hy];exact hp))
                 have HRz:=hiD (fun(hp:lessB y path=true) (i:Nat) (hi:j+1=i+1)=>show lessB (xs0[i]'(by omega)).path path=true from by obtain rfl:i=j:=(by omega);rw [hy];exact hp)
                 have p0: ∀W,Heap w [.box tb [.string name,.int .i64 quota,.int .i64 next,.slice (some ⟨b1,o1,none⟩) sn c,.slice gA gn gc,.slice aA an ac,.slice lA ln lc]] W→W.cell? ⟨b1,o1+j * 5,none⟩=some (.string y):=fun W hW=>(Below.cell hW.ext (World.block_lt_of_cell? w _ z0)).trans z0
                 clear hy z0
                 have q3:IntKind.i64.wrap (j:Int)=(j:Int):=IntWalk.i64_in _ (by omega)
                 have q4:(0:Int) < (j:Int)+1:=by omega
                 have q5:(j:Int) < (sn:Int):=by omega
                 have q6:(j:Int)+1 < (sn:Int):=by omega
                 have q7:(0:Int)≤(j:Int)+1:=by omega
                 refine tW 10 3 ?_
                 refine tH 13 0 ?_
                 refine tW 14 5 ?_
                 refine tH 19 0 ?_
                 refine tW 20 5 ?_
                 clear p0
                 cases hl:lessB y path with
                 | false=>
                   have hq:(Op.bytesLess path.toList y.toList || path.toList == y.toList)=true:=by have q:=xP y path;rw [hl]at q;exact q
                   refine tW 25 1 ?_
                   obtain rfl:V=9:=HRy.out hl
                   clear HT HR0 HB1
                   refine zq [(26,some 84,.bool true),(27,some 85,.bool true)] rfl (fun _ _ _ _ _ h=>h) (by kernel_rfl) (by assumption) ?_;(try simp only [zg,zf,Act.put,lyA,lyB,lyC])
                   refine dnX ?_
                   clear hHeld
                   go_wp2_with fail
                   go_ret
                   exact⟨rfl,HH3.out.ext⟩
                 | true=>
                   have hq:(Op.bytesLess path.toList y.toList || path.toList == y.toList)=false:=by have q:=xP y path;rw [hl]at q;exact q
                   have HR:=hiD (HRz.out hl)
                   clear HRy HRz
                   refine tW 25 1 ?_
                   have HK2:=hiD (HT.out (by first | rfl | trivial) HR.out)
                   clear HT HR0 HB1 HR
                   refine zq [(26,some 84,.bool false),(27,some 85,.bool false)] rfl (fun _ _ _ _ _ h=>h) (by kernel_rfl) (by assumption) ?_;(try simp only [zg,zf,Act.put,lyA,lyB,lyC])
                   refine dnX ?_
                   clear hHeld
                   go_wp2_with fail
                   go_roundw
                   case rel=>(first | exact⟨_,by omega,by go_num,HK2,HH3⟩ | exact⟨1,by omega,rfl,HK2,HH3⟩)
                   case measure=>(first | (simp [intOf];done) | (simp [intOf];omega))
             ·have hks:sn=k:=by omega
              subst hks
              have HQ2:=hiD (HQ.out (fun j h=>HK.out.1 j h (by rw [Hsn.out];exact h)) (fun j h=>HK.out.2 j h (by rw [Hsn.out];exact h)))
              clear HQ HS1 HS2 HK HSe HSa hlt
              go_wp2_with (refine l1X HH 0 ?_)
              have HH0:=HH
              clear HH
              go_loopw [4] (fun v wr=> ∃k:Nat,k≤an∧v= .int .i64 (k:Int)∧Hid ((∀j (h:j < ax.length),j < k→stB ax[j]=true)∧ ∀j (h:j+1 < ax.length),j+1 < k→lessB ax[j].into ax[j+1].into=true)∧Hid (Heap w [.box tb [.string name,.int .i64 quota,.int .i64 next,.slice A sn c,.slice gA gn gc,.slice aA an ac,.slice lA ln lc]] wr)) (fun v _=>an - (intOf v).toNat)
              case atStart=>exact⟨0,Nat.zero_le _,rfl,hiD ⟨fun j h hj=>absurd hj (Nat.not_lt_zero _),fun j h hj=>absurd hj (Nat.not_lt_zero _)⟩,HH0⟩
              case round=>
               clear HH0
               obtain⟨k,hk,rfl,HK,HH⟩:=hrel
               by_cases hlt:k < an
               ·have l1:k < ax.length:=by rw [←Han.out];exact hlt
                obtain⟨b1,o1,hA1,_,hb1,G⟩:=zh (size:=21) (fun _=>rfl) (by omega) HTa.out.rd l1
                dsimp only at hA1
                subst hA1
                have HB1:=hiD (fun hp=>HT1.out k l1 hp)
                have HR0:=hiD (fun(j:Nat) (hj:k=j+1) (hp:lessB (ax[j]'(by omega)).into ax[k].into=false)=>show V=9 by subst hj;exact HT2.out j l1 hp)
                have HT:=hiD (fun(h1:stB ax[k]=true) (h2: ∀j (hj:k=j+1),lessB (ax[j]'(by omega)).into ax[k].into=true)=>show(∀j (h:j < ax.length),j < k+1→stB ax[j]=true)∧ ∀j (h:j+1 < ax.length),j+1 < k+1→lessB ax[j].into ax[j+1].into=true from
                 ⟨fun j h hj=>by
                   rcases Nat.lt_or_ge j k with h3 | h3
                   ·exact HK.out.1 j h h3
                   ·obtain rfl:j=k:=by omega
                    exact h1,fun j h hj=>by
                   rcases Nat.lt_or_ge (j+1) k with h3 | h3
                   ·exact HK.out.2 j h h3
                   ·obtain rfl:k=j+1:=by omega
                    exact h2 j rfl⟩)
                have HPv:=hiD (fun(j:Nat) (hj:k=j+1)=>show∃y:ByteArray,(ax[j]'(by omega)).into=y∧w.cell? ⟨b1,o1+j * 21,none⟩=some (.string y)by
                 obtain⟨b2,o2,hh,_,_,G2⟩:=zh (size:=21) (fun _=>rfl) (by omega) HTa.out.rd (k:=j) (show j < ax.length by omega)
                 obtain⟨rfl,rfl⟩:b1=b2∧o1=o2:=by simpa using hh
                 exact⟨_,rfl,G2 0 _ rfl⟩)
                have HGW0:=hiD (fun W (hW:Heap w [.box tb [.string name,.int .i64 quota,.int .i64 next,.slice A sn c,.slice gA gn gc,.slice (some ⟨b1,o1,none⟩) an ac,.slice lA ln lc]] W) i u hu=>(Below.cell hW.ext hb1).trans (G i u hu))
                have p1a:=G 0 _ rfl
                clear G
                have HSg:=hiD (fun W (hW:Ext w W)=>HSx.out k l1 W hW)
                generalize ax[k]=x at *
                obtain⟨path,⟨rk,rn,rf,rg,rA,rm,rc,rw_,ri,ro,rd,r0,r1,r2,r3⟩,bA,bn,bc,bd,po,nx,⟨u0,u1,u2,u3⟩,dn⟩:=x
                generalize stB _=sb at *
                simp only [Stg.cells,Rec.cells,Su.cells,List.cons_append,List.nil_append]at HSg
                dsimp only at HSg HR0 HT p1a
                have HGW:=hiD (show∀W,Heap w [.box tb [.string name,.int .i64 quota,.int .i64 next,.slice A sn c,.slice gA gn gc,.slice (some ⟨b1,o1,none⟩) an ac,.slice lA ln lc]] W→ ∀i u,([.string path,.int .i64 rk,.string rn,.int .i64 rf,.int .i64 rg,.slice rA rm rc,.int .i64 ri,.int .i64 ro,.string rd,.int .u64 r0,.int .u64 r1,.int .u64 r2,.int .u64 r3,.slice bA bn bc,.int .i64 po,.int .i64 nx,.int .u64 u0,.int .u64 u1,.int .u64 u2,.int .u64 u3,.bool dn]:List Value)[i]?=some u→W.cell? ⟨b1,o1+k * 21+i,none⟩=some u from HGW0.out)
                have p1: ∀W,Heap w [.box tb [.string name,.int .i64 quota,.int .i64 next,.slice A sn c,.slice gA gn gc,.slice (some ⟨b1,o1,none⟩) an ac,.slice lA ln lc]] W→W.cell? ⟨b1,o1+k * 21,none⟩=some (.string path):=fun W hW=>(Below.cell hW.ext (World.block_lt_of_cell? w _ p1a)).trans p1a
                clear HGW0 p1a
                have hkn:(k:Int) < (an:Int):=by omega
                go_upto_region 11 with(refine l1X HH 0 ?_)
                have HHd:=hiD (show Heap w [.box tb [.string name,.int .i64 quota,.int .i64 next,.slice A sn c,.slice gA gn gc,.slice (some ⟨b1,o1,none⟩) an ac,.slice lA ln lc]] (World.drew wr)from HH.out.drew)
                clear HH
                refine wp_region_held_drew (S:=Heap w [.box tb [.string name,.int .i64 quota,.int .i64 next,.slice A sn c,.slice gA gn gc,.slice (some ⟨b1,o1,none⟩) an ac,.slice lA ln lc]]) (by kernel_rfl) HHd.out (fun hHeld=>?_)
                generalize World.drew _=wd at *
                refine tW 0 1 ?_
                refine tH 1 0 ?_
                refine tW 2 2 ?_
                refine tG 4 rfl (fun wT hST=>qm (HGW.out wT hST) rfl xT (by kernel_rfl) rfl rfl) hHeld ?_;refine lyX ?_
                clear hHeld
                refine oS 5 (fun K hK=>?_)
                go_simp
                refine cX HHd (HSg.out _ HHd.out.ext) ?_
                clear HHd
                intro w3 HH3
                go_wp2_with fail
                refine hK.out _ _ (HH3).out (fun hHeld=>?_);clear hK K;refine lyX ?_
                cases sb with
                | false=>
                  obtain rfl:V=9:=HB1.out rfl
                  clear HT HR0 HB1
                  refine zq [(6,some 99,.bool true),(7,some 100,.bool true),(8,some 101,undef),(9,some 102,undef),(10,some 103,undef),(11,some 104,undef),(12,some 105,undef),(13,some 106,undef),(14,some 107,undef),(15,some 108,undef),(16,some 109,undef),(17,some 110,undef),(18,some 111,undef),(19,some 112,undef),(20,some 113,undef),(21,some 114,undef),(22,some 115,undef),(23,some 116,undef),(24,some 117,undef),(25,some 118,undef),(26,some 119,.bool true)] rfl (fun _ _ _ _ _ h=>h) (by kernel_rfl) (by assumption) ?_;(try simp only [zg,zf,Act.put,lyA,lyB,lyC])
                  refine dnX ?_
                  clear hHeld
                  go_wp2_with fail
                  go_ret
                  exact⟨rfl,HH3.out.ext⟩
                | true=>
                  refine tW 6 3 ?_
                  by_cases hk0:k=0
                  ·subst hk0
                   have HR:=hiD (show∀j (hj:0=j+1),lessB (ax[j]'(by omega)).into path=true from fun j hj=>by omega)
                   refine tW 9 1 ?_
                   have HK2:=hiD (HT.out (by first | rfl | trivial) HR.out)
                   clear HT HR0 HB1 HR
                   refine zq [(10,some 103,.bool false),(11,some 104,undef),(12,some 105,undef),(13,some 106,undef),(14,some 107,undef),(15,some 108,undef),(16,some 109,undef),(17,some 110,undef),(18,some 111,undef),(19,some 112,undef),(20,some 113,undef),(21,some 114,undef),(22,some 115,undef),(23,some 116,undef),(24,some 117,undef),(25,some 118,.bool false),(26,some 119,.bool false)] rfl (fun _ _ _ _ _ h=>h) (by kernel_rfl) (by assumption) ?_;(try simp only [zg,zf,Act.put,lyA,lyB,lyC])
                   refine dnX ?_
                   clear hHeld
                   go_wp2_with fail
                   go_roundw
                   case rel=>(first | exact⟨_,by omega,by go_num,HK2,HH3⟩ | exact⟨1,by omega,rfl,HK2,HH3⟩)
                   case measure=>(first | (simp [intOf];done) | (simp [intOf];omega))
                  ·obtain⟨j,rfl⟩: ∃j,k=j+1:=⟨k - 1,by omega⟩
                   obtain⟨y,hy,z0⟩:=HPv.out j rfl
                   have HRy:=hiD (fun hp=>HR0.out j rfl (by rw [hy];exact hp))
                   have HRz:=hiD (fun(hp:lessB y path=true) (i:Nat) (hi:j+1=i+1)=>show lessB (ax[i]'(by omega)).into path=true from by obtain rfl:i=j:=(by omega);rw [hy];exact hp)
                   have p0: ∀W,Heap w [.box tb [.string name,.int .i64 quota,.int .i64 next,.slice A sn c,.slice gA gn gc,.slice (some ⟨b1,o1,none⟩) an ac,.slice lA ln lc]] W→W.cell? ⟨b1,o1+j * 21,none⟩=some (.string y):=fun W hW=>(Below.cell hW.ext (World.block_lt_of_cell? w _ z0)).trans z0
                   clear hy z0
                   have q3:IntKind.i64.wrap (j:Int)=(j:Int):=IntWalk.i64_in _ (by omega)
                   have q4:(0:Int) < (j:Int)+1:=by omega
                   have q5:(j:Int) < (an:Int):=by omega
                   have q6:(j:Int)+1 < (an:Int):=by omega
                   have q7:(0:Int)≤(j:Int)+1:=by omega
                   refine tW 9 3 ?_
                   refine tH 12 0 ?_
                   refine tW 13 5 ?_
                   refine tH 18 0 ?_
                   refine tW 19 5 ?_
                   clear p0
                   cases hl:lessB y path with
                   | false=>
                     have hq:(Op.bytesLess path.toList y.toList || path.toList == y.toList)=true:=by have q:=xP y path;rw [hl]at q;exact q
                     refine tW 24 1 ?_
                     obtain rfl:V=9:=HRy.out hl
                     clear HT HR0 HB1
                     refine zq [(25,some 118,.bool true),(26,some 119,.bool true)] rfl (fun _ _ _ _ _ h=>h) (by kernel_rfl) (by assumption) ?_;(try simp only [zg,zf,Act.put,lyA,lyB,lyC])
                     refine dnX ?_
                     clear hHeld
                     go_wp2_with fail
                     go_ret
                     exact⟨rfl,HH3.out.ext⟩
                   | true=>
                     have hq:(Op.bytesLess path.toList y.toList || path.toList == y.toList)=false:=by have q:=xP y path;rw [hl]at q;exact q
                     have HR:=hiD (HRz.out hl)
                     clear HRy HRz
                     refine tW 24 1 ?_
                     have HK2:=hiD (HT.out (by first | rfl | trivial) HR.out)
                     clear HT HR0 HB1 HR
                     refine zq [(25,some 118,.bool false),(26,some 119,.bool false)] rfl (fun _ _ _ _ _ h=>h) (by kernel_rfl) (by assumption) ?_;(try simp only [zg,zf,Act.put,lyA,lyB,lyC])
                     refine dnX ?_
                     clear hHeld
                     go_wp2_with fail
                     go_roundw
                     case rel=>(first | exact⟨_,by omega,by go_num,HK2,HH3⟩ | exact⟨1,by omega,rfl,HK2,HH3⟩)
                     case measure=>(first | (simp [intOf];done) | (simp [intOf];omega))
               ·have hks:an=k:=by omega
                subst hks
                have HQ3:=hiD (HQ2.out (fun j h=>HK.out.1 j h (by rw [Han.out];exact h)) (fun j h=>HK.out.2 j h (by rw [Han.out];exact h)))
                clear HQ2 HT1 HT2 HK HSx HTa hlt
                go_wp2_with (refine l1X HH 0 ?_)
                have HH0:=HH
                clear HH
                go_loopw [5] (fun v wr=> ∃k:Nat,k≤ln∧v= .int .i64 (k:Int)∧Hid (∀j (h:j < ls.length),j < k→liB ls[j]=true)∧Hid (Heap w [.box tb [.string name,.int .i64 quota,.int .i64 next,.slice A sn c,.slice gA gn gc,.slice aA an ac,.slice lA ln lc]] wr)) (fun v _=>ln - (intOf v).toNat)
                case atStart=>exact⟨0,Nat.zero_le _,rfl,hiD (fun j h hj=>absurd hj (Nat.not_lt_zero _)),HH0⟩
                case round=>
                 clear HH0
                 obtain⟨k,hk,rfl,HK,HH⟩:=hrel
                 by_cases hlt:k < ln
                 ·have l1:k < ls.length:=by rw [←Hln.out];exact hlt
                  obtain⟨b1,o1,hA1,_,hb1,G⟩:=zh (size:=4) (fun _=>rfl) (by omega) HLa.out.rd l1
                  dsimp only at hA1
                  subst hA1
                  have HB1:=hiD (fun hp=>HL1.out k l1 hp)
                  have HT:=hiD (fun(h1:liB ls[k]=true)=>show∀j (h:j < ls.length),j < k+1→liB ls[j]=true from fun j h hj=>by
                   rcases Nat.lt_or_ge j k with h3 | h3
                   ·exact HK.out j h h3
                   ·obtain rfl:j=k:=by omega
                    exact h1)
                  have HE1:=hiD (HEn.out k l1 wr)
                  have HGw:=hiD (fun i u hu=>(Below.cell HH.out.ext hb1).trans (G i u hu))
                  clear G
                  generalize ls[k]=x at *
                  obtain⟨us,ki,pa,er⟩:=x
                  simp only [Lin.cells]at HE1
                  generalize liB _=lb at *
                  have g0:=HGw.out 0 _ rfl
                  have g1:=HGw.out 1 _ rfl
                  have g2:=HGw.out 2 _ rfl
                  have g3:=HGw.out 3 _ rfl
                  simp only [Nat.add_zero]at g0
                  clear HGw
                  have hkn:(k:Int) < (ln:Int):=by omega
                  go_wp2_with (refine l1X HH 0 ?_)
                  clear g0 g1 g2 g3
                  refine HE1.out.mono ?_
                  rintro e w9 ⟨rfl,e9⟩
                  have HH9:=hiD (HH.out.later e9)
                  clear HH e9
                  cases lb with
                  | false=>
                    obtain rfl:V=9:=HB1.out rfl
                    clear HT HB1
                    go_wp2_with fail
                    go_ret
                    exact⟨rfl,HH9.out.ext⟩
                  | true=>
                    have HK2:=hiD (HT.out (by first | rfl | trivial))
                    clear HT HB1
                    go_wp2_with fail
                    go_roundw
                    case rel=>exact⟨k+1,by omega,by go_num,HK2,HH9⟩
                    case measure=>(first | (simp [intOf];done) | (simp [intOf];omega))
                 ·have hks:ln=k:=by omega
                  subst hks
                  have HQ4:=hiD (HQ3.out (fun j h=>HK.out j h (by rw [Hln.out];exact h)))
                  clear HQ3 HL1 HK HEn HLa hlt
                  go_wp2_with (refine l1X HH 0 ?_)
                  go_ret
                  exact⟨by rw [HQ4.out];rfl,HH.out.ext⟩
           ·have h7b:decide ((16:Int) < (ln:Int))=true:=decide_eq_true (by omega)
            obtain rfl:V=9:=HBd.out (by simp [h7])
            clear HBd
            go_wp2_with (first | (go_at_call 29;with_reducible refine cX HH (HNm.out _) ?_;clear HH;intro wa HH;clear c0 c1 c2 c3 c4 c5 c6;obtain⟨c0,c1,c2,c3,c4,c5,c6,-⟩:=za (HH.out.boxAt 0 rfl)) | (go_at_call 30;with_reducible refine cX HH (HAq.out _) ?_;clear HH;intro wb HH;clear c0 c1 c2 c3 c4 c5 c6;obtain⟨c0,c1,c2,c3,c4,c5,c6,-⟩:=za (HH.out.boxAt 0 rfl)) | (go_at_call 30;with_reducible refine cX HH (HAx.out _) ?_;clear HH;intro wc HH;clear c0 c1 c2 c3 c4 c5 c6;obtain⟨c0,c1,c2,c3,c4,c5,c6,-⟩:=za (HH.out.boxAt 0 rfl)) | (go_at_call 31;with_reducible refine cX HH (HFe.out _ HH.out.ext) ?_;clear HH;intro wd HH;clear c0 c1 c2 c3 c4 c5 c6;obtain⟨c0,c1,c2,c3,c4,c5,c6,-⟩:=za (HH.out.boxAt 0 rfl)) | (go_at_call 32;with_reducible refine cX HH (HGr.out _ HH.out.ext) ?_;clear HH;intro wf HH;clear c0 c1 c2 c3 c4 c5 c6;obtain⟨c0,c1,c2,c3,c4,c5,c6,-⟩:=za (HH.out.boxAt 0 rfl)))
            go_ret
            exact⟨rfl,HH.out.ext⟩
          ·have h6b:decide ((4:Int) < (an:Int))=true:=decide_eq_true (by omega)
           obtain rfl:V=9:=HBd.out (by simp [h6])
           clear HBd
           go_wp2_with (first | (go_at_call 29;with_reducible refine cX HH (HNm.out _) ?_;clear HH;intro wa HH;clear c0 c1 c2 c3 c4 c5 c6;obtain⟨c0,c1,c2,c3,c4,c5,c6,-⟩:=za (HH.out.boxAt 0 rfl)) | (go_at_call 30;with_reducible refine cX HH (HAq.out _) ?_;clear HH;intro wb HH;clear c0 c1 c2 c3 c4 c5 c6;obtain⟨c0,c1,c2,c3,c4,c5,c6,-⟩:=za (HH.out.boxAt 0 rfl)) | (go_at_call 30;with_reducible refine cX HH (HAx.out _) ?_;clear HH;intro wc HH;clear c0 c1 c2 c3 c4 c5 c6;obtain⟨c0,c1,c2,c3,c4,c5,c6,-⟩:=za (HH.out.boxAt 0 rfl)) | (go_at_call 31;with_reducible refine cX HH (HFe.out _ HH.out.ext) ?_;clear HH;intro wd HH;clear c0 c1 c2 c3 c4 c5 c6;obtain⟨c0,c1,c2,c3,c4,c5,c6,-⟩:=za (HH.out.boxAt 0 rfl)) | (go_at_call 32;with_reducible refine cX HH (HGr.out _ HH.out.ext) ?_;clear HH;intro wf HH;clear c0 c1 c2 c3 c4 c5 c6;obtain⟨c0,c1,c2,c3,c4,c5,c6,-⟩:=za (HH.out.boxAt 0 rfl)))
           go_ret
           exact⟨rfl,HH.out.ext⟩
         ·have h5b:(gE == 0)=false:=by rw [beq_eq_false_iff_ne];exact h5
          have h5c:(gE != 0)=true:=by rw [bne_iff_ne];exact h5
          obtain rfl:V=9:=HBd.out (by simp [h5])
          clear HBd
          go_wp2_with (first | (go_at_call 29;with_reducible refine cX HH (HNm.out _) ?_;clear HH;intro wa HH;clear c0 c1 c2 c3 c4 c5 c6;obtain⟨c0,c1,c2,c3,c4,c5,c6,-⟩:=za (HH.out.boxAt 0 rfl)) | (go_at_call 30;with_reducible refine cX HH (HAq.out _) ?_;clear HH;intro wb HH;clear c0 c1 c2 c3 c4 c5 c6;obtain⟨c0,c1,c2,c3,c4,c5,c6,-⟩:=za (HH.out.boxAt 0 rfl)) | (go_at_call 30;with_reducible refine cX HH (HAx.out _) ?_;clear HH;intro wc HH;clear c0 c1 c2 c3 c4 c5 c6;obtain⟨c0,c1,c2,c3,c4,c5,c6,-⟩:=za (HH.out.boxAt 0 rfl)) | (go_at_call 31;with_reducible refine cX HH (HFe.out _ HH.out.ext) ?_;clear HH;intro wd HH;clear c0 c1 c2 c3 c4 c5 c6;obtain⟨c0,c1,c2,c3,c4,c5,c6,-⟩:=za (HH.out.boxAt 0 rfl)) | (go_at_call 32;with_reducible refine cX HH (HGr.out _ HH.out.ext) ?_;clear HH;intro wf HH;clear c0 c1 c2 c3 c4 c5 c6;obtain⟨c0,c1,c2,c3,c4,c5,c6,-⟩:=za (HH.out.boxAt 0 rfl)))
          go_ret
          exact⟨rfl,HH.out.ext⟩
        ·have h4b:decide (fe < 0)=true:=decide_eq_true (by omega)
         obtain rfl:V=9:=HBd.out (by simp [h4])
         clear HBd
         go_wp2_with (first | (go_at_call 29;with_reducible refine cX HH (HNm.out _) ?_;clear HH;intro wa HH;clear c0 c1 c2 c3 c4 c5 c6;obtain⟨c0,c1,c2,c3,c4,c5,c6,-⟩:=za (HH.out.boxAt 0 rfl)) | (go_at_call 30;with_reducible refine cX HH (HAq.out _) ?_;clear HH;intro wb HH;clear c0 c1 c2 c3 c4 c5 c6;obtain⟨c0,c1,c2,c3,c4,c5,c6,-⟩:=za (HH.out.boxAt 0 rfl)) | (go_at_call 30;with_reducible refine cX HH (HAx.out _) ?_;clear HH;intro wc HH;clear c0 c1 c2 c3 c4 c5 c6;obtain⟨c0,c1,c2,c3,c4,c5,c6,-⟩:=za (HH.out.boxAt 0 rfl)) | (go_at_call 31;with_reducible refine cX HH (HFe.out _ HH.out.ext) ?_;clear HH;intro wd HH;clear c0 c1 c2 c3 c4 c5 c6;obtain⟨c0,c1,c2,c3,c4,c5,c6,-⟩:=za (HH.out.boxAt 0 rfl)) | (go_at_call 32;with_reducible refine cX HH (HGr.out _ HH.out.ext) ?_;clear HH;intro wf HH;clear c0 c1 c2 c3 c4 c5 c6;obtain⟨c0,c1,c2,c3,c4,c5,c6,-⟩:=za (HH.out.boxAt 0 rfl)))
         go_ret
         exact⟨rfl,HH.out.ext⟩
       ·have h3b:decide ((32:Int) < (sn:Int))=true:=decide_eq_true (by omega)
        obtain rfl:V=9:=HBd.out (by simp [h3])
        clear HBd
        go_wp2_with (first | (go_at_call 29;with_reducible refine cX HH (HNm.out _) ?_;clear HH;intro wa HH;clear c0 c1 c2 c3 c4 c5 c6;obtain⟨c0,c1,c2,c3,c4,c5,c6,-⟩:=za (HH.out.boxAt 0 rfl)) | (go_at_call 30;with_reducible refine cX HH (HAq.out _) ?_;clear HH;intro wb HH;clear c0 c1 c2 c3 c4 c5 c6;obtain⟨c0,c1,c2,c3,c4,c5,c6,-⟩:=za (HH.out.boxAt 0 rfl)) | (go_at_call 30;with_reducible refine cX HH (HAx.out _) ?_;clear HH;intro wc HH;clear c0 c1 c2 c3 c4 c5 c6;obtain⟨c0,c1,c2,c3,c4,c5,c6,-⟩:=za (HH.out.boxAt 0 rfl)) | (go_at_call 31;with_reducible refine cX HH (HFe.out _ HH.out.ext) ?_;clear HH;intro wd HH;clear c0 c1 c2 c3 c4 c5 c6;obtain⟨c0,c1,c2,c3,c4,c5,c6,-⟩:=za (HH.out.boxAt 0 rfl)) | (go_at_call 32;with_reducible refine cX HH (HGr.out _ HH.out.ext) ?_;clear HH;intro wf HH;clear c0 c1 c2 c3 c4 c5 c6;obtain⟨c0,c1,c2,c3,c4,c5,c6,-⟩:=za (HH.out.boxAt 0 rfl)))
        go_ret
        exact⟨rfl,HH.out.ext⟩
end Go.Proofs.YtckaneapjpiocaaGreatDoor
