/- The texts Pck in one file. -/
import Derived.Test.YtckaneapjpiocaaGreatDoorQ33
set_option linter.unusedVariables false
set_option linter.unusedSimpArgs false
set_option maxHeartbeats 16000000
set_option maxRecDepth 100000
namespace Go.Proofs.YtckaneapjpiocaaGreatDoor
open Go.RowKit Go.Maps Go.Sort Go.Shelf
def yf(p:Pol):Bool:=decide (p.ten.xs.length≤4) && (zE p.cap 0 && (decide (prE p.forced.xs=0) && (decide (p.log.xs.length≤16) && (p.log.xs.all liB && (p.ten.xs.all zH && (yR (p.ten.xs.map Tnt.name) && decide (abk p=0)))))))
def xW(p:Pol):Int:=if yf p=true then 0 else 9
theorem ag4{t:Tnt}:yt t=0↔zH t=true:=by
 rw [yt];split
 ·rename_i h;exact⟨fun _=>h,fun _=>rfl⟩
 ·rename_i h;exact⟨fun e=>absurd e (by decide),fun e=>absurd e h⟩
theorem abe{p:Pol}(h:yf p=false):xW p=9:=by rw [xW,h];rfl
theorem akQ(p:Pol)(h:4 < p.ten.xs.length):xW p=9:=abe (by rw [yf,decide_eq_false (by omega)];rfl)
theorem ak9(p:Pol)(h:zE p.cap 0=false):xW p=9:=abe (by rw [yf,h];simp)
theorem alh(p:Pol)(h:prE p.forced.xs≠0):xW p=9:=abe (by rw [yf,decide_eq_false h];simp)
theorem aly(p:Pol)(h:16 < p.log.xs.length):xW p=9:=abe (by rw [yf,decide_eq_false (show¬p.log.xs.length≤16 by omega)];simp)
theorem aky(p:Pol)(h:p.log.xs.all liB=false):xW p=9:=abe (by rw [yf,h];simp)
theorem ak7(p:Pol)(k:Nat)(hk:k < p.ten.xs.length)(h:yt p.ten.xs[k]≠0):xW p=9:=abe (by
 have:zH p.ten.xs[k]=false:=by
  cases hb:zH p.ten.xs[k]with
  | false=>rfl
  | true=>exact absurd (ag4.2 hb) h
 rw [yf,aaf zH _ k hk this];simp)
theorem ale(p:Pol)(j:Nat)(h:j+1 < p.ten.xs.length)(hp:lessB p.ten.xs[j].name p.ten.xs[j+1].name=false):xW p=9:=abe (by
 have:yR (p.ten.xs.map Tnt.name)=false:=aca _ j (by simpa using h) (by simpa using hp)
 rw [yf,this];simp)
theorem anf(p:Pol)(h1:p.ten.xs.length≤4)(h2:zE p.cap 0=true)(h3:prE p.forced.xs=0)(h4:p.log.xs.length≤16)(h5:p.log.xs.all liB=true)
 (h6: ∀k (h:k < p.ten.xs.length),yt p.ten.xs[k]=0) (h7: ∀j (h:j+1 < p.ten.xs.length),lessB p.ten.xs[j].name p.ten.xs[j+1].name=true):xW p=if abk p=0 then 0 else 9:=by
 have a:p.ten.xs.all zH=true:=List.all_eq_true.2 fun x hx=>by
  obtain⟨k,hk,rfl⟩:=List.getElem_of_mem hx
  exact ag4.1 (h6 k hk)
 have b:yR (p.ten.xs.map Tnt.name)=true:=aa1 _ fun k h=>by
  have:=h7 k (by simpa using h)
  simpa using this
 rw [xW,yf,a,b,h2,h5]
 simp [h1,h3,h4]
theorem agm{t:Tnt}{w:World}{lo hi:Nat}(h:Tnt.At w lo hi t)(hb:yt t=0):t.sets.n≤32∧t.stages.n≤4:=by
 have:=ag4.1 hb
 simp only [zH,yV,xM,Bool.and_eq_true,decide_eq_true_eq]at this
 have h1:=h.sets.len
 have h2:=h.stages.len
 exact⟨by rw [h1];exact this.2.2.2.1.1,by rw [h2];exact this.2.2.2.2.2.1.1⟩
theorem acI(w:World)(a:Int)(h1: -9223372036854775808≤a)(h2:a≤9223372036854775807):
 Calls Tryz.prog 116 #[.int .i64 a] w fun e w'=>e= .returned (.bool (zE a 0))∧Ext w w':=by
 unfold zE
 go_enter Tryz.func116,Tryz.ntmps116
 go_wp2_with fail
 all_goals (go_ret;refine⟨aaP ?_,Ext.refl _⟩;(first | (simp [*];done) | (simp [*];omega)))
theorem al4(w:World)(x:Lin)(hM:xf w)(hx:x.sm):
 Calls Tryz.prog 118 #[.agg x.cells.toArray] w fun e w'=>e= .returned (.bool (!liB x))∧Ext w w':=by
 obtain⟨h1,h2,h3,h4⟩:=hx
 have HNm:=hiD (fun W=>qq x.user W (Nat.le_trans h1 (by decide)))
 have HPa:=hiD (fun W (hW:Ext w W)=>aaZ x.path W (hM.ext hW) (Nat.lt_of_le_of_lt h2 (by decide)))
 have HA1:=hiD (fun W=>acI W x.kind (zB h3).1 (zB h3).2)
 have HA2:=hiD (fun W=>acI W x.err (zB h4).1 (zB h4).2)
 have HV:=hiD (show(!liB x)=!((decide (x.user.size=0) || zd x.user) && (zF x.path && (zE x.kind 0 && zE x.err 0)))from rfl)
 have he:=abJ x.user
 clear h1 h2 h3 h4 hM
 generalize (!liB x)=V at *
 obtain⟨us,ki,pa,er⟩:=x
 dsimp only at *
 generalize decide (us.size=0)=b0 at *
 generalize zd us=b1 at *
 generalize zF pa=b2 at *
 generalize zE ki 0=b3 at *
 generalize zE er 0=b4 at *
 simp only [Lin.cells]
 cases b0 <;> cases b1 <;> cases b2 <;> cases b3 <;> cases b4 <;> (focus(go_enter Tryz.func118,Tryz.ntmps118;go_upto_region 1 with fail;generalize hwH:World.alloc w _=w1;have HH:=hiD (Heap.one hwH);clear hwH;go_wp2_with (first | (go_big_want;refine xG HH.out rfl rfl 0 rfl rfl (by decide+kernel) ?_) | (refine l1X HH 0 ?_) | (go_at_call 44;(with_reducible refine(HNm.out _).mono ?_);rintro e wC ⟨rfl,eC⟩;replace HH:=hiD (HH.out.later eC);clear eC) | (go_at_call 138;(with_reducible refine(HPa.out _ HH.out.ext).mono ?_);rintro e wC ⟨rfl,eC⟩;replace HH:=hiD (HH.out.later eC);clear eC) | (go_at_call 116;(with_reducible refine(HA1.out _).mono ?_);rintro e wC ⟨rfl,eC⟩;replace HH:=hiD (HH.out.later eC);clear eC) | (go_at_call 116;(with_reducible refine(HA2.out _).mono ?_);rintro e wC ⟨rfl,eC⟩;replace HH:=hiD (HH.out.later eC);clear eC));go_ret;exact⟨by rw [HV.out];rfl,HH.out.ext⟩))
theorem ak1: ∀args w,(callFunc 118 args).run Tryz.prog w= .ok (.enter 118 args) w:=afd Tryz.func118 (by kernel_rfl) rfl
theorem ako(w:World)(s:Sl Lin)(hM:xf w)(h:Sl.At w 0 w.heap.size Lin.cells Lin.sm s):
 Calls Tryz.prog 84 #[s.val,.func (.func 118) #[] #[]] w fun e w'=>e= .returned (.bool (!(s.xs.all liB)))∧Ext w w':=by
 have HI:=hiD (ag6 w s.A s.n s.c s.xs h.len (Nat.le_trans (Nat.le_trans h.le h.cap) (by decide)) h.rd (fun x=>!liB x) (.func (.func 118) #[] #[]) 118 #[] rfl ak1
  (fun x hx w1 e1=>al4 w1 x (hM.ext e1) (h.all x hx)))
 have HV:=hiD (af2 s.xs)
 clear h hM
 generalize zC _ s.xs=fi at *
 generalize (!(s.xs.all liB))=V at *
 simp only [Sl.val]
 go_enter Tryz.func84,Tryz.ntmps84
 go_wp2_with fail
 refine HI.out.mono ?_
 rintro e w2 ⟨rfl,e2⟩
 go_wp2_with fail
 go_ret
 exact⟨aaP HV.out,e2⟩
theorem aez(w:World)(p:Pol)(hM:xf w)(h:Pol.At w 0 w.heap.size p):
 Calls Tryz.prog 58 #[.agg p.cells.toArray] w fun e w'=>e= .returned (.int .i64 (xW p))∧Ext w w':=by
 have HAm:=hiD (fun W=>acI W p.cap (zB h.cap).1 (zB h.cap).2)
 have HPr:=hiD (fun W (hW:Ext w W)=>aaH W p.forced.A p.forced.n p.forced.c p.forced.xs h.forced.len (Nat.le_trans h.forcedS (by decide)) (Rd.at h.forced.rd hW (Nat.le_refl _)) (fun x hx=>⟨Nat.le_trans (h.forced.all x hx).1 (by decide),Nat.le_trans (h.forced.all x hx).2 (by decide)⟩))
 have HLg:=hiD (fun W (hW:Ext w W)=>ako W p.log (hM.ext hW) (yG h.log hW (Nat.le_refl _) fun _ h=>h))
 have HTc:=hiD (fun k (hk:k < p.ten.xs.length) W (hW:Ext w W)=>adv W p.ten.xs[k] (hM.ext hW) (Tnt.At.on (h.ten.all _ (List.getElem_mem hk)) hW (Nat.le_refl _)))
 have HAd:=hiD (fun(h6: ∀k (h:k < p.ten.xs.length),yt p.ten.xs[k]=0) W (hW:Ext w W)=>ai5 W p (h.on hW (Nat.le_refl _)) (fun t ht=>by
  obtain⟨k,hk,rfl⟩:=List.getElem_of_mem ht
  exact agm (h.ten.all _ (List.getElem_mem hk)) (h6 k hk)))
 have P1:=hiD (akQ p)
 have P2:=hiD (ak9 p)
 have P3:=hiD (alh p)
 have P4:=hiD (aly p)
 have P5:=hiD (aky p)
 have P6:=hiD (ak7 p)
 have P7:=hiD (ale p)
 have PY:=hiD (anf p)
 have HTn:=hiD h.ten
 have Hln:=hiD (show p.log.n=p.log.xs.length from h.log.len)
 have hlm:p.log.n≤9223372036854775807:=Nat.le_trans (Nat.le_trans h.log.le h.log.cap) (by decide)
 have hS:=h.tenS
 generalize xW p=V at *
 generalize abk p=ad at *
 clear h hM
 obtain⟨cap,⟨tA,tn,tc,tx⟩,⟨fA,fn,fc,fx⟩,⟨lA,ln,lc,lx⟩⟩:=p
 have hTn:=hiD (show tn=tx.length from HTn.out.len)
 dsimp only at *
 simp only [Pol.cells,Sl.val]at HLg HAd ⊢
 generalize zE cap 0=b2 at *
 generalize prE fx=pe at *
 generalize lx.all liB=b5 at *
 by_cases h4:4 < tn
 ·obtain rfl:V=9:=P1.out (by have:=hTn.out;omega)
  have q4:(4:Int) < (tn:Int):=by omega
  go_enter Tryz.func58,Tryz.ntmps58
  go_upto_region 1 with fail
  generalize hwH:World.alloc w _=w1;have HH:=hiD (Heap.one hwH);clear hwH
  have hc:=zY (HH.out.boxAt 0 rfl)
  obtain⟨c0,c1,c2,c3,-⟩:=hc
  go_wp2_with (first | (go_at_call 116;refine(HAm.out _).mono ?_;rintro e wp ⟨rfl,ep⟩;replace HH:=hiD (HH.out.later ep);clear ep c0 c1 c2 c3;have hc:=zY (HH.out.boxAt 0 rfl);obtain⟨c0,c1,c2,c3,-⟩:=hc) | (go_at_call 117;refine(HPr.out _ HH.out.ext).mono ?_;rintro e wq ⟨rfl,eq⟩;replace HH:=hiD (HH.out.later eq);clear eq c0 c1 c2 c3;have hc:=zY (HH.out.boxAt 0 rfl);obtain⟨c0,c1,c2,c3,-⟩:=hc) | (go_at_call 84;refine(HLg.out _ HH.out.ext).mono ?_;rintro e wn ⟨rfl,en⟩;replace HH:=hiD (HH.out.later en);clear en c0 c1 c2 c3;have hc:=zY (HH.out.boxAt 0 rfl);obtain⟨c0,c1,c2,c3,-⟩:=hc))
  go_ret
  exact⟨rfl,HH.out.ext⟩
 ·have q4: ¬(4:Int) < (tn:Int):=by omega
  cases b2 with
  | false=>
    obtain rfl:V=9:=P2.out rfl
    go_enter Tryz.func58,Tryz.ntmps58
    go_upto_region 1 with fail
    generalize hwH:World.alloc w _=w1;have HH:=hiD (Heap.one hwH);clear hwH
    have hc:=zY (HH.out.boxAt 0 rfl)
    obtain⟨c0,c1,c2,c3,-⟩:=hc
    go_wp2_with (first | (go_at_call 116;refine(HAm.out _).mono ?_;rintro e wp ⟨rfl,ep⟩;replace HH:=hiD (HH.out.later ep);clear ep c0 c1 c2 c3;have hc:=zY (HH.out.boxAt 0 rfl);obtain⟨c0,c1,c2,c3,-⟩:=hc) | (go_at_call 117;refine(HPr.out _ HH.out.ext).mono ?_;rintro e wq ⟨rfl,eq⟩;replace HH:=hiD (HH.out.later eq);clear eq c0 c1 c2 c3;have hc:=zY (HH.out.boxAt 0 rfl);obtain⟨c0,c1,c2,c3,-⟩:=hc) | (go_at_call 84;refine(HLg.out _ HH.out.ext).mono ?_;rintro e wn ⟨rfl,en⟩;replace HH:=hiD (HH.out.later en);clear en c0 c1 c2 c3;have hc:=zY (HH.out.boxAt 0 rfl);obtain⟨c0,c1,c2,c3,-⟩:=hc))
    go_ret
    exact⟨rfl,HH.out.ext⟩
  | true=>
    by_cases hpe:pe=0
    ·subst hpe
     by_cases h16:16 < ln
     ·obtain rfl:V=9:=P4.out (by have:=Hln.out;omega)
      have q16:(16:Int) < (ln:Int):=by omega
      go_enter Tryz.func58,Tryz.ntmps58
      go_upto_region 1 with fail
      generalize hwH:World.alloc w _=w1;have HH:=hiD (Heap.one hwH);clear hwH
      have hc:=zY (HH.out.boxAt 0 rfl)
      obtain⟨c0,c1,c2,c3,-⟩:=hc
      go_wp2_with (first | (go_at_call 116;refine(HAm.out _).mono ?_;rintro e wp ⟨rfl,ep⟩;replace HH:=hiD (HH.out.later ep);clear ep c0 c1 c2 c3;have hc:=zY (HH.out.boxAt 0 rfl);obtain⟨c0,c1,c2,c3,-⟩:=hc) | (go_at_call 117;refine(HPr.out _ HH.out.ext).mono ?_;rintro e wq ⟨rfl,eq⟩;replace HH:=hiD (HH.out.later eq);clear eq c0 c1 c2 c3;have hc:=zY (HH.out.boxAt 0 rfl);obtain⟨c0,c1,c2,c3,-⟩:=hc) | (go_at_call 84;refine(HLg.out _ HH.out.ext).mono ?_;rintro e wn ⟨rfl,en⟩;replace HH:=hiD (HH.out.later en);clear en c0 c1 c2 c3;have hc:=zY (HH.out.boxAt 0 rfl);obtain⟨c0,c1,c2,c3,-⟩:=hc))
      go_ret
      exact⟨rfl,HH.out.ext⟩
     ·have q16: ¬(16:Int) < (ln:Int):=by omega
      cases b5 with
      | false=>
        obtain rfl:V=9:=P5.out rfl
        go_enter Tryz.func58,Tryz.ntmps58
        go_upto_region 1 with fail
        generalize hwH:World.alloc w _=w1;have HH:=hiD (Heap.one hwH);clear hwH
        have hc:=zY (HH.out.boxAt 0 rfl)
        obtain⟨c0,c1,c2,c3,-⟩:=hc
        go_wp2_with (first | (go_at_call 116;refine(HAm.out _).mono ?_;rintro e wp ⟨rfl,ep⟩;replace HH:=hiD (HH.out.later ep);clear ep c0 c1 c2 c3;have hc:=zY (HH.out.boxAt 0 rfl);obtain⟨c0,c1,c2,c3,-⟩:=hc) | (go_at_call 117;refine(HPr.out _ HH.out.ext).mono ?_;rintro e wq ⟨rfl,eq⟩;replace HH:=hiD (HH.out.later eq);clear eq c0 c1 c2 c3;have hc:=zY (HH.out.boxAt 0 rfl);obtain⟨c0,c1,c2,c3,-⟩:=hc) | (go_at_call 84;refine(HLg.out _ HH.out.ext).mono ?_;rintro e wn ⟨rfl,en⟩;replace HH:=hiD (HH.out.later en);clear en c0 c1 c2 c3;have hc:=zY (HH.out.boxAt 0 rfl);obtain⟨c0,c1,c2,c3,-⟩:=hc))
        go_ret
        exact⟨rfl,HH.out.ext⟩
      | true=>
        have HYe:=hiD (PY.out (by have:=hTn.out;omega) rfl rfl (by have:=Hln.out;omega) rfl)
        clear PY P1 P2 P3 P4 P5
        go_enter Tryz.func58,Tryz.ntmps58
        go_upto_region 1 with fail
        generalize hwH:World.alloc w _=w1;have HH:=hiD (Heap.one hwH);clear hwH
        have hc:=zY (HH.out.boxAt 0 rfl)
        obtain⟨c0,c1,c2,c3,-⟩:=hc
        go_upto_region 3 with(first | (go_at_call 116;refine(HAm.out _).mono ?_;rintro e wp ⟨rfl,ep⟩;replace HH:=hiD (HH.out.later ep);clear ep c0 c1 c2 c3;have hc:=zY (HH.out.boxAt 0 rfl);obtain⟨c0,c1,c2,c3,-⟩:=hc) | (go_at_call 117;refine(HPr.out _ HH.out.ext).mono ?_;rintro e wq ⟨rfl,eq⟩;replace HH:=hiD (HH.out.later eq);clear eq c0 c1 c2 c3;have hc:=zY (HH.out.boxAt 0 rfl);obtain⟨c0,c1,c2,c3,-⟩:=hc) | (go_at_call 84;refine(HLg.out _ HH.out.ext).mono ?_;rintro e wn ⟨rfl,en⟩;replace HH:=hiD (HH.out.later en);clear en c0 c1 c2 c3;have hc:=zY (HH.out.boxAt 0 rfl);obtain⟨c0,c1,c2,c3,-⟩:=hc))
        obtain⟨pb,hpb⟩: ∃b,b=w.heap.size:=⟨_,rfl⟩
        rw [←hpb]at HH ⊢ c0 c1 c2 c3
        clear hpb
        go_wp2_with fail
        clear c0 c1 c2 c3
        have HH0:=hiD (show Heap w [.box pb [.int .i64 cap,.slice tA tn tc,.slice fA fn fc,.slice lA ln lc]] _ from HH.out)
        clear HH
        go_loopw [3,4,35] (fun _ _ v wr=> ∃k:Nat,k≤tn∧v= .int .i64 (k:Int)∧Hid ((∀j (h:j < tx.length),j < k→yt tx[j]=0)∧ ∀j (h:j+1 < tx.length),j+1 < k→lessB tx[j].name tx[j+1].name=true)∧Hid (Heap w [.box pb [.int .i64 cap,.slice tA tn tc,.slice fA fn fc,.slice lA ln lc]] wr)) (fun _ _ v _=>tn - (intOf v).toNat)
        case atStart=>exact⟨0,Nat.zero_le _,rfl,hiD ⟨fun j h hj=>absurd hj (Nat.not_lt_zero _),fun j h hj=>absurd hj (Nat.not_lt_zero _)⟩,HH0⟩
        case round=>
         clear HH0
         obtain⟨k,hk,rfl,HK,HH⟩:=hrel
         by_cases hlt:k < tn
         ·have l1:k < tx.length:=by rw [←hTn.out];exact hlt
          obtain⟨b1,o1,hA1,_,hb1,G⟩:=zh (size:=7) (fun _=>rfl) (by omega) HTn.out.rd l1
          dsimp only at hA1
          subst hA1
          have HB1:=hiD (fun hp=>P6.out k l1 hp)
          have HR0:=hiD (fun(j:Nat) (hj:k=j+1) (hp:lessB (tx[j]'(by omega)).name tx[k].name=false)=>show V=9 by subst hj;exact P7.out j l1 hp)
          have HT:=hiD (fun(h1:yt tx[k]=0) (h2: ∀j (hj:k=j+1),lessB (tx[j]'(by omega)).name tx[k].name=true)=>show(∀j (h:j < tx.length),j < k+1→yt tx[j]=0)∧ ∀j (h:j+1 < tx.length),j+1 < k+1→lessB tx[j].name tx[j+1].name=true from
           ⟨fun j h hj=>by
             rcases Nat.lt_or_ge j k with h3 | h3
             ·exact HK.out.1 j h h3
             ·obtain rfl:j=k:=by omega
              exact h1,fun j h hj=>by
             rcases Nat.lt_or_ge (j+1) k with h3 | h3
             ·exact HK.out.2 j h h3
             ·obtain rfl:k=j+1:=by omega
              exact h2 j rfl⟩)
          have HPv:=hiD (fun(j:Nat) (hj:k=j+1)=>show∃y:ByteArray,(tx[j]'(by omega)).name=y∧w.cell? ⟨b1,o1+j * 7,none⟩=some (.string y)by
           obtain⟨b2,o2,hh,_,_,G2⟩:=zh (size:=7) (fun _=>rfl) (by omega) HTn.out.rd (k:=j) (show j < tx.length by omega)
           obtain⟨rfl,rfl⟩:b1=b2∧o1=o2:=by simpa using hh
           exact⟨_,rfl,G2 0 _ rfl⟩)
          have HCk:=hiD (HTc.out k l1)
          have HGw:=hiD (fun i u hu=>(Below.cell HH.out.ext hb1).trans (G i u hu))
          clear G
          generalize tx[k]=x at *
          obtain⟨name,quota,next,⟨sA,sn,sc,ss⟩,⟨gA,gn,gc,gs⟩,⟨aA,an,ac,ax⟩,⟨mA,mn,mc,ms⟩⟩:=x
          generalize yt _=te at *
          dsimp only at HB1 HR0 HT
          simp only [Tnt.cells,Sl.val]at HCk
          have hkn:(k:Int) < (tn:Int):=by omega
          have HGc:=hiD (show∀i u,([.string name,.int .i64 quota,.int .i64 next,.slice sA sn sc,.slice gA gn gc,.slice aA an ac,.slice mA mn mc]:List Value)[i]?=some u→wr.cell? ⟨b1,o1+k * 7+i,none⟩=some u from HGw.out)
          clear HGw
          go_upto_region 6 with(first | (refine yF HGc.out rfl zt (by kernel_rfl) rfl rfl rfl ?_) | (refine sSX (hiD (HH.out.alloc _ _)) zt 0 ?_;clear HH;intro wS HH))
          obtain⟨xb,hxb⟩: ∃b,b=wr.heap.size:=⟨_,rfl⟩
          rw [←hxb]at HH ⊢
          clear hxb HGc
          have HHd:=hiD (show Heap w [.box xb [.string name,.int .i64 quota,.int .i64 next,.slice sA sn sc,.slice gA gn gc,.slice aA an ac,.slice mA mn mc],.box pb [.int .i64 cap,.slice (some ⟨b1,o1,none⟩) tn tc,.slice fA fn fc,.slice lA ln lc]] (World.drew wS)from HH.out.drew)
          clear HH
          refine wp_region_held_drew (S:=Heap w [.box xb [.string name,.int .i64 quota,.int .i64 next,.slice sA sn sc,.slice gA gn gc,.slice aA an ac,.slice mA mn mc],.box pb [.int .i64 cap,.slice (some ⟨b1,o1,none⟩) tn tc,.slice fA fn fc,.slice lA ln lc]]) (by kernel_rfl) HHd.out (fun hHeld=>?_)
          generalize World.drew _=wd at *
          refine tG 0 rfl (fun wT hST=>zj hST zt (by kernel_rfl) rfl rfl 0 rfl (Nat.le_of_ble_eq_true rfl)) hHeld ?_;refine lyX ?_
          clear hHeld
          refine oS 1 (fun K hK=>?_)
          go_simp
          refine cX HHd (HCk.out _ HHd.out.ext) ?_
          clear HHd
          intro w3 HH3
          go_wp2_with fail
          refine hK.out _ _ (HH3).out (fun hHeld=>?_);clear hK K;refine lyX ?_
          by_cases hte:te=0
          ·subst hte
           refine tW 2 3 ?_
           by_cases hk0:k=0
           ·subst hk0
            have HR:=hiD (show∀j (hj:0=j+1),lessB (tx[j]'(by omega)).name name=true from fun j hj=>by omega)
            refine tW 5 1 ?_
            refine zq [(6,some 46,.bool false),(7,some 47,undef),(8,some 48,undef),(9,some 49,undef),(10,some 50,undef),(11,some 51,undef),(12,some 52,undef),(13,some 53,undef),(14,some 54,undef),(15,some 55,undef),(16,some 56,undef),(17,some 57,.bool false),(18,some 58,.bool false)] rfl (fun _ _ _ _ _ h=>h) (by kernel_rfl) (by assumption) ?_;(try simp only [zg,zf,Act.put,lyA,lyB,lyC])
            refine dnX ?_
            clear hHeld
            have HH:=HH3
            clear HH3
            have HK2:=hiD (HT.out rfl HR.out)
            clear HT HR0 HB1 HR
            go_wp2_with fail
            go_roundw
            case rel=>(first | exact⟨_,by omega,by go_num,HK2,HH.out.only 1 rfl⟩ | exact⟨1,by omega,rfl,HK2,HH.out.only 1 rfl⟩)
            case measure=>(first | (simp [intOf];done) | (simp [intOf];omega))
           ·obtain⟨j,rfl⟩: ∃j,k=j+1:=⟨k - 1,by omega⟩
            obtain⟨y,hy,d0⟩:=HPv.out j rfl
            have HRy:=hiD (fun hp=>HR0.out j rfl (by rw [hy];exact hp))
            have HRz:=hiD (fun(hp:lessB y name=true) (i:Nat) (hi:j+1=i+1)=>show lessB (tx[i]'(by omega)).name name=true from by obtain rfl:i=j:=(by omega);rw [hy];exact hp)
            have p0: ∀W,Heap w [.box xb [.string name,.int .i64 quota,.int .i64 next,.slice sA sn sc,.slice gA gn gc,.slice aA an ac,.slice mA mn mc],.box pb [.int .i64 cap,.slice (some ⟨b1,o1,none⟩) tn tc,.slice fA fn fc,.slice lA ln lc]] W→W.cell? ⟨b1,o1+j * 7,none⟩=some (.string y):=fun W hW=>(Below.cell hW.ext (World.block_lt_of_cell? w _ d0)).trans d0
            clear hy d0
            have q3:IntKind.i64.wrap (j:Int)=(j:Int):=IntWalk.i64_in _ (by omega)
            have q4:(0:Int) < (j:Int)+1:=by omega
            have q5:(j:Int) < (tn:Int):=by omega
            refine tW 5 3 ?_
            refine tH 8 1 ?_
            refine tW 9 6 ?_
            refine tH 15 0 ?_
            clear p0
            cases hl:lessB y name with
            | false=>
              have hq:Op.bytesLess y.toList name.toList=false:=hl
              refine tW 16 1 ?_
              obtain rfl:V=9:=HRy.out hl
              clear HT HR0 HB1
              refine zq [(17,some 57,.bool true),(18,some 58,.bool true)] rfl (fun _ _ _ _ _ h=>h) (by kernel_rfl) (by assumption) ?_;(try simp only [zg,zf,Act.put,lyA,lyB,lyC])
              refine dnX ?_
              clear hHeld
              go_wp2_with fail
              go_ret
              exact⟨rfl,HH3.out.ext⟩
            | true=>
              have hq:Op.bytesLess y.toList name.toList=true:=hl
              have HR:=hiD (HRz.out hl)
              clear HRy HRz
              refine tW 16 1 ?_
              refine zq [(17,some 57,.bool false),(18,some 58,.bool false)] rfl (fun _ _ _ _ _ h=>h) (by kernel_rfl) (by assumption) ?_;(try simp only [zg,zf,Act.put,lyA,lyB,lyC])
              refine dnX ?_
              clear hHeld
              have HH:=HH3
              clear HH3
              have HK2:=hiD (HT.out rfl HR.out)
              clear HT HR0 HB1 HR
              go_wp2_with fail
              go_roundw
              case rel=>(first | exact⟨_,by omega,by go_num,HK2,HH.out.only 1 rfl⟩ | exact⟨1,by omega,rfl,HK2,HH.out.only 1 rfl⟩)
              case measure=>(first | (simp [intOf];done) | (simp [intOf];omega))
          ·
           have hq9:(te == 0)=false:=by rw [beq_eq_false_iff_ne];exact hte
           have hq8:(te != 0)=true:=by rw [bne_iff_ne];exact hte
           refine tW 2 1 ?_
           obtain rfl:V=9:=HB1.out hte
           clear HT HR0 HB1
           refine zq [(3,some 43,.bool true),(4,some 44,undef),(5,some 45,undef),(6,some 46,undef),(7,some 47,undef),(8,some 48,undef),(9,some 49,undef),(10,some 50,undef),(11,some 51,undef),(12,some 52,undef),(13,some 53,undef),(14,some 54,undef),(15,some 55,undef),(16,some 56,undef),(17,some 57,undef),(18,some 58,.bool true)] rfl (fun _ _ _ _ _ h=>h) (by kernel_rfl) (by assumption) ?_;(try simp only [zg,zf,Act.put,lyA,lyB,lyC])
           refine dnX ?_
           clear hHeld
           go_wp2_with fail
           go_ret
           exact⟨rfl,HH3.out.ext⟩
         ·obtain rfl:k=tn:=by omega
          have HK1:=hiD (fun j (h:j < tx.length)=>HK.out.1 j h (by rw [hTn.out];exact h))
          have HV:=hiD (HYe.out HK1.out (fun j h=>HK.out.2 j h (by rw [hTn.out];exact h)))
          have HAe:=hiD (HAd.out HK1.out)
          clear HYe HK HAd HK1 P6 P7
          go_wp2_with (refine lSX HH zD 0 ?_)
          refine cX HH (HAe.out _ HH.out.ext) ?_
          clear HH
          intro w7 HH
          by_cases had:ad=0
          ·obtain rfl:V=0:=by rw [HV.out,if_pos had]
           subst had
           clear HV
           go_wp2_with fail
           go_ret
           exact⟨rfl,HH.out.ext⟩
          ·obtain rfl:V=9:=by rw [HV.out,if_neg had]
           have q9:(ad == 0)=false:=by rw [beq_eq_false_iff_ne];exact had
           have q8:(ad != 0)=true:=by rw [bne_iff_ne];exact had
           clear HV
           go_wp2_with fail
           go_ret
           exact⟨rfl,HH.out.ext⟩
    ·obtain rfl:V=9:=P3.out hpe
     have q9:(pe == 0)=false:=by rw [beq_eq_false_iff_ne];exact hpe
     have q8:(pe != 0)=true:=by rw [bne_iff_ne];exact hpe
     go_enter Tryz.func58,Tryz.ntmps58
     go_upto_region 1 with fail
     generalize hwH:World.alloc w _=w1;have HH:=hiD (Heap.one hwH);clear hwH
     have hc:=zY (HH.out.boxAt 0 rfl)
     obtain⟨c0,c1,c2,c3,-⟩:=hc
     go_wp2_with (first | (go_at_call 116;refine(HAm.out _).mono ?_;rintro e wp ⟨rfl,ep⟩;replace HH:=hiD (HH.out.later ep);clear ep c0 c1 c2 c3;have hc:=zY (HH.out.boxAt 0 rfl);obtain⟨c0,c1,c2,c3,-⟩:=hc) | (go_at_call 117;refine(HPr.out _ HH.out.ext).mono ?_;rintro e wq ⟨rfl,eq⟩;replace HH:=hiD (HH.out.later eq);clear eq c0 c1 c2 c3;have hc:=zY (HH.out.boxAt 0 rfl);obtain⟨c0,c1,c2,c3,-⟩:=hc) | (go_at_call 84;refine(HLg.out _ HH.out.ext).mono ?_;rintro e wn ⟨rfl,en⟩;replace HH:=hiD (HH.out.later en);clear en c0 c1 c2 c3;have hc:=zY (HH.out.boxAt 0 rfl);obtain⟨c0,c1,c2,c3,-⟩:=hc))
     go_ret
     exact⟨rfl,HH.out.ext⟩
end Go.Proofs.YtckaneapjpiocaaGreatDoor
