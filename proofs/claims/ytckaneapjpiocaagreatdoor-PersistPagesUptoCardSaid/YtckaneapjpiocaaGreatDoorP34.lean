/- The texts Pck in one file. -/
import Derived.Test.YtckaneapjpiocaaGreatDoorP33
set_option linter.unusedVariables false
set_option linter.unusedSimpArgs false
set_option maxHeartbeats 16000000
set_option maxRecDepth 100000
namespace Go.Proofs.YtckaneapjpiocaaGreatDoor
open Go.RowKit Go.Maps Go.Sort Go.Shelf
def yr(p:Pol):Bool:=decide (p.ten.xs.length≤4) && (zy p.cap 0 && (decide (prE p.forced.xs=0) && (decide (p.log.xs.length≤16) && (p.log.xs.all liB && (p.ten.xs.all yi && (xp (p.ten.xs.map Tnt.name) && decide (qN p=0)))))))
def yU(p:Pol):Int:=if yr p=true then 0 else 9
theorem acJ{t:Tnt}:zZ t=0↔yi t=true:=by
 rw [zZ];split
 ·rename_i h;exact⟨fun _=>h,fun _=>rfl⟩
 ·rename_i h;exact⟨fun e=>absurd e (by decide),fun e=>absurd e h⟩
theorem xD{p:Pol}(h:yr p=false):yU p=9:=by rw [yU,h];rfl
theorem aeV(p:Pol)(h:4 < p.ten.xs.length):yU p=9:=xD (by rw [yr,decide_eq_false (by omega)];rfl)
theorem afs(p:Pol)(h:zy p.cap 0=false):yU p=9:=xD (by rw [yr,h];simp)
theorem afz(p:Pol)(h:prE p.forced.xs≠0):yU p=9:=xD (by rw [yr,decide_eq_false h];simp)
theorem aeU(p:Pol)(h:16 < p.log.xs.length):yU p=9:=xD (by rw [yr,decide_eq_false (show¬p.log.xs.length≤16 by omega)];simp)
theorem ae1(p:Pol)(h:p.log.xs.all liB=false):yU p=9:=xD (by rw [yr,h];simp)
theorem afb(p:Pol)(k:Nat)(hk:k < p.ten.xs.length)(h:zZ p.ten.xs[k]≠0):yU p=9:=xD (by
 have:yi p.ten.xs[k]=false:=by
  cases hb:yi p.ten.xs[k]with
  | false=>rfl
  | true=>exact absurd (acJ.2 hb) h
 rw [yr,xt yi _ k hk this];simp)
theorem aeZ(p:Pol)(j:Nat)(h:j+1 < p.ten.xs.length)(hp:zd p.ten.xs[j].name p.ten.xs[j+1].name=false):yU p=9:=xD (by
 have:xp (p.ten.xs.map Tnt.name)=false:=aaw _ j (by simpa using h) (by simpa using hp)
 rw [yr,this];simp)
theorem agx(p:Pol)(h1:p.ten.xs.length≤4)(h2:zy p.cap 0=true)(h3:prE p.forced.xs=0)(h4:p.log.xs.length≤16)(h5:p.log.xs.all liB=true)
 (h6: ∀k (h:k < p.ten.xs.length),zZ p.ten.xs[k]=0) (h7: ∀j (h:j+1 < p.ten.xs.length),zd p.ten.xs[j].name p.ten.xs[j+1].name=true):yU p=if qN p=0 then 0 else 9:=by
 have a:p.ten.xs.all yi=true:=List.all_eq_true.2 fun x hx=>by
  obtain⟨k,hk,rfl⟩:=List.getElem_of_mem hx
  exact acJ.1 (h6 k hk)
 have b:xp (p.ten.xs.map Tnt.name)=true:=qX _ fun k h=>by
  have:=h7 k (by simpa using h)
  simpa using this
 rw [yU,yr,a,b,h2,h5]
 simp [h1,h3,h4]
theorem ack{t:Tnt}{w:World}{lo hi:Nat}(h:Tnt.At w lo hi t)(hb:zZ t=0):t.sets.n≤32∧t.stages.n≤4:=by
 have:=acJ.1 hb
 simp only [yi,yv,xo,Bool.and_eq_true,decide_eq_true_eq]at this
 have h1:=h.sets.len
 have h2:=h.stages.len
 exact⟨by rw [h1];exact this.2.2.2.1.1,by rw [h2];exact this.2.2.2.2.2.1.1⟩
theorem aar(w:World)(a:Int)(h1: -9223372036854775808≤a)(h2:a≤9223372036854775807):
 Calls Tryz.prog 116 #[.int .i64 a] w fun e w'=>e= .returned (.bool (zy a 0))∧Ext w w':=by
 unfold zy
 go_enter Tryz.func116,Tryz.ntmps116
 go_wp2_with fail
 all_goals (go_ret;refine⟨x9 ?_,Ext.refl _⟩;(first | (simp [*];done) | (simp [*];omega)))
theorem agn(w:World)(x:Lin)(hM:yJ w)(hx:x.sm):
 Calls Tryz.prog 118 #[.agg x.cells.toArray] w fun e w'=>e= .returned (.bool (!liB x))∧Ext w w':=by
 obtain⟨h1,h2,h3,h4⟩:=hx
 have HNm:=Lib.hid (fun W=>xf x.user W (Nat.le_trans h1 (by decide)))
 have HPa:=Lib.hid (fun W (hW:Ext w W)=>xW x.path W (hM.ext hW) (Nat.lt_of_le_of_lt h2 (by decide)))
 have HA1:=Lib.hid (fun W=>aar W x.kind (zr h3).1 (zr h3).2)
 have HA2:=Lib.hid (fun W=>aar W x.err (zr h4).1 (zr h4).2)
 have HV:=Lib.hid (show(!liB x)=!((decide (x.user.size=0) || zi x.user) && (zv x.path && (zy x.kind 0 && zy x.err 0)))from rfl)
 have he:=qD x.user
 clear h1 h2 h3 h4 hM
 generalize (!liB x)=V at *
 obtain⟨us,ki,pa,er⟩:=x
 dsimp only at *
 generalize decide (us.size=0)=b0 at *
 generalize zi us=b1 at *
 generalize zv pa=b2 at *
 generalize zy ki 0=b3 at *
 generalize zy er 0=b4 at *
 simp only [Lin.cells]
 cases b0 <;> cases b1 <;> cases b2 <;> cases b3 <;> cases b4 <;> (focus(go_enter Tryz.func118,Tryz.ntmps118;go_upto_region 1 with fail;generalize hwH:World.alloc w _=w1;have HH:=Lib.hid (Heap.one hwH);clear hwH;go_wp2_with (first | (go_big_want;refine yH HH.out rfl rfl 0 rfl rfl (by decide+kernel) ?_) | (refine zc HH.out rfl rfl rfl 0 rfl rfl (by decide+kernel) ?_) | (go_at_call 44;(with_reducible refine(HNm.out _).mono ?_);rintro e wC ⟨rfl,eC⟩;replace HH:=Lib.hid (HH.out.later eC);clear eC) | (go_at_call 138;(with_reducible refine(HPa.out _ HH.out.ext).mono ?_);rintro e wC ⟨rfl,eC⟩;replace HH:=Lib.hid (HH.out.later eC);clear eC) | (go_at_call 116;(with_reducible refine(HA1.out _).mono ?_);rintro e wC ⟨rfl,eC⟩;replace HH:=Lib.hid (HH.out.later eC);clear eC) | (go_at_call 116;(with_reducible refine(HA2.out _).mono ?_);rintro e wC ⟨rfl,eC⟩;replace HH:=Lib.hid (HH.out.later eC);clear eC));go_ret;exact⟨by rw [HV.out];rfl,HH.out.ext⟩))
theorem aeM: ∀args w,(callFunc 118 args).run Tryz.prog w= .ok (.enter 118 args) w:=abN Tryz.func118 (by kernel_rfl) rfl
theorem aeF(w:World)(s:Sl Lin)(hM:yJ w)(h:Sl.At w 0 w.heap.size Lin.cells Lin.sm s):
 Calls Tryz.prog 84 #[s.val,.func (.func 118) #[] #[]] w fun e w'=>e= .returned (.bool (!(s.xs.all liB)))∧Ext w w':=by
 have HI:=Lib.hid (acI w s.A s.n s.c s.xs h.len (Nat.le_trans (Nat.le_trans h.le h.cap) (by decide)) h.rd (fun x=>!liB x) (.func (.func 118) #[] #[]) 118 #[] rfl aeM
  (fun x hx w1 e1=>agn w1 x (hM.ext e1) (h.all x hx)))
 have HV:=Lib.hid (acm s.xs)
 clear h hM
 generalize zw _ s.xs=fi at *
 generalize (!(s.xs.all liB))=V at *
 simp only [Sl.val]
 go_enter Tryz.func84,Tryz.ntmps84
 go_wp2_with fail
 refine HI.out.mono ?_
 rintro e w2 ⟨rfl,e2⟩
 go_wp2_with fail
 go_ret
 exact⟨x9 HV.out,e2⟩
theorem ac4(w:World)(p:Pol)(hM:yJ w)(h:Pol.At w 0 w.heap.size p):
 Calls Tryz.prog 58 #[.agg p.cells.toArray] w fun e w'=>e= .returned (.int .i64 (yU p))∧Ext w w':=by
 have HAm:=Lib.hid (fun W=>aar W p.cap (zr h.cap).1 (zr h.cap).2)
 have HPr:=Lib.hid (fun W (hW:Ext w W)=>qe W p.forced.A p.forced.n p.forced.c p.forced.xs h.forced.len (Nat.le_trans h.forcedS (by decide)) (Rd.at h.forced.rd hW (Nat.le_refl _)) (fun x hx=>⟨Nat.le_trans (h.forced.all x hx).1 (by decide),Nat.le_trans (h.forced.all x hx).2 (by decide)⟩))
 have HLg:=Lib.hid (fun W (hW:Ext w W)=>aeF W p.log (hM.ext hW) (yD h.log hW (Nat.le_refl _) fun _ h=>h))
 have HTc:=Lib.hid (fun k (hk:k < p.ten.xs.length) W (hW:Ext w W)=>abF W p.ten.xs[k] (hM.ext hW) (Tnt.At.on (h.ten.all _ (List.getElem_mem hk)) hW (Nat.le_refl _)))
 have HAd:=Lib.hid (fun(h6: ∀k (h:k < p.ten.xs.length),zZ p.ten.xs[k]=0) W (hW:Ext w W)=>adI W p (h.on hW (Nat.le_refl _)) (fun t ht=>by
  obtain⟨k,hk,rfl⟩:=List.getElem_of_mem ht
  exact ack (h.ten.all _ (List.getElem_mem hk)) (h6 k hk)))
 have P1:=Lib.hid (aeV p)
 have P2:=Lib.hid (afs p)
 have P3:=Lib.hid (afz p)
 have P4:=Lib.hid (aeU p)
 have P5:=Lib.hid (ae1 p)
 have P6:=Lib.hid (afb p)
 have P7:=Lib.hid (aeZ p)
 have PY:=Lib.hid (agx p)
 have HTn:=Lib.hid h.ten
 have Hln:=Lib.hid (show p.log.n=p.log.xs.length from h.log.len)
 have hlm:p.log.n≤9223372036854775807:=Nat.le_trans (Nat.le_trans h.log.le h.log.cap) (by decide)
 have hS:=h.tenS
 generalize yU p=V at *
 generalize qN p=ad at *
 clear h hM
 obtain⟨cap,⟨tA,tn,tc,tx⟩,⟨fA,fn,fc,fx⟩,⟨lA,ln,lc,lx⟩⟩:=p
 have hTn:=Lib.hid (show tn=tx.length from HTn.out.len)
 dsimp only at *
 simp only [Pol.cells,Sl.val]at HLg HAd ⊢
 generalize zy cap 0=b2 at *
 generalize prE fx=pe at *
 generalize lx.all liB=b5 at *
 by_cases h4:4 < tn
 ·obtain rfl:V=9:=P1.out (by have:=hTn.out;omega)
  have q4:(4:Int) < (tn:Int):=by omega
  go_enter Tryz.func58,Tryz.ntmps58
  go_upto_region 1 with fail
  generalize hwH:World.alloc w _=w1;have HH:=Lib.hid (Heap.one hwH);clear hwH
  have hc:=zU (HH.out.boxAt 0 rfl)
  obtain⟨c0,c1,c2,c3,-⟩:=hc
  go_wp2_with (first | (go_at_call 116;refine(HAm.out _).mono ?_;rintro e wp ⟨rfl,ep⟩;replace HH:=Lib.hid (HH.out.later ep);clear ep c0 c1 c2 c3;have hc:=zU (HH.out.boxAt 0 rfl);obtain⟨c0,c1,c2,c3,-⟩:=hc) | (go_at_call 117;refine(HPr.out _ HH.out.ext).mono ?_;rintro e wq ⟨rfl,eq⟩;replace HH:=Lib.hid (HH.out.later eq);clear eq c0 c1 c2 c3;have hc:=zU (HH.out.boxAt 0 rfl);obtain⟨c0,c1,c2,c3,-⟩:=hc) | (go_at_call 84;refine(HLg.out _ HH.out.ext).mono ?_;rintro e wn ⟨rfl,en⟩;replace HH:=Lib.hid (HH.out.later en);clear en c0 c1 c2 c3;have hc:=zU (HH.out.boxAt 0 rfl);obtain⟨c0,c1,c2,c3,-⟩:=hc))
  go_ret
  exact⟨rfl,HH.out.ext⟩
 ·have q4: ¬(4:Int) < (tn:Int):=by omega
  cases b2 with
  | false=>
    obtain rfl:V=9:=P2.out rfl
    go_enter Tryz.func58,Tryz.ntmps58
    go_upto_region 1 with fail
    generalize hwH:World.alloc w _=w1;have HH:=Lib.hid (Heap.one hwH);clear hwH
    have hc:=zU (HH.out.boxAt 0 rfl)
    obtain⟨c0,c1,c2,c3,-⟩:=hc
    go_wp2_with (first | (go_at_call 116;refine(HAm.out _).mono ?_;rintro e wp ⟨rfl,ep⟩;replace HH:=Lib.hid (HH.out.later ep);clear ep c0 c1 c2 c3;have hc:=zU (HH.out.boxAt 0 rfl);obtain⟨c0,c1,c2,c3,-⟩:=hc) | (go_at_call 117;refine(HPr.out _ HH.out.ext).mono ?_;rintro e wq ⟨rfl,eq⟩;replace HH:=Lib.hid (HH.out.later eq);clear eq c0 c1 c2 c3;have hc:=zU (HH.out.boxAt 0 rfl);obtain⟨c0,c1,c2,c3,-⟩:=hc) | (go_at_call 84;refine(HLg.out _ HH.out.ext).mono ?_;rintro e wn ⟨rfl,en⟩;replace HH:=Lib.hid (HH.out.later en);clear en c0 c1 c2 c3;have hc:=zU (HH.out.boxAt 0 rfl);obtain⟨c0,c1,c2,c3,-⟩:=hc))
    go_ret
    exact⟨rfl,HH.out.ext⟩
  | true=>
    by_cases hpe:pe=0
    ·subst hpe
     by_cases h16:16 < ln
     ·obtain rfl:V=9:=P4.out (by have:=Hln.out;omega)
      have q16:(16:Int) < (ln:Int):=by omega
      go_enter Tryz.func58,Tryz.ntmps58
      go_upto_region 1 with fail
      generalize hwH:World.alloc w _=w1;have HH:=Lib.hid (Heap.one hwH);clear hwH
      have hc:=zU (HH.out.boxAt 0 rfl)
      obtain⟨c0,c1,c2,c3,-⟩:=hc
      go_wp2_with (first | (go_at_call 116;refine(HAm.out _).mono ?_;rintro e wp ⟨rfl,ep⟩;replace HH:=Lib.hid (HH.out.later ep);clear ep c0 c1 c2 c3;have hc:=zU (HH.out.boxAt 0 rfl);obtain⟨c0,c1,c2,c3,-⟩:=hc) | (go_at_call 117;refine(HPr.out _ HH.out.ext).mono ?_;rintro e wq ⟨rfl,eq⟩;replace HH:=Lib.hid (HH.out.later eq);clear eq c0 c1 c2 c3;have hc:=zU (HH.out.boxAt 0 rfl);obtain⟨c0,c1,c2,c3,-⟩:=hc) | (go_at_call 84;refine(HLg.out _ HH.out.ext).mono ?_;rintro e wn ⟨rfl,en⟩;replace HH:=Lib.hid (HH.out.later en);clear en c0 c1 c2 c3;have hc:=zU (HH.out.boxAt 0 rfl);obtain⟨c0,c1,c2,c3,-⟩:=hc))
      go_ret
      exact⟨rfl,HH.out.ext⟩
     ·have q16: ¬(16:Int) < (ln:Int):=by omega
      cases b5 with
      | false=>
        obtain rfl:V=9:=P5.out rfl
        go_enter Tryz.func58,Tryz.ntmps58
        go_upto_region 1 with fail
        generalize hwH:World.alloc w _=w1;have HH:=Lib.hid (Heap.one hwH);clear hwH
        have hc:=zU (HH.out.boxAt 0 rfl)
        obtain⟨c0,c1,c2,c3,-⟩:=hc
        go_wp2_with (first | (go_at_call 116;refine(HAm.out _).mono ?_;rintro e wp ⟨rfl,ep⟩;replace HH:=Lib.hid (HH.out.later ep);clear ep c0 c1 c2 c3;have hc:=zU (HH.out.boxAt 0 rfl);obtain⟨c0,c1,c2,c3,-⟩:=hc) | (go_at_call 117;refine(HPr.out _ HH.out.ext).mono ?_;rintro e wq ⟨rfl,eq⟩;replace HH:=Lib.hid (HH.out.later eq);clear eq c0 c1 c2 c3;have hc:=zU (HH.out.boxAt 0 rfl);obtain⟨c0,c1,c2,c3,-⟩:=hc) | (go_at_call 84;refine(HLg.out _ HH.out.ext).mono ?_;rintro e wn ⟨rfl,en⟩;replace HH:=Lib.hid (HH.out.later en);clear en c0 c1 c2 c3;have hc:=zU (HH.out.boxAt 0 rfl);obtain⟨c0,c1,c2,c3,-⟩:=hc))
        go_ret
        exact⟨rfl,HH.out.ext⟩
      | true=>
        have HYe:=Lib.hid (PY.out (by have:=hTn.out;omega) rfl rfl (by have:=Hln.out;omega) rfl)
        clear PY P1 P2 P3 P4 P5
        go_enter Tryz.func58,Tryz.ntmps58
        go_upto_region 1 with fail
        generalize hwH:World.alloc w _=w1;have HH:=Lib.hid (Heap.one hwH);clear hwH
        have hc:=zU (HH.out.boxAt 0 rfl)
        obtain⟨c0,c1,c2,c3,-⟩:=hc
        go_upto_region 3 with(first | (go_at_call 116;refine(HAm.out _).mono ?_;rintro e wp ⟨rfl,ep⟩;replace HH:=Lib.hid (HH.out.later ep);clear ep c0 c1 c2 c3;have hc:=zU (HH.out.boxAt 0 rfl);obtain⟨c0,c1,c2,c3,-⟩:=hc) | (go_at_call 117;refine(HPr.out _ HH.out.ext).mono ?_;rintro e wq ⟨rfl,eq⟩;replace HH:=Lib.hid (HH.out.later eq);clear eq c0 c1 c2 c3;have hc:=zU (HH.out.boxAt 0 rfl);obtain⟨c0,c1,c2,c3,-⟩:=hc) | (go_at_call 84;refine(HLg.out _ HH.out.ext).mono ?_;rintro e wn ⟨rfl,en⟩;replace HH:=Lib.hid (HH.out.later en);clear en c0 c1 c2 c3;have hc:=zU (HH.out.boxAt 0 rfl);obtain⟨c0,c1,c2,c3,-⟩:=hc))
        obtain⟨pb,hpb⟩: ∃b,b=w.heap.size:=⟨_,rfl⟩
        rw [←hpb]at HH ⊢ c0 c1 c2 c3
        clear hpb
        go_wp2_with fail
        clear c0 c1 c2 c3
        have HH0:=Lib.hid (show Heap w [.box pb [.int .i64 cap,.slice tA tn tc,.slice fA fn fc,.slice lA ln lc]] _ from HH.out)
        clear HH
        go_loopw [3,4,35] (fun _ _ v wr=> ∃k:Nat,k≤tn∧v= .int .i64 (k:Int)∧Hid ((∀j (h:j < tx.length),j < k→zZ tx[j]=0)∧ ∀j (h:j+1 < tx.length),j+1 < k→zd tx[j].name tx[j+1].name=true)∧Hid (Heap w [.box pb [.int .i64 cap,.slice tA tn tc,.slice fA fn fc,.slice lA ln lc]] wr)) (fun _ _ v _=>tn - (intOf v).toNat)
        case atStart=>exact⟨0,Nat.zero_le _,rfl,Lib.hid ⟨fun j h hj=>absurd hj (Nat.not_lt_zero _),fun j h hj=>absurd hj (Nat.not_lt_zero _)⟩,HH0⟩
        case round=>
         clear HH0
         obtain⟨k,hk,rfl,HK,HH⟩:=hrel
         by_cases hlt:k < tn
         ·have l1:k < tx.length:=by rw [←hTn.out];exact hlt
          obtain⟨b1,o1,hA1,_,hb1,G⟩:=zk (size:=7) (fun _=>rfl) (by omega) HTn.out.rd l1
          dsimp only at hA1
          subst hA1
          have HB1:=Lib.hid (fun hp=>P6.out k l1 hp)
          have HR0:=Lib.hid (fun(j:Nat) (hj:k=j+1) (hp:zd (tx[j]'(by omega)).name tx[k].name=false)=>show V=9 by subst hj;exact P7.out j l1 hp)
          have HT:=Lib.hid (fun(h1:zZ tx[k]=0) (h2: ∀j (hj:k=j+1),zd (tx[j]'(by omega)).name tx[k].name=true)=>show(∀j (h:j < tx.length),j < k+1→zZ tx[j]=0)∧ ∀j (h:j+1 < tx.length),j+1 < k+1→zd tx[j].name tx[j+1].name=true from
           ⟨fun j h hj=>by
             rcases Nat.lt_or_ge j k with h3 | h3
             ·exact HK.out.1 j h h3
             ·obtain rfl:j=k:=by omega
              exact h1,fun j h hj=>by
             rcases Nat.lt_or_ge (j+1) k with h3 | h3
             ·exact HK.out.2 j h h3
             ·obtain rfl:k=j+1:=by omega
              exact h2 j rfl⟩)
          have HPv:=Lib.hid (fun(j:Nat) (hj:k=j+1)=>show∃y:ByteArray,(tx[j]'(by omega)).name=y∧w.cell? ⟨b1,o1+j * 7,none⟩=some (.string y)by
           obtain⟨b2,o2,hh,_,_,G2⟩:=zk (size:=7) (fun _=>rfl) (by omega) HTn.out.rd (k:=j) (show j < tx.length by omega)
           obtain⟨rfl,rfl⟩:b1=b2∧o1=o2:=by simpa using hh
           exact⟨_,rfl,G2 0 _ rfl⟩)
          have HCk:=Lib.hid (HTc.out k l1)
          have HGw:=Lib.hid (fun i u hu=>(Below.cell HH.out.ext hb1).trans (G i u hu))
          clear G
          generalize tx[k]=x at *
          obtain⟨name,quota,next,⟨sA,sn,sc,ss⟩,⟨gA,gn,gc,gs⟩,⟨aA,an,ac,ax⟩,⟨mA,mn,mc,ms⟩⟩:=x
          generalize zZ _=te at *
          dsimp only at HB1 HR0 HT
          simp only [Tnt.cells,Sl.val]at HCk
          have hkn:(k:Int) < (tn:Int):=by omega
          have HGc:=Lib.hid (show∀i u,([.string name,.int .i64 quota,.int .i64 next,.slice sA sn sc,.slice gA gn gc,.slice aA an ac,.slice mA mn mc]:List Value)[i]?=some u→wr.cell? ⟨b1,o1+k * 7+i,none⟩=some u from HGw.out)
          clear HGw
          go_upto_region 6 with(first | (refine zV HGc.out rfl zE (by kernel_rfl) rfl rfl rfl ?_) | (refine zt (HH.out.alloc _ _) zE rfl rfl rfl rfl 0 rfl rfl rfl rfl ?_;clear HH;intro wS HHS;have HH:=Lib.hid HHS;clear HHS))
          obtain⟨xb,hxb⟩: ∃b,b=wr.heap.size:=⟨_,rfl⟩
          rw [←hxb]at HH ⊢
          clear hxb HGc
          have HHd:=Lib.hid (show Heap w [.box xb [.string name,.int .i64 quota,.int .i64 next,.slice sA sn sc,.slice gA gn gc,.slice aA an ac,.slice mA mn mc],.box pb [.int .i64 cap,.slice (some ⟨b1,o1,none⟩) tn tc,.slice fA fn fc,.slice lA ln lc]] (World.drew wS)from HH.out.drew)
          clear HH
          refine wp_region_held_drew (S:=Heap w [.box xb [.string name,.int .i64 quota,.int .i64 next,.slice sA sn sc,.slice gA gn gc,.slice aA an ac,.slice mA mn mc],.box pb [.int .i64 cap,.slice (some ⟨b1,o1,none⟩) tn tc,.slice fA fn fc,.slice lA ln lc]]) (by kernel_rfl) HHd.out (fun hHeld=>?_)
          generalize World.drew _=wd at *
          refine tG 0 rfl (fun wT hST=>z6 hST zE (by kernel_rfl) rfl rfl 0 rfl (Nat.le_of_ble_eq_true rfl)) hHeld ?_;(try simp only [Act.put,lyA,lyB,lyC])
          clear hHeld
          refine oS 1 (fun K hK=>?_)
          go_simp
          refine(HCk.out _ HHd.out.ext).mono ?_
          rintro e w3 ⟨rfl,e3⟩
          have HH3:=Lib.hid (HHd.out.later e3)
          clear HHd e3
          go_wp2_with fail
          refine hK.out _ _ (HH3).out (fun hHeld=>?_);clear hK K;(try simp only [Act.put,lyA,lyB,lyC])
          by_cases hte:te=0
          ·subst hte
           refine tW 2 3 ?_
           by_cases hk0:k=0
           ·subst hk0
            have HR:=Lib.hid (show∀j (hj:0=j+1),zd (tx[j]'(by omega)).name name=true from fun j hj=>by omega)
            refine tW 5 1 ?_
            refine zj [(6,some 46,.bool false),(7,some 47,undef),(8,some 48,undef),(9,some 49,undef),(10,some 50,undef),(11,some 51,undef),(12,some 52,undef),(13,some 53,undef),(14,some 54,undef),(15,some 55,undef),(16,some 56,undef),(17,some 57,.bool false),(18,some 58,.bool false)] rfl (fun _ _ _ _ _ h=>h) (by kernel_rfl) (by assumption) ?_;(try simp only [zf,zg,Act.put,lyA,lyB,lyC])
            refine wpAnyH_done (by kernel_rfl) ?_ _
            clear hHeld
            have HH:=HH3
            clear HH3
            have HK2:=Lib.hid (HT.out rfl HR.out)
            clear HT HR0 HB1 HR
            go_wp2_with fail
            go_roundw
            case rel=>(first | exact⟨_,by omega,by go_num,HK2,HH.out.only 1 rfl⟩ | exact⟨1,by omega,rfl,HK2,HH.out.only 1 rfl⟩)
            case measure=>(first | (simp [intOf];done) | (simp [intOf];omega))
           ·obtain⟨j,rfl⟩: ∃j,k=j+1:=⟨k - 1,by omega⟩
            obtain⟨y,hy,d0⟩:=HPv.out j rfl
            have HRy:=Lib.hid (fun hp=>HR0.out j rfl (by rw [hy];exact hp))
            have HRz:=Lib.hid (fun(hp:zd y name=true) (i:Nat) (hi:j+1=i+1)=>show zd (tx[i]'(by omega)).name name=true from by obtain rfl:i=j:=(by omega);rw [hy];exact hp)
            have p0: ∀W,Heap w [.box xb [.string name,.int .i64 quota,.int .i64 next,.slice sA sn sc,.slice gA gn gc,.slice aA an ac,.slice mA mn mc],.box pb [.int .i64 cap,.slice (some ⟨b1,o1,none⟩) tn tc,.slice fA fn fc,.slice lA ln lc]] W→W.cell? ⟨b1,o1+j * 7,none⟩=some (.string y):=fun W hW=>(Below.cell hW.ext (World.block_lt_of_cell? w _ d0)).trans d0
            clear hy d0
            have q3:IntKind.i64.wrap (j:Int)=(j:Int):=IntWalk.i64_in _ (by omega)
            have q4:(0:Int) < (j:Int)+1:=by omega
            have q5:(j:Int) < (tn:Int):=by omega
            refine tW 5 3 ?_
            refine tG 8 rfl (fun wT hST=>za hST rfl rfl 1 rfl rfl (by kernel_rfl)) hHeld ?_;(try simp only [Act.put,lyA,lyB,lyC])
            refine tW 9 6 ?_
            refine tG 15 rfl (fun wT hST=>za hST rfl rfl 0 rfl rfl (by kernel_rfl)) hHeld ?_;(try simp only [Act.put,lyA,lyB,lyC])
            clear p0
            cases hl:zd y name with
            | false=>
              have hq:Op.bytesLess y.toList name.toList=false:=hl
              refine tW 16 1 ?_
              obtain rfl:V=9:=HRy.out hl
              clear HT HR0 HB1
              refine zj [(17,some 57,.bool true),(18,some 58,.bool true)] rfl (fun _ _ _ _ _ h=>h) (by kernel_rfl) (by assumption) ?_;(try simp only [zf,zg,Act.put,lyA,lyB,lyC])
              refine wpAnyH_done (by kernel_rfl) ?_ _
              clear hHeld
              go_wp2_with fail
              go_ret
              exact⟨rfl,HH3.out.ext⟩
            | true=>
              have hq:Op.bytesLess y.toList name.toList=true:=hl
              have HR:=Lib.hid (HRz.out hl)
              clear HRy HRz
              refine tW 16 1 ?_
              refine zj [(17,some 57,.bool false),(18,some 58,.bool false)] rfl (fun _ _ _ _ _ h=>h) (by kernel_rfl) (by assumption) ?_;(try simp only [zf,zg,Act.put,lyA,lyB,lyC])
              refine wpAnyH_done (by kernel_rfl) ?_ _
              clear hHeld
              have HH:=HH3
              clear HH3
              have HK2:=Lib.hid (HT.out rfl HR.out)
              clear HT HR0 HB1 HR
              go_wp2_with fail
              go_roundw
              case rel=>(first | exact⟨_,by omega,by go_num,HK2,HH.out.only 1 rfl⟩ | exact⟨1,by omega,rfl,HK2,HH.out.only 1 rfl⟩)
              case measure=>(first | (simp [intOf];done) | (simp [intOf];omega))
          ·
           have hq9:(te == 0)=false:=by rw [beq_eq_false_iff_ne];exact hte
           have hq8:(te != 0)=true:=by rw [bne_iff_ne];exact hte
           refine tW 2 1 ?_
           obtain rfl:V=9:=HB1.out hte
           clear HT HR0 HB1
           refine zj [(3,some 43,.bool true),(4,some 44,undef),(5,some 45,undef),(6,some 46,undef),(7,some 47,undef),(8,some 48,undef),(9,some 49,undef),(10,some 50,undef),(11,some 51,undef),(12,some 52,undef),(13,some 53,undef),(14,some 54,undef),(15,some 55,undef),(16,some 56,undef),(17,some 57,undef),(18,some 58,.bool true)] rfl (fun _ _ _ _ _ h=>h) (by kernel_rfl) (by assumption) ?_;(try simp only [zf,zg,Act.put,lyA,lyB,lyC])
           refine wpAnyH_done (by kernel_rfl) ?_ _
           clear hHeld
           go_wp2_with fail
           go_ret
           exact⟨rfl,HH3.out.ext⟩
         ·obtain rfl:k=tn:=by omega
          have HK1:=Lib.hid (fun j (h:j < tx.length)=>HK.out.1 j h (by rw [hTn.out];exact h))
          have HV:=Lib.hid (HYe.out HK1.out (fun j h=>HK.out.2 j h (by rw [hTn.out];exact h)))
          have HAe:=Lib.hid (HAd.out HK1.out)
          clear HYe HK HAd HK1 P6 P7
          go_wp2_with (refine zp HH.out zS (by kernel_rfl) rfl rfl rfl 0 rfl rfl ?_)
          refine(HAe.out _ HH.out.ext).mono ?_
          rintro e w7 ⟨rfl,e7⟩
          replace HH:=Lib.hid (HH.out.later e7)
          clear e7
          by_cases had:ad=0
          ·obtain rfl:V=0:=by rw [HV.out,if_pos had]
           subst had
           clear HV
           go_wp2_with fail
           go_ret
           exact⟨rfl,HH.out.ext⟩
          ·obtain rfl:V=9:=by rw [HV.out,if_neg had]
           have q9:(ad == 0)=false:=by rw [beq_eq_false_iff_ne];exact had
           have q8:(ad != 0)=true:=by rw [bne_iff_ne];exact had
           clear HV
           go_wp2_with fail
           go_ret
           exact⟨rfl,HH.out.ext⟩
    ·obtain rfl:V=9:=P3.out hpe
     have q9:(pe == 0)=false:=by rw [beq_eq_false_iff_ne];exact hpe
     have q8:(pe != 0)=true:=by rw [bne_iff_ne];exact hpe
     go_enter Tryz.func58,Tryz.ntmps58
     go_upto_region 1 with fail
     generalize hwH:World.alloc w _=w1;have HH:=Lib.hid (Heap.one hwH);clear hwH
     have hc:=zU (HH.out.boxAt 0 rfl)
     obtain⟨c0,c1,c2,c3,-⟩:=hc
     go_wp2_with (first | (go_at_call 116;refine(HAm.out _).mono ?_;rintro e wp ⟨rfl,ep⟩;replace HH:=Lib.hid (HH.out.later ep);clear ep c0 c1 c2 c3;have hc:=zU (HH.out.boxAt 0 rfl);obtain⟨c0,c1,c2,c3,-⟩:=hc) | (go_at_call 117;refine(HPr.out _ HH.out.ext).mono ?_;rintro e wq ⟨rfl,eq⟩;replace HH:=Lib.hid (HH.out.later eq);clear eq c0 c1 c2 c3;have hc:=zU (HH.out.boxAt 0 rfl);obtain⟨c0,c1,c2,c3,-⟩:=hc) | (go_at_call 84;refine(HLg.out _ HH.out.ext).mono ?_;rintro e wn ⟨rfl,en⟩;replace HH:=Lib.hid (HH.out.later en);clear en c0 c1 c2 c3;have hc:=zU (HH.out.boxAt 0 rfl);obtain⟨c0,c1,c2,c3,-⟩:=hc))
     go_ret
     exact⟨rfl,HH.out.ext⟩
end Go.Proofs.YtckaneapjpiocaaGreatDoor
