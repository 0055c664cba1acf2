/- The texts Rr12 in one file. -/
import Derived.Test.YtckaneapjpiocaaGreatDoorQ29
set_option linter.unusedVariables false
set_option linter.unusedSimpArgs false
set_option maxHeartbeats 16000000
set_option maxRecDepth 100000
namespace Go.Proofs.YtckaneapjpiocaaGreatDoor
open Go.RowKit Go.Maps Go.Sort Go.Shelf
def onF(t4 t5:Value)(ds:List Deferred)(PP:List PanicEntry→World→Prop)(Q:Exit→Act→World→Prop):Exit→Act→World→Prop
 | .normal,a,w=>Q .normal a w
 | .panic c,a,w=>(a.tmps.getD 4 undef=t4∧a.tmps.getD 5 undef=t5)∧a.defers=ds∧PP c w
 | _,_,_=>False
section
variable {P:Program} {c:Code} {Q:Exit→Act→World→Prop} {a:Act} {w:World} {t4 t5:Value} {ds:List Deferred} {PP:List PanicEntry→World→Prop}
theorem ac1(hp: ∀c a w,a.tmps.getD 4 undef=t4→a.tmps.getD 5 undef=t5→a.defers=ds→PP c w→Q (.panic c) a w)(h:c.wp P (onF t4 t5 ds PP Q) a w):c.wp P Q a w:=
 Code.wp_mono (fun e a w h=>by cases e <;> first | exact h | exact hp _ _ _ h.1.1 h.1.2 h.2.1 h.2.2 | exact h.elim) h
theorem xr{c:List PanicEntry}{d:Nat}{v:Value}(h:onF t4 t5 ds PP Q (.panic c) (a.put (some d) v) w)(h4:d≠4)(h5:d≠5):onF t4 t5 ds PP Q (.panic c) a w:=by
 obtain⟨⟨q1,q2⟩,q3,q4⟩:=h
 refine⟨⟨?_,?_⟩,q3,q4⟩
 ·rw [←q1];simp [Act.put,Array.getElem?_setIfInBounds,h4]
 ·rw [←q2];simp [Act.put,Array.getElem?_setIfInBounds,h5]
end
theorem tMF{G R:Prop}(i n:Nat)(r:R)(k:Hol R→Do (List.range' i n) G:=by
 intro hR
 simp only [rgS,rg0,Nat.reduceAdd]
 repeat
  ((refine doM rfl (by kernel_rfl) (by intro w hSw;(try dsimp only at hSw);go_simp <;> with_reducible rfl) (fun _ _ _ h=>xr h (by decide) (by decide)) (by assumption) ?_)
   (try simp only [Act.put,lyA,lyB,lyC]))
 refine doE ?_
 exact hR.out):G:=(k ⟨r⟩).out
theorem aiA{name:ByteArray}{l:List UInt8}{px:Tnt}(h:abC name l=some px):px.name=name:=by
 rw [abC]at h
 split at h
 ·simp only [rHd,Option.bind_eq_some_iff]at h
  obtain⟨_,_,_,_,_,_,_,_,_,_,_,_,_,_,h⟩:=h
  cases h;rfl
 ·cases h
theorem HdIn.eq{L:RdL}{px t:Tnt}(h:HdIn L px t):px=⟨px.name,px.quota,px.next,slB [],slB t.grants.xs,slB [],slB t.log.xs⟩:=by
 obtain⟨a,b,c,d,e,f,g⟩:=px
 have h1:=h.psets
 have h2:=h.pstages
 have h3:=h.pgrants
 have h4:=h.plog
 have h5:=h.grants
 have h6:=h.log
 dsimp only at h1 h2 h3 h4 h5 h6
 rw [h5,h6,←h3,←h4,h1,h2]
def okd(x:Ob):ByteArray×List UInt8:=(x.key,x.data.xs)
def TdO(w:World)(name:ByteArray)(xs:List (ByteArray×List UInt8))(e:Ending)(w':World):Prop:=
 (zd name=false∧e= .returned (.tuple #[.agg aeP.toArray,.int .i64 31])∧Ext w w')∨
 (zd name=true∧abR name xs=none∧e= .returned (.tuple #[.agg aeP.toArray,.int .i64 21])∧Ext w w')∨
 (zd name=true∧ ∃(px t:Tnt) (S:Nat→Prop) (L:RdL),abR name xs=some px∧e= .returned (.tuple #[.agg t.cells.toArray,.int .i64 0])∧t.bare=px∧TntIn L t∧t.fit∧Heap w [It.bag S L] w')
theorem anp:(Tryz.prog.info? 52).map (fun i=>(i.zero,i.size,i.bytes))=some (some (.agg #[.string .empty,.string .empty,.slice none 0 0,.slice none 0 0,.slice none 0 0]),5,104):=by kernel_rfl
theorem anQ:(Tryz.prog.info? 49).map (fun i=>(i.zero,i.size,i.bytes))=some (some (.agg #[.string .empty,.int .i64 0,.string .empty,.int .i64 0,.int .i64 0,.slice none 0 0,.int .i64 0,.int .i64 0,.string .empty,.int .u64 0,.int .u64 0,.int .u64 0,.int .u64 0,.slice none 0 0,.int .i64 0,.int .i64 0,.int .u64 0,.int .u64 0,.int .u64 0,.int .u64 0,.bool false]),21,224):=by kernel_rfl
theorem alc(w:World)(name:ByteArray)(s:Sl Ob)(hM:xf w)(hnm:sml name)(h:Sl.At w 0 w.heap.size Ob.cells (Ob.At w 0 w.heap.size) s)(hN:s.n≤1048576)(hD: ∀x∈s.xs,x.data.n≤100000000∧x.key.size≤1048576):
 Calls Tryz.prog 17 #[.string name,s.val] w (TdO w name (s.xs.map okd)):=by
 have HMx:=hiD hM
 have HNm:=hiD hnm
 have HA:=hiD h
 have HD:=hiD hD
 have HNa:=hiD (fun W=>qq name W (Nat.le_trans hnm (by decide)))
 clear hM hnm h hD
 obtain⟨A,n,c,os⟩:=s
 dsimp only at hN HD
 simp only [Sl.val]
 have HOut:=hiD (fun e w' (h:TdO w name (os.map okd) e w')=>h)
 have Hn:=hiD (show n=os.length from HA.out.len)
 generalize hTO:TdO w name (os.map okd)=TO at HOut ⊢
 have HTO:=hiD hTO
 clear hTO HOut
 cases hname:zd name with
 | false=>
   rw [hname]at HNa
   have HO:=hiD (show∀w',Ext w w'→TO (.returned (.tuple #[.agg aeP.toArray,.int .i64 31])) w' from fun w' h=>by rw [←HTO.out];exact .inl ⟨hname,rfl,h⟩)
   clear hname HTO
   go_enter_defers Tryz.func17,Tryz.ntmps17
   go_upto_region 1 with fail
   generalize hwH:World.alloc (World.alloc w _) _=w1;have HH:=hiD (Heap.two hwH);clear hwH
   go_wp2_with (first | (go_at_call 44;(with_reducible refine(HNa.out _).mono ?_);rintro e wC ⟨rfl,eC⟩;replace HH:=hiD (HH.out.later eC);clear eC) | (refine sSX HH zt 1 ?_;clear HH;intro wS HH) | (refine s1X HH 0 ?_;clear HH;intro wS HH))
   refine ac2 zt (by kernel_rfl) (by kernel_rfl) HH.out rfl rfl rfl 1 0 rfl rfl rfl ?_
   exact HO.out _ HH.out.ext
 | true=>
   rw [hname]at HNa
   have HOb:=hiD (show abR name (os.map okd)=none→ ∀w',Ext w w'→TO (.returned (.tuple #[.agg aeP.toArray,.int .i64 21])) w' from fun hr w' h=>by rw [←HTO.out];exact .inr (.inl ⟨hname,hr,rfl,h⟩))
   have HOg:=hiD (show∀(t:Tnt) (S:Nat→Prop) (L:RdL) (w':World),abR name (os.map okd)=some t.bare→TntIn L t→t.fit→Heap w [It.bag S L] w'→TO (.returned (.tuple #[.agg t.cells.toArray,.int .i64 0])) w' from fun t S L w' h1 h2 h3 h4=>by rw [←HTO.out];exact .inr (.inr ⟨hname,_,t,S,L,h1,rfl,rfl,h2,h3,h4⟩))
   clear hname HTO
   go_enter_defers Tryz.func17,Tryz.ntmps17
   go_upto_region 1 with fail
   generalize hwH:World.alloc (World.alloc w _) _=w1;have HH:=hiD (Heap.two hwH);clear hwH
   go_upto_region 3 with(go_at_call 44;(with_reducible refine(HNa.out _).mono ?_);rintro e wC ⟨rfl,eC⟩;replace HH:=hiD (HH.out.later eC);clear eC)
   replace HH:=hiD (show Heap w [.box w.heap.size aeP,.box (w.heap.size+1) [.int .i64 0]] _ from HH.out.pick [1,0] (by decide) rfl rfl)
   obtain⟨tb,htb⟩: ∃b,b=w.heap.size:=⟨_,rfl⟩
   obtain⟨eb,heb⟩: ∃b,b=w.heap.size+1:=⟨_,rfl⟩
   rw [←heb,←htb]at HH ⊢
   clear htb heb HNa
   go_upto_region 4 with fail
   cases os with
   | nil=>
     obtain rfl:n=0:=Hn.out
     go_wp2_with fail
     refine(yB _ 21).mono ?_
     rintro e wN ⟨rfl,rfl⟩
     refine xX 21 HH.out rfl rfl ?_
     intro w9 e9
     exact HOb.out rfl _ e9
   | cons x os=>
     have h0:(0:Int) < (n:Int):=by have:=Hn.out;rw [List.length_cons]at this;omega
     have hgt:decide ((0:Int) < (n:Int))=true:=by simpa using h0
     obtain⟨b1,o1,rfl,hb1,f0,f1,f2⟩:=aaJ HA.out.rd (k:=0) (by simp)
     have HXk:=hiD (HD.out x (List.mem_cons_self ..))
     have HXa:=hiD (HA.out.all x (List.mem_cons_self ..))
     have HF:=hiD (fun W (hW:Ext w W)=>show W.cell? ⟨b1,o1,none⟩=some (.string x.key)∧W.cell? ⟨b1,o1+1,none⟩=some x.data.val∧W.cell? ⟨b1,o1+2,none⟩=some x.locs.val from
      ⟨(Below.cell (p:=⟨b1,o1,none⟩) hW hb1).trans (by simpa using f0),(Below.cell (p:=⟨b1,o1+1,none⟩) hW hb1).trans (by simpa using f1),(Below.cell (p:=⟨b1,o1+2,none⟩) hW hb1).trans (by simpa using f2)⟩)
     clear f0 f1 f2
     have HV:=hiD (show abR name ((x::os).map okd)=if x.key=pT name then(abC name x.data.xs).bind fun t=>(aaD name t (os.map okd)).bind fun t=>if zH t=true then some t else none else none from rfl)
     generalize abR name ((x::os).map okd)=V at *
     have h00:0 < n:=by omega
     have hns:name.size≤1048576:=HNm.out
     have HHd:=hiD (fun W i9 (hW:Ext w W) (H:Heap w i9 W)=>an9 H name x.key x.data.A x.data.n x.data.c x.data.xs x.locs.A x.locs.n x.locs.c HXa.out.data.len HXa.out.data.le HXa.out.data.cap (Rd.at HXa.out.data.rdb hW (Nat.le_refl _)) HXk.out.1)
     obtain⟨key,⟨dA,dn,dc,dx⟩,⟨lA,ln,lc,lx⟩⟩:=x
     simp only [Sl.val]at HF
     dsimp only at HV HHd
     obtain⟨c0,c1,c2⟩:=HF.out _ HH.out.ext
     by_cases hk:key=pT name
     ·have hd:(key.toList == (({ data:= #[116,47] }:ByteArray)++name).toList)=true:=by rw [hk];exact zM _
      have hV:=HV.out
      rw [if_pos hk]at hV
      replace HV:=hiD hV
      clear hV hk
      go_wp2_with fail
      refine(yX _ 21).mono ?_
      rintro e wN ⟨rfl,rfl⟩
      clear hd
      go_wp2_with fail
      refine(HHd.out _ _ HH.out.ext HH.out).mono ?_
      intro e w3 h3
      clear c0 c1 c2 HHd
      cases hr:abC name dx with
      | none=>
        rw [hr]at h3
        obtain⟨rfl,h3⟩:=h3
        have hV:=HV.out
        rw [hr,Option.bind_none]at hV
        refine xX 21 h3 rfl rfl ?_
        intro w9 e9
        exact HOb.out hV _ e9
      | some px=>
        rw [hr]at h3
        obtain⟨t0,S0,L0,rfl,hI,h3⟩:=h3
        rw [hr,Option.bind_some]at HV
        have hpn:=aiA hr
        rw [hI.eq]at HV
        have e1:=hI.name
        have e2:=hI.quota
        have e3:=hI.next
        have e4:=hI.sets
        have e5:=hI.stages
        obtain⟨nm0,qu,nx,ss0,gr,sg0,lg⟩:=t0
        dsimp only at e1 e2 e3 e4 e5 HV
        subst e4 e5
        rw [←e1,←e2,←e3]at HV
        obtain rfl:nm0=name:=e1.trans hpn
        have HI:=hiD (show InL L0 Gra.cells gr∧InL L0 Lin.cells lg∧(∀y∈gr.xs,Gra.sm y)∧(∀y∈lg.xs,Lin.sm y)∧(Lit.int .i64 qu).wf=true∧(Lit.int .i64 nx).wf=true from⟨hI.grantsL,hI.logL,hI.grantsF,hI.logF,hI.quotaF,hI.nextF⟩)
        replace HH:=hiD h3
        clear hr h3 hI e1 e2 e3 hpn
        obtain⟨grA,grn,grc,grs⟩:=gr
        obtain⟨lgA,lgn,lgc,lgs⟩:=lg
        simp only [Tnt.cells,Sl.val,slB]
        dsimp only at HV
        obtain⟨i0,hi0,hz0,hz1,hz2⟩:=info_parts anp
        obtain⟨i1,hi1,hx0,hx1,hx2⟩:=info_parts anQ
        obtain⟨i2,hi2,hy0,hy1,hy2⟩:=info_parts aco
        go_upto_region 6 with(refine sSX HH zt 1 ?_;clear HH;intro wS HH)
        have HH2:=hiD ((HH.out.row0 (e:=49) (size:=21)).row0 (e:=52) (size:=5))
        replace HH:=hiD (show Heap w [It.bag S0 L0,.row 52 5 (.slice none 0 0) 0 [],.row 49 21 (.slice none 0 0) 0 [],.box tb [.string nm0,.int .i64 qu,.int .i64 nx,.slice none 0 0,.slice grA grn grc,.slice none 0 0,.slice lgA lgn lgc],.box eb [.int .i64 0]] _ from HH2.out.pick [2,0,1,3,4] (by decide) rfl rfl)
        clear HH2
        have hcN:=HA.out.le
        have hcM:=HA.out.cap
        dsimp only at hcN hcM
        have hsl: ∀W,(Instr.slice 33 (.slice (some ⟨b1,o1,none⟩) n c) (some (.int .i64 1)) none none).run Tryz.prog W= .ok (.slice (zy (some ⟨b1,o1,none⟩) c 1 3) (n - 1) (c - 1)) W:=fun W=>yC W 33 56 i2 3 Tryz.underlying33 hi2 hy1 (some ⟨b1,o1,none⟩) n c 1 _ rfl (by omega)
        have HR1:=hiD (show Rd w 0 w.heap.size (zy (some ⟨b1,o1,none⟩) c 1 3) (os.flatMap Ob.cells)from by
         have hl:((⟨key,⟨dA,dn,dc,dx⟩,⟨lA,ln,lc,lx⟩⟩::os:List Ob).flatMap Ob.cells).length=n * 3:=by rw [aan (size:=3) (fun _=>rfl),←Hn.out]
         have:=HA.out.rd.from_ hl (k:=1) (by omega) hcN
         rw [List.flatMap_cons]at this
         exact this)
        have hn1:=Hn.out
        rw [List.length_cons]at hn1
        obtain⟨m,rfl⟩: ∃m,n=m+1:=⟨n - 1,by omega⟩
        rw [Nat.add_sub_cancel]at hsl
        generalize zy (some ⟨b1,o1,none⟩) c 1 3=A1 at *
        have Hm:=hiD (show m=os.length by omega)
        have hmm:m≤1048576:=by omega
        replace HD:=hiD (fun x hx=>HD.out x (List.mem_cons_of_mem _ hx))
        have HAl:=hiD (fun x hx=>HA.out.all x (List.mem_cons_of_mem _ hx))
        clear hn1 HXk HXa HF hgt h0 h00 Hn HA hb1
        go_wp2_with fail
        go_loopw [38] (fun i wr=> ∃(k:Nat) (ss:List Dst) (gs:List Stg),k≤m∧i= .int .i64 (k:Int)∧ss.length+gs.length≤k∧ ∃S L sA sc gA gc,Hid (∀q∈L0,q∈L)∧Hid ((∀y∈ss,DstIn L y∧y.fit)∧ ∀y∈gs,StgIn L y∧y.fit)∧Hid (V=(aaD nm0 ⟨nm0,qu,nx,slB (ss.map Dst.bare),slB grs,slB (gs.map Stg.bare),slB lgs⟩ ((os.map okd).drop k)).bind fun t=>if zH t=true then some t else none)∧
         Hid (Heap w [It.bag S L,.row 52 5 (.slice sA ss.length sc) ss.length (ss.flatMap Dst.cells),.row 49 21 (.slice gA gs.length gc) gs.length (gs.flatMap Stg.cells),.box tb [.string nm0,.int .i64 qu,.int .i64 nx,.slice sA ss.length sc,.slice grA grn grc,.slice gA gs.length gc,.slice lgA lgn lgc],.box eb [.int .i64 0]] wr)) (fun i _=>m - (intOf i).toNat)
        case atStart=>exact⟨0, [], [],Nat.zero_le _,rfl,Nat.le_refl _,S0,L0,none,0,none,0,hiD (fun q h=>h),hiD ⟨(fun y h=>by cases h),(fun y h=>by cases h)⟩,HV,HH⟩
        case round=>
         clear HH HV
         obtain⟨k,ss,gs,hk,rfl,hkn,S,L,sA,sc,gA,gc,HL,HF,HV,HH⟩:=hrel
         by_cases hlt:k < m
         ·have hkk:(k:Int) < (m:Int):=by omega
          have l1:k < os.length:=by rw [←Hm.out];exact hlt
          obtain⟨b2,o2,rfl,hb2,f0,f1,f2⟩:=aaJ HR1.out l1
          have HXk:=hiD (HD.out _ (List.getElem_mem l1))
          have HXa:=hiD (HAl.out _ (List.getElem_mem l1))
          have hV:=HV.out
          rw [List.drop_eq_getElem_cons (by rw [List.length_map];exact l1),aaD,List.getElem_map,Option.bind_assoc]at hV
          generalize os[k]=x at *
          obtain⟨key2,⟨dA2,dn2,dc2,dx2⟩,⟨lA2,ln2,lc2,lx2⟩⟩:=x
          simp only [Sl.val,okd,aft]at f1 f2 hV
          have hks:key2.size≤1048576:=HXk.out.2
          have HCs:=hiD (fun W=>agJ W key2 (pS nm0) (by omega) (by have:(pS nm0).size=2+nm0.size+1:=(by simp only [pS,ByteArray.size_append];rfl);omega))
          have HCg:=hiD (fun W=>agJ W key2 (pG nm0) (by omega) (by have:(pG nm0).size=2+nm0.size+1:=(by simp only [pG,ByteArray.size_append];rfl);omega))
          have HPz:=hiD (show∀p,sml (xO key2 p).1 from fun p=>by
           show(xO key2 p).1.size≤1048576
           unfold xO
           split
           ·show(key2.extract _ _).size≤_
            rw [ByteArray.size_extract];omega
           ·exact hks)
          replace HV:=hiD hV
          clear hV
          have e0:wr.cell? ⟨b2,o2+k * 3,none⟩=some (.string key2):=(Below.cell (p:=⟨b2,o2+k * 3,none⟩) HH.out.ext hb2).trans f0
          have e1:wr.cell? ⟨b2,o2+k * 3+1,none⟩=some (.slice dA2 dn2 dc2):=(Below.cell (p:=⟨b2,o2+k * 3+1,none⟩) HH.out.ext hb2).trans f1
          have e2:wr.cell? ⟨b2,o2+k * 3+2,none⟩=some (.slice lA2 ln2 lc2):=(Below.cell (p:=⟨b2,o2+k * 3+2,none⟩) HH.out.ext hb2).trans f2
          have HSt:=hiD (fun W i9 path (hp:sml path) (hW:Ext w W) (H:Heap w i9 W)=>aoq H path hp key2 dA2 dn2 dc2 dx2 lA2 ln2 lc2 HXa.out.data.len HXa.out.data.le HXa.out.data.cap (Rd.at HXa.out.data.rdb hW (Nat.le_refl _)) HXk.out.1)
          have HGt:=hiD (fun W i9 path (hp:sml path) (hW:Ext w W) (H:Heap w i9 W)=>amN H path hp key2 dA2 dn2 dc2 dx2 lA2 ln2 lc2 HXa.out.data.len HXa.out.data.le HXa.out.data.cap (Rd.at HXa.out.data.rdb hW (Nat.le_refl _)) HXk.out.1)
          go_upto_region 9 with(refine sSX (hiD (HH.out.alloc _ _)) yr 0 ?_;clear HH;intro wS HH)
          obtain⟨xb,hxb⟩: ∃b,b=wr.heap.size:=⟨_,rfl⟩
          rw [←hxb]at HH ⊢
          clear hxb e0 e1 e2 f0 f1 f2 hsl
          go_wp2_with (refine l1X HH 0 ?_)
          refine(HCs.out _).mono ?_
          rintro e wN ⟨rfl,rfl⟩
          go_wp2_with (refine l1X HH 0 ?_)
          refine(HCg.out _).mono ?_
          rintro e wN ⟨rfl,rfl⟩
          have HP1:=hiD (HPz.out (pS nm0))
          have HP2:=hiD (HPz.out (pG nm0))
          clear HCs HCg HPz
          go_simp
          obtain⟨c1,hc1⟩: ∃c1,c1=xO key2 (pS nm0):=⟨_,rfl⟩
          obtain⟨c2,hc2⟩: ∃c2,c2=xO key2 (pG nm0):=⟨_,rfl⟩
          rw [←hc1]at HV HP1 ⊢
          rw [←hc2]at HV HP2 ⊢
          clear hc1 hc2
          obtain⟨sp,sb⟩:=c1
          obtain⟨gp,gb⟩:=c2
          dsimp only at HV HP1 HP2 ⊢
          have q5:=(HH.out.boxAt 4 rfl).cell 5 _ rfl
          by_cases hc:sb=true∧gs.length=0
          ·obtain⟨rfl,hg0⟩:=hc
           have hd:((gs.length:Int) == 0)=true:=by rw [hg0];rfl
           have hV:=HV.out
           rw [afR,show(true && (slB (gs.map Stg.bare)).xs.isEmpty)=true by simp [slB,List.length_eq_zero_iff.1 hg0]]at hV
           replace HV:=hiD (show V=((adi sp dx2).bind _).bind _ from hV)
           clear hV hg0
           go_upto_region 13 with fail
           clear q5
           cases hr:adi sp dx2 with
           | none=>
             rw [hr,Option.bind_none,Option.bind_none]at HV
             refine ac1 (t4:= .pointer (some ⟨tb,0,none⟩)) (t5:= .pointer (some ⟨eb,0,none⟩)) (ds:=ad6 tb eb) (PP:=fun c W=>c= [{ v:=aae 21,recovered:=false }]∧V=none∧Heap w [.box tb [.string nm0,.int .i64 qu,.int .i64 nx,.slice sA ss.length sc,.slice grA grn grc,.slice gA gs.length gc,.slice lgA lgn lgc],.box eb [.int .i64 0]] W) ?_ ?_
             { rintro c a w9 h4 h5 hd ⟨rfl,hv,H9⟩
               show Leaves _ _ a.tmps _ a.defers _ _
               rw [hd]
               exact xX 21 H9 h4 h5 (fun w9 e9=>HOb.out hv _ e9) }
             replace HH:=hiD HH.out.drew
             refine qe (fun z=>Nat.blt z 7) (S:=Heap w [.box tb [.string nm0,.int .i64 qu,.int .i64 nx,.slice sA ss.length sc,.slice grA grn grc,.slice gA gs.length gc,.slice lgA lgn lgc],.box xb [.string key2,.slice dA2 dn2 dc2,.slice lA2 ln2 lc2]]) (by kernel_rfl) (HH.out.pair 4 0 rfl rfl rfl) (fun hHeld=>?_)
             generalize World.drew _=wd at *
             refine tMF 0 1 ?_
             refine aaA 1 rfl (by kernel_rfl) (by kernel_rfl) (by kernel_rfl) (by kernel_rfl) (fun _ _ _ h=>xr h (by decide) (by decide)) (by kernel_rfl) (fun wT hST=>zk hST rfl rfl 0 rfl rfl (by kernel_rfl)) hHeld ?_
             refine lyX ?_
             refine tMF 2 1 ?_
             refine aaA 3 rfl (by kernel_rfl) (by kernel_rfl) (by kernel_rfl) (by kernel_rfl) (fun _ _ _ h=>xr h (by decide) (by decide)) (by kernel_rfl) (fun wT hST=>zj hST yr (by kernel_rfl) rfl rfl 1 rfl (Nat.le_of_ble_eq_true rfl)) hHeld ?_
             refine lyX ?_
             clear hHeld
             refine oMX 4 (fun K hK=>?_)
             go_simp
             refine(HSt.out _ _ sp HP1.out HH.out.ext HH.out).mono ?_
             intro e w7 h
             rw [hr]at h
             obtain⟨rfl,h⟩:=h
             exact⟨⟨rfl,rfl⟩,rfl,rfl,HV.out,h.pick [4,5] (by decide) rfl rfl⟩
           | some px=>
             rw [hr,Option.bind_some,Option.bind_some]at HV
             refine ac1 (t4:= .pointer (some ⟨tb,0,none⟩)) (t5:= .pointer (some ⟨eb,0,none⟩)) (ds:=ad6 tb eb) (PP:=fun c W=>c= [{ v:=aae 21,recovered:=false }]∧V=none∧Heap w [.box tb [.string nm0,.int .i64 qu,.int .i64 nx,.slice sA ss.length sc,.slice grA grn grc,.slice gA gs.length gc,.slice lgA lgn lgc],.box eb [.int .i64 0]] W) ?_ ?_
             { rintro c a w9 h4 h5 hd ⟨rfl,hv,H9⟩
               show Leaves _ _ a.tmps _ a.defers _ _
               rw [hd]
               exact xX 21 H9 h4 h5 (fun w9 e9=>HOb.out hv _ e9) }
             replace HH:=hiD HH.out.drew
             refine qe (fun z=>Nat.blt z 7) (S:=Heap w [.box tb [.string nm0,.int .i64 qu,.int .i64 nx,.slice sA ss.length sc,.slice grA grn grc,.slice gA gs.length gc,.slice lgA lgn lgc],.box xb [.string key2,.slice dA2 dn2 dc2,.slice lA2 ln2 lc2]]) (by kernel_rfl) (HH.out.pair 4 0 rfl rfl rfl) (fun hHeld=>?_)
             generalize World.drew _=wd at *
             refine tMF 0 1 ?_
             refine aaA 1 rfl (by kernel_rfl) (by kernel_rfl) (by kernel_rfl) (by kernel_rfl) (fun _ _ _ h=>xr h (by decide) (by decide)) (by kernel_rfl) (fun wT hST=>zk hST rfl rfl 0 rfl rfl (by kernel_rfl)) hHeld ?_
             refine lyX ?_
             refine tMF 2 1 ?_
             refine aaA 3 rfl (by kernel_rfl) (by kernel_rfl) (by kernel_rfl) (by kernel_rfl) (fun _ _ _ h=>xr h (by decide) (by decide)) (by kernel_rfl) (fun wT hST=>zj hST yr (by kernel_rfl) rfl rfl 1 rfl (Nat.le_of_ble_eq_true rfl)) hHeld ?_
             refine lyX ?_
             clear hHeld
             refine oMX 4 (fun K hK=>?_)
             go_simp
             refine(HSt.out _ _ sp HP1.out HH.out.ext HH.out).mono ?_
             intro e w7 h
             rw [hr]at h
             obtain⟨x,S2,L2,rfl,rfl,hin,hf,h⟩:=h
             replace HH:=hiD (show Heap w (It.bag S2 L2::It.bag S L:: [.box xb [.string key2,.slice dA2 dn2 dc2,.slice lA2 ln2 lc2],.row 52 5 (.slice sA ss.length sc) ss.length (ss.flatMap Dst.cells),.row 49 21 (.slice gA gs.length gc) gs.length (gs.flatMap Stg.cells),.box tb [.string nm0,.int .i64 qu,.int .i64 nx,.slice sA ss.length sc,.slice grA grn grc,.slice gA gs.length gc,.slice lgA lgn lgc],.box eb [.int .i64 0]]) _ from h.pick [0,2,1,3,4,5,6] (by decide) rfl rfl).bagJoin
             have HX:=hiD (show∀y∈ss++ [x],DstIn (L2++L) y∧y.fit from fun y hy=>by
              rcases List.mem_append.1 hy with hy | hy
              ·exact⟨(HF.out.1 y hy).1.sub (fun q hq=>List.mem_append_right _ hq),(HF.out.1 y hy).2⟩
              ·obtain rfl:=List.mem_singleton.1 hy
               exact⟨hin.sub (fun q hq=>List.mem_append_left _ hq),hf⟩)
             have HC:=hiD (show(ss++ [x]).flatMap Dst.cells=ss.flatMap Dst.cells++x.cells by simp)
             have HLn:=hiD (show(ss++ [x]).length=ss.length+1 by simp)
             have HMp:=hiD (show ss.map Dst.bare++ [x.bare]=(ss++ [x]).map Dst.bare by simp)
             dsimp only [slB]at HV
             rw [HMp.out]at HV
             have hsz:ss.length+gs.length≤1048576:=by omega
             generalize ss++ [x]=ys at *
             clear h hin hf HMp hr
             obtain⟨xp,xo,⟨xbA,xbn,xbc,xbs⟩,⟨xsA,xsn,xsc,xss⟩,⟨xoA,xon,xoc,xos⟩⟩:=x
             simp only [Dst.cells,Sl.val]at HC ⊢
             go_wp2_with fail
             refine hK.out _ _ (HH.out.pair 4 1 rfl rfl rfl) (fun hHeld=>?_)
             clear hK K hHeld
             refine lyX ?_
             refine oMX 5 (fun K hK=>?_)
             go_simp
             generalize hwA:World.alloc _ _=w8
             replace HH:=hiD (HH.out.allocE hwA)
             clear hwA
             refine hK.out _ _ (HH.out.pair 5 2 rfl rfl rfl) (fun hHeld=>?_)
             clear hK K hHeld
             refine lyX ?_
             refine fMX 6 (fun K hK=>?_)
             refine zO (.tmp 70) (.tmp 74) _ rfl Tryz.underlying22 hi0 hz0 hz1 hz2 rfl (by omega) HH.out 3 rfl rfl (m:=1) rfl rfl (HH.out.boxRd 0 rfl).m0 (by simp [Value.oneCell']) (by simp only [maxLen];omega) (by omega) ?_
             rintro v8 w9 hh8 ⟨A8,c8,rfl⟩
             replace HH:=hiD hh8.tail
             clear hh8
             refine hK.out _ _ ?_;clear hK K;refine lyX ?_
             refine yL 7 (v:=?_) rfl (by kernel_rfl) (by kernel_rfl) (by kernel_rfl) (by kernel_rfl) (fun _ _ _ h=>xr h (by decide) (by decide)) (by kernel_rfl) ?_ (fun h=>absurd h (aal (by kernel_rfl))) ?_;rotate_left;(focus(intro w;go_simp <;> with_reducible rfl));refine lyX ?_
             refine fMX 8 (fun K hK=>?_)
             refine z8 HH.out rfl rfl rfl 4 rfl (Nat.le_of_ble_eq_true rfl) rfl (by kernel_rfl) ?_
             intro w10 hh9
             refine hK.out _ _ ?_;clear hK K;refine lyX ?_
             refine xD (by kernel_rfl) ?_
             simp only [onF]
             replace HH:=hiD (hh9.pick [0,2,3,4,5] (by decide) rfl rfl)
             clear hh9
             go_wp2_with fail
             go_roundw
             case rel=>exact⟨k+1,ys,gs,by omega,by go_num,by rw [HLn.out];omega,_,L2++L,A8,c8,gA,gc,hiD (fun q hq=>List.mem_append_right _ (HL.out q hq)),hiD ⟨HX.out,fun y hy=>⟨(HF.out.2 y hy).1.sub (fun q hq=>List.mem_append_right _ hq),(HF.out.2 y hy).2⟩⟩,HV,hiD (by rw [HLn.out,HC.out];exact HH.out)⟩
             case measure=>simp [intOf];omega
          ·have hV:=HV.out
           rw [afR,show(sb && (slB (gs.map Stg.bare)).xs.isEmpty)=false by
            cases sb with
            | false=>rfl
            | true=>
              have: ¬gs= []:=fun h=>hc ⟨rfl,by rw [h];rfl⟩
              simp [slB,this]]at hV
           have hd:sb=true→((gs.length:Int) == 0)=false:=fun h=>by
            have:gs.length≠0:=fun q=>hc ⟨h,q⟩
            simp;intro q;rw [q]at this;exact this rfl
           clear hc
           cases gb with
           | false=>
             have hV2:V=none:=hV
             cases sb with
             | false=>
               go_wp2_with fail
               refine xX 21 (HH.out.pick [4,5] (by decide) rfl rfl) rfl rfl ?_
               intro w9 e9
               exact HOb.out hV2 _ e9
             | true=>
               have hd2:=hd rfl
               go_wp2_with fail
               refine xX 21 (HH.out.pick [4,5] (by decide) rfl rfl) rfl rfl ?_
               intro w9 e9
               exact HOb.out hV2 _ e9
           | true=>
             replace HV:=hiD (show V=((aaS gp dx2).bind _).bind _ from hV)
             clear hV
             cases sb with
             | false=>
               clear hd
               go_upto_region 15 with fail
               clear q5
               cases hr:aaS gp dx2 with
               | none=>
                 rw [hr,Option.bind_none,Option.bind_none]at HV
                 refine ac1 (t4:= .pointer (some ⟨tb,0,none⟩)) (t5:= .pointer (some ⟨eb,0,none⟩)) (ds:=ad6 tb eb) (PP:=fun c W=>c= [{ v:=aae 21,recovered:=false }]∧V=none∧Heap w [.box tb [.string nm0,.int .i64 qu,.int .i64 nx,.slice sA ss.length sc,.slice grA grn grc,.slice gA gs.length gc,.slice lgA lgn lgc],.box eb [.int .i64 0]] W) ?_ ?_
                 { rintro c a w9 h4 h5 hd ⟨rfl,hv,H9⟩
                   show Leaves _ _ a.tmps _ a.defers _ _
                   rw [hd]
                   exact xX 21 H9 h4 h5 (fun w9 e9=>HOb.out hv _ e9) }
                 replace HH:=hiD HH.out.drew
                 refine qe (fun z=>Nat.blt z 7) (S:=Heap w [.box tb [.string nm0,.int .i64 qu,.int .i64 nx,.slice sA ss.length sc,.slice grA grn grc,.slice gA gs.length gc,.slice lgA lgn lgc],.box xb [.string key2,.slice dA2 dn2 dc2,.slice lA2 ln2 lc2]]) (by kernel_rfl) (HH.out.pair 4 0 rfl rfl rfl) (fun hHeld=>?_)
                 generalize World.drew _=wd at *
                 refine tMF 0 1 ?_
                 refine aaA 1 rfl (by kernel_rfl) (by kernel_rfl) (by kernel_rfl) (by kernel_rfl) (fun _ _ _ h=>xr h (by decide) (by decide)) (by kernel_rfl) (fun wT hST=>zk hST rfl rfl 0 rfl rfl (by kernel_rfl)) hHeld ?_
                 refine lyX ?_
                 refine tMF 2 1 ?_
                 refine aaA 3 rfl (by kernel_rfl) (by kernel_rfl) (by kernel_rfl) (by kernel_rfl) (fun _ _ _ h=>xr h (by decide) (by decide)) (by kernel_rfl) (fun wT hST=>zj hST yr (by kernel_rfl) rfl rfl 1 rfl (Nat.le_of_ble_eq_true rfl)) hHeld ?_
                 refine lyX ?_
                 clear hHeld
                 refine oMX 4 (fun K hK=>?_)
                 go_simp
                 refine(HGt.out _ _ gp HP2.out HH.out.ext HH.out).mono ?_
                 intro e w7 h
                 rw [hr]at h
                 obtain⟨rfl,h⟩:=h
                 exact⟨⟨rfl,rfl⟩,rfl,rfl,HV.out,h.pick [4,5] (by decide) rfl rfl⟩
               | some px=>
                 rw [hr,Option.bind_some,Option.bind_some]at HV
                 refine ac1 (t4:= .pointer (some ⟨tb,0,none⟩)) (t5:= .pointer (some ⟨eb,0,none⟩)) (ds:=ad6 tb eb) (PP:=fun c W=>c= [{ v:=aae 21,recovered:=false }]∧V=none∧Heap w [.box tb [.string nm0,.int .i64 qu,.int .i64 nx,.slice sA ss.length sc,.slice grA grn grc,.slice gA gs.length gc,.slice lgA lgn lgc],.box eb [.int .i64 0]] W) ?_ ?_
                 { rintro c a w9 h4 h5 hd ⟨rfl,hv,H9⟩
                   show Leaves _ _ a.tmps _ a.defers _ _
                   rw [hd]
                   exact xX 21 H9 h4 h5 (fun w9 e9=>HOb.out hv _ e9) }
                 replace HH:=hiD HH.out.drew
                 refine qe (fun z=>Nat.blt z 7) (S:=Heap w [.box tb [.string nm0,.int .i64 qu,.int .i64 nx,.slice sA ss.length sc,.slice grA grn grc,.slice gA gs.length gc,.slice lgA lgn lgc],.box xb [.string key2,.slice dA2 dn2 dc2,.slice lA2 ln2 lc2]]) (by kernel_rfl) (HH.out.pair 4 0 rfl rfl rfl) (fun hHeld=>?_)
                 generalize World.drew _=wd at *
                 refine tMF 0 1 ?_
                 refine aaA 1 rfl (by kernel_rfl) (by kernel_rfl) (by kernel_rfl) (by kernel_rfl) (fun _ _ _ h=>xr h (by decide) (by decide)) (by kernel_rfl) (fun wT hST=>zk hST rfl rfl 0 rfl rfl (by kernel_rfl)) hHeld ?_
                 refine lyX ?_
                 refine tMF 2 1 ?_
                 refine aaA 3 rfl (by kernel_rfl) (by kernel_rfl) (by kernel_rfl) (by kernel_rfl) (fun _ _ _ h=>xr h (by decide) (by decide)) (by kernel_rfl) (fun wT hST=>zj hST yr (by kernel_rfl) rfl rfl 1 rfl (Nat.le_of_ble_eq_true rfl)) hHeld ?_
                 refine lyX ?_
                 clear hHeld
                 refine oMX 4 (fun K hK=>?_)
                 go_simp
                 refine(HGt.out _ _ gp HP2.out HH.out.ext HH.out).mono ?_
                 intro e w7 h
                 rw [hr]at h
                 obtain⟨x,S2,L2,rfl,rfl,hin,hf,h⟩:=h
                 replace HH:=hiD (show Heap w (It.bag S2 L2::It.bag S L:: [.box xb [.string key2,.slice dA2 dn2 dc2,.slice lA2 ln2 lc2],.row 52 5 (.slice sA ss.length sc) ss.length (ss.flatMap Dst.cells),.row 49 21 (.slice gA gs.length gc) gs.length (gs.flatMap Stg.cells),.box tb [.string nm0,.int .i64 qu,.int .i64 nx,.slice sA ss.length sc,.slice grA grn grc,.slice gA gs.length gc,.slice lgA lgn lgc],.box eb [.int .i64 0]]) _ from h.pick [0,2,1,3,4,5,6] (by decide) rfl rfl).bagJoin
                 have HX:=hiD (show∀y∈gs++ [x],StgIn (L2++L) y∧y.fit from fun y hy=>by
                  rcases List.mem_append.1 hy with hy | hy
                  ·exact⟨(HF.out.2 y hy).1.sub (fun q hq=>List.mem_append_right _ hq),(HF.out.2 y hy).2⟩
                  ·obtain rfl:=List.mem_singleton.1 hy
                   exact⟨hin.sub (fun q hq=>List.mem_append_left _ hq),hf⟩)
                 have HC:=hiD (show(gs++ [x]).flatMap Stg.cells=gs.flatMap Stg.cells++x.cells by simp)
                 have HLn:=hiD (show(gs++ [x]).length=gs.length+1 by simp)
                 have HMp:=hiD (show gs.map Stg.bare++ [x.bare]=(gs++ [x]).map Stg.bare by simp)
                 dsimp only [slB]at HV
                 rw [HMp.out]at HV
                 have hsz:ss.length+gs.length≤1048576:=by omega
                 generalize gs++ [x]=ys at *
                 clear h hin hf HMp hr
                 obtain⟨into,⟨rk,rn,rf,rg,rA,rm,rc,rw_,ri,ro,rd9,r0,r1,r2,r3⟩,bA,bn,bc,bd,po,nx9,⟨u0,u1,u2,u3⟩,dn⟩:=x
                 simp only [Stg.cells,Rec.cells,Su.cells,List.cons_append,List.nil_append]at HC ⊢
                 go_wp2_with fail
                 refine hK.out _ _ (HH.out.pair 4 1 rfl rfl rfl) (fun hHeld=>?_)
                 clear hK K hHeld
                 refine lyX ?_
                 refine oMX 5 (fun K hK=>?_)
                 go_simp
                 generalize hwA:World.alloc _ _=w8
                 replace HH:=hiD (HH.out.allocE hwA)
                 clear hwA
                 refine hK.out _ _ (HH.out.pair 5 2 rfl rfl rfl) (fun hHeld=>?_)
                 clear hK K hHeld
                 refine lyX ?_
                 refine fMX 6 (fun K hK=>?_)
                 refine zO (.tmp 80) (.tmp 84) _ rfl Tryz.underlying24 hi1 hx0 hx1 hx2 rfl (by omega) HH.out 4 rfl rfl (m:=1) rfl rfl (HH.out.boxRd 0 rfl).m0 (by simp [Value.oneCell']) (by simp only [maxLen];omega) (by omega) ?_
                 rintro v8 w9 hh8 ⟨A8,c8,rfl⟩
                 replace HH:=hiD hh8.tail
                 clear hh8
                 refine hK.out _ _ ?_;clear hK K;refine lyX ?_
                 refine yL 7 (v:=?_) rfl (by kernel_rfl) (by kernel_rfl) (by kernel_rfl) (by kernel_rfl) (fun _ _ _ h=>xr h (by decide) (by decide)) (by kernel_rfl) ?_ (fun h=>absurd h (aal (by kernel_rfl))) ?_;rotate_left;(focus(intro w;go_simp <;> with_reducible rfl));refine lyX ?_
                 refine fMX 8 (fun K hK=>?_)
                 refine z8 HH.out rfl rfl rfl 4 rfl (Nat.le_of_ble_eq_true rfl) rfl (by kernel_rfl) ?_
                 intro w10 hh9
                 refine hK.out _ _ ?_;clear hK K;refine lyX ?_
                 refine xD (by kernel_rfl) ?_
                 simp only [onF]
                 replace HH:=hiD (hh9.pick [0,2,3,4,5] (by decide) rfl rfl)
                 clear hh9
                 go_wp2_with fail
                 go_roundw
                 case rel=>exact⟨k+1,ss,ys,by omega,by go_num,by rw [HLn.out];omega,_,L2++L,sA,sc,A8,c8,hiD (fun q hq=>List.mem_append_right _ (HL.out q hq)),hiD ⟨fun y hy=>⟨(HF.out.1 y hy).1.sub (fun q hq=>List.mem_append_right _ hq),(HF.out.1 y hy).2⟩,HX.out⟩,HV,hiD (by rw [HLn.out,HC.out];exact HH.out)⟩
                 case measure=>simp [intOf];omega
             | true=>
               have hd2:=hd rfl
               clear hd
               go_upto_region 15 with fail
               clear q5
               cases hr:aaS gp dx2 with
               | none=>
                 rw [hr,Option.bind_none,Option.bind_none]at HV
                 refine ac1 (t4:= .pointer (some ⟨tb,0,none⟩)) (t5:= .pointer (some ⟨eb,0,none⟩)) (ds:=ad6 tb eb) (PP:=fun c W=>c= [{ v:=aae 21,recovered:=false }]∧V=none∧Heap w [.box tb [.string nm0,.int .i64 qu,.int .i64 nx,.slice sA ss.length sc,.slice grA grn grc,.slice gA gs.length gc,.slice lgA lgn lgc],.box eb [.int .i64 0]] W) ?_ ?_
                 { rintro c a w9 h4 h5 hd ⟨rfl,hv,H9⟩
                   show Leaves _ _ a.tmps _ a.defers _ _
                   rw [hd]
                   exact xX 21 H9 h4 h5 (fun w9 e9=>HOb.out hv _ e9) }
                 replace HH:=hiD HH.out.drew
                 refine qe (fun z=>Nat.blt z 7) (S:=Heap w [.box tb [.string nm0,.int .i64 qu,.int .i64 nx,.slice sA ss.length sc,.slice grA grn grc,.slice gA gs.length gc,.slice lgA lgn lgc],.box xb [.string key2,.slice dA2 dn2 dc2,.slice lA2 ln2 lc2]]) (by kernel_rfl) (HH.out.pair 4 0 rfl rfl rfl) (fun hHeld=>?_)
                 generalize World.drew _=wd at *
                 refine tMF 0 1 ?_
                 refine aaA 1 rfl (by kernel_rfl) (by kernel_rfl) (by kernel_rfl) (by kernel_rfl) (fun _ _ _ h=>xr h (by decide) (by decide)) (by kernel_rfl) (fun wT hST=>zk hST rfl rfl 0 rfl rfl (by kernel_rfl)) hHeld ?_
                 refine lyX ?_
                 refine tMF 2 1 ?_
                 refine aaA 3 rfl (by kernel_rfl) (by kernel_rfl) (by kernel_rfl) (by kernel_rfl) (fun _ _ _ h=>xr h (by decide) (by decide)) (by kernel_rfl) (fun wT hST=>zj hST yr (by kernel_rfl) rfl rfl 1 rfl (Nat.le_of_ble_eq_true rfl)) hHeld ?_
                 refine lyX ?_
                 clear hHeld
                 refine oMX 4 (fun K hK=>?_)
                 go_simp
                 refine(HGt.out _ _ gp HP2.out HH.out.ext HH.out).mono ?_
                 intro e w7 h
                 rw [hr]at h
                 obtain⟨rfl,h⟩:=h
                 exact⟨⟨rfl,rfl⟩,rfl,rfl,HV.out,h.pick [4,5] (by decide) rfl rfl⟩
               | some px=>
                 rw [hr,Option.bind_some,Option.bind_some]at HV
                 refine ac1 (t4:= .pointer (some ⟨tb,0,none⟩)) (t5:= .pointer (some ⟨eb,0,none⟩)) (ds:=ad6 tb eb) (PP:=fun c W=>c= [{ v:=aae 21,recovered:=false }]∧V=none∧Heap w [.box tb [.string nm0,.int .i64 qu,.int .i64 nx,.slice sA ss.length sc,.slice grA grn grc,.slice gA gs.length gc,.slice lgA lgn lgc],.box eb [.int .i64 0]] W) ?_ ?_
                 { rintro c a w9 h4 h5 hd ⟨rfl,hv,H9⟩
                   show Leaves _ _ a.tmps _ a.defers _ _
                   rw [hd]
                   exact xX 21 H9 h4 h5 (fun w9 e9=>HOb.out hv _ e9) }
                 replace HH:=hiD HH.out.drew
                 refine qe (fun z=>Nat.blt z 7) (S:=Heap w [.box tb [.string nm0,.int .i64 qu,.int .i64 nx,.slice sA ss.length sc,.slice grA grn grc,.slice gA gs.length gc,.slice lgA lgn lgc],.box xb [.string key2,.slice dA2 dn2 dc2,.slice lA2 ln2 lc2]]) (by kernel_rfl) (HH.out.pair 4 0 rfl rfl rfl) (fun hHeld=>?_)
                 generalize World.drew _=wd at *
                 refine tMF 0 1 ?_
                 refine aaA 1 rfl (by kernel_rfl) (by kernel_rfl) (by kernel_rfl) (by kernel_rfl) (fun _ _ _ h=>xr h (by decide) (by decide)) (by kernel_rfl) (fun wT hST=>zk hST rfl rfl 0 rfl rfl (by kernel_rfl)) hHeld ?_
                 refine lyX ?_
                 refine tMF 2 1 ?_
                 refine aaA 3 rfl (by kernel_rfl) (by kernel_rfl) (by kernel_rfl) (by kernel_rfl) (fun _ _ _ h=>xr h (by decide) (by decide)) (by kernel_rfl) (fun wT hST=>zj hST yr (by kernel_rfl) rfl rfl 1 rfl (Nat.le_of_ble_eq_true rfl)) hHeld ?_
                 refine lyX ?_
                 clear hHeld
                 refine oMX 4 (fun K hK=>?_)
                 go_simp
                 refine(HGt.out _ _ gp HP2.out HH.out.ext HH.out).mono ?_
                 intro e w7 h
                 rw [hr]at h
                 obtain⟨x,S2,L2,rfl,rfl,hin,hf,h⟩:=h
                 replace HH:=hiD (show Heap w (It.bag S2 L2::It.bag S L:: [.box xb [.string key2,.slice dA2 dn2 dc2,.slice lA2 ln2 lc2],.row 52 5 (.slice sA ss.length sc) ss.length (ss.flatMap Dst.cells),.row 49 21 (.slice gA gs.length gc) gs.length (gs.flatMap Stg.cells),.box tb [.string nm0,.int .i64 qu,.int .i64 nx,.slice sA ss.length sc,.slice grA grn grc,.slice gA gs.length gc,.slice lgA lgn lgc],.box eb [.int .i64 0]]) _ from h.pick [0,2,1,3,4,5,6] (by decide) rfl rfl).bagJoin
                 have HX:=hiD (show∀y∈gs++ [x],StgIn (L2++L) y∧y.fit from fun y hy=>by
                  rcases List.mem_append.1 hy with hy | hy
                  ·exact⟨(HF.out.2 y hy).1.sub (fun q hq=>List.mem_append_right _ hq),(HF.out.2 y hy).2⟩
                  ·obtain rfl:=List.mem_singleton.1 hy
                   exact⟨hin.sub (fun q hq=>List.mem_append_left _ hq),hf⟩)
                 have HC:=hiD (show(gs++ [x]).flatMap Stg.cells=gs.flatMap Stg.cells++x.cells by simp)
                 have HLn:=hiD (show(gs++ [x]).length=gs.length+1 by simp)
                 have HMp:=hiD (show gs.map Stg.bare++ [x.bare]=(gs++ [x]).map Stg.bare by simp)
                 dsimp only [slB]at HV
                 rw [HMp.out]at HV
                 have hsz:ss.length+gs.length≤1048576:=by omega
                 generalize gs++ [x]=ys at *
                 clear h hin hf HMp hr
                 obtain⟨into,⟨rk,rn,rf,rg,rA,rm,rc,rw_,ri,ro,rd9,r0,r1,r2,r3⟩,bA,bn,bc,bd,po,nx9,⟨u0,u1,u2,u3⟩,dn⟩:=x
                 simp only [Stg.cells,Rec.cells,Su.cells,List.cons_append,List.nil_append]at HC ⊢
                 go_wp2_with fail
                 refine hK.out _ _ (HH.out.pair 4 1 rfl rfl rfl) (fun hHeld=>?_)
                 clear hK K hHeld
                 refine lyX ?_
                 refine oMX 5 (fun K hK=>?_)
                 go_simp
                 generalize hwA:World.alloc _ _=w8
                 replace HH:=hiD (HH.out.allocE hwA)
                 clear hwA
                 refine hK.out _ _ (HH.out.pair 5 2 rfl rfl rfl) (fun hHeld=>?_)
                 clear hK K hHeld
                 refine lyX ?_
                 refine fMX 6 (fun K hK=>?_)
                 refine zO (.tmp 80) (.tmp 84) _ rfl Tryz.underlying24 hi1 hx0 hx1 hx2 rfl (by omega) HH.out 4 rfl rfl (m:=1) rfl rfl (HH.out.boxRd 0 rfl).m0 (by simp [Value.oneCell']) (by simp only [maxLen];omega) (by omega) ?_
                 rintro v8 w9 hh8 ⟨A8,c8,rfl⟩
                 replace HH:=hiD hh8.tail
                 clear hh8
                 refine hK.out _ _ ?_;clear hK K;refine lyX ?_
                 refine yL 7 (v:=?_) rfl (by kernel_rfl) (by kernel_rfl) (by kernel_rfl) (by kernel_rfl) (fun _ _ _ h=>xr h (by decide) (by decide)) (by kernel_rfl) ?_ (fun h=>absurd h (aal (by kernel_rfl))) ?_;rotate_left;(focus(intro w;go_simp <;> with_reducible rfl));refine lyX ?_
                 refine fMX 8 (fun K hK=>?_)
                 refine z8 HH.out rfl rfl rfl 4 rfl (Nat.le_of_ble_eq_true rfl) rfl (by kernel_rfl) ?_
                 intro w10 hh9
                 refine hK.out _ _ ?_;clear hK K;refine lyX ?_
                 refine xD (by kernel_rfl) ?_
                 simp only [onF]
                 replace HH:=hiD (hh9.pick [0,2,3,4,5] (by decide) rfl rfl)
                 clear hh9
                 go_wp2_with fail
                 go_roundw
                 case rel=>exact⟨k+1,ss,ys,by omega,by go_num,by rw [HLn.out];omega,_,L2++L,sA,sc,A8,c8,hiD (fun q hq=>List.mem_append_right _ (HL.out q hq)),hiD ⟨fun y hy=>⟨(HF.out.1 y hy).1.sub (fun q hq=>List.mem_append_right _ hq),(HF.out.1 y hy).2⟩,HX.out⟩,HV,hiD (by rw [HLn.out,HC.out];exact HH.out)⟩
                 case measure=>simp [intOf];omega
         ·obtain rfl:k=m:=by omega
          have hV:=HV.out
          rw [List.drop_of_length_le (by rw [List.length_map];exact Nat.le_of_eq Hm.out.symm),aaD,Option.bind_some]at hV
          replace HV:=hiD hV
          clear hV
          obtain⟨p1,p2⟩:=z7 (HH.out.rowAt 1 rfl)
          obtain⟨p3,p4⟩:=z7 (HH.out.rowAt 2 rfl)
          obtain⟨S1,h1⟩:=(show Heap w (.row 52 5 (.slice sA ss.length sc) ss.length (ss.flatMap Dst.cells):: [It.bag S L,.row 49 21 (.slice gA gs.length gc) gs.length (gs.flatMap Stg.cells),.box tb [.string nm0,.int .i64 qu,.int .i64 nx,.slice sA ss.length sc,.slice grA grn grc,.slice gA gs.length gc,.slice lgA lgn lgc],.box eb [.int .i64 0]]) wr from HH.out.pick [1,0,2,3,4] (by decide) rfl rfl).rowBag (j:=0) rfl
          obtain⟨S2,h2⟩:=(show Heap w (.row 49 21 (.slice gA gs.length gc) gs.length (gs.flatMap Stg.cells):: [It.bag S1 ((sA,ss.flatMap Dst.cells)::L),.box tb [.string nm0,.int .i64 qu,.int .i64 nx,.slice sA ss.length sc,.slice grA grn grc,.slice gA gs.length gc,.slice lgA lgn lgc],.box eb [.int .i64 0]]) wr from h1.pick [1,0,2,3] (by decide) rfl rfl).rowBag (j:=0) rfl
          replace HH:=hiD (show Heap w [It.bag S2 ((gA,gs.flatMap Stg.cells)::(sA,ss.flatMap Dst.cells)::L),.box tb [.string nm0,.int .i64 qu,.int .i64 nx,.slice sA ss.length sc,.slice grA grn grc,.slice gA gs.length gc,.slice lgA lgn lgc],.box eb [.int .i64 0]] wr from h2)
          obtain⟨t,ht⟩: ∃t:Tnt,t=⟨nm0,qu,nx,⟨sA,ss.length,sc,ss⟩,⟨grA,grn,grc,grs⟩,⟨gA,gs.length,gc,gs⟩,⟨lgA,lgn,lgc,lgs⟩⟩:=⟨_,rfl⟩
          have hLL: ∀q∈L,q∈(gA,gs.flatMap Stg.cells)::(sA,ss.flatMap Dst.cells)::L:=fun q hq=>List.mem_cons_of_mem _ (List.mem_cons_of_mem _ hq)
          have hi:=HI.out
          have HIn:=hiD (show TntIn ((gA,gs.flatMap Stg.cells)::(sA,ss.flatMap Dst.cells)::L) t by
           rw [ht]
           exact⟨⟨rfl,p1,p2,by simp⟩,fun y hy=>(HF.out.1 y hy).1.sub hLL,hi.1.sub (fun q hq=>hLL q (HL.out q hq)),⟨rfl,p3,p4,by simp⟩,fun y hy=>(HF.out.2 y hy).1.sub hLL,hi.2.1.sub (fun q hq=>hLL q (HL.out q hq))⟩)
          have HFt:=hiD (show t.fit by
           rw [ht]
           exact⟨HNm.out,hi.2.2.2.2.1,hi.2.2.2.2.2,fun y hy=>(HF.out.1 y hy).2,hi.2.2.1,fun y hy=>(HF.out.2 y hy).2,hi.2.2.2.1⟩)
          have HTb:=hiD (show zH t.bare=zH t from acB t (by
           rw [ht]
           exact fun y hy=>(HF.out.2 y hy).1.begL))
          have HCk:=hiD (adv wr t (HMx.out.ext HH.out.ext) (HIn.out.at_ HH.out (j:=0) rfl HFt.out))
          have HTc:=hiD (show t.cells= [.string nm0,.int .i64 qu,.int .i64 nx,.slice sA ss.length sc,.slice grA grn grc,.slice gA gs.length gc,.slice lgA lgn lgc]by rw [ht];rfl)
          have hV:=HV.out
          replace HV:=hiD (show V=if zH t.bare=true then some t.bare else none by rw [ht];exact hV)
          rw [HTc.out]at HCk
          clear hV hi p1 p2 p3 p4 h1 h2 ht hLL HF hsl
          go_wp2_with (refine lSX HH zt 1 ?_)
          refine HCk.out.mono ?_
          rintro e w9 ⟨rfl,e9⟩
          replace HH:=hiD (HH.out.later e9)
          clear e9 HCk
          cases hB:zH t with
          | true=>
            rw [show yt t=0 by rw [yt,hB];rfl]
            have hV:=HV.out
            rw [HTb.out,hB,if_pos rfl]at hV
            clear hB
            go_wp2_with fail
            refine(yX _ 21).mono ?_
            rintro e wN ⟨rfl,rfl⟩
            go_wp2_with (first | (refine lSX HH zt 1 ?_) | (refine sSX HH zt 1 ?_;clear HH;intro wS HH) | (refine s1X HH 2 ?_;clear HH;intro wS HH))
            refine aoa (HH.out.pick [1,2,0] (by decide) rfl rfl) rfl rfl ?_
            intro w10 h10
            have:=HOg.out t _ _ w10 hV HIn.out HFt.out (h10.pick [2] (by decide) rfl rfl)
            rw [HTc.out]at this
            exact this
          | false=>
            rw [show yt t=9 by rw [yt,hB];rfl]
            have hV:=HV.out
            rw [HTb.out,hB,if_neg (by decide)]at hV
            clear hB
            go_wp2_with fail
            refine(yB _ 21).mono ?_
            rintro e wN ⟨rfl,rfl⟩
            refine xX 21 (HH.out.pick [1,2] (by decide) rfl rfl) rfl rfl ?_
            intro w10 e10
            exact HOb.out hV _ e10
     ·have hd:(key.toList == (({ data:= #[116,47] }:ByteArray)++name).toList)=false:=xy hk
      have hV:=HV.out
      rw [if_neg hk]at hV
      clear hk
      go_wp2_with fail
      refine(yB _ 21).mono ?_
      rintro e wN ⟨rfl,rfl⟩
      refine xX 21 HH.out rfl rfl ?_
      intro w9 e9
      exact HOb.out hV _ e9
end Go.Proofs.YtckaneapjpiocaaGreatDoor
