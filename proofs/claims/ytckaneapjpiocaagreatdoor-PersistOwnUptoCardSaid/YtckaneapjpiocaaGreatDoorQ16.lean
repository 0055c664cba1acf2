/- The texts Rr5, Rdp, Read, Rdr in one file. -/
import Derived.Test.YtckaneapjpiocaaGreatDoorQ15
import Derived.Deep.DeepAppendWide
set_option linter.unusedVariables false
set_option linter.unusedSimpArgs false
set_option maxHeartbeats 8000000
set_option maxRecDepth 100000
namespace Go.Proofs.YtckaneapjpiocaaGreatDoor
open Go.RowKit Go.Maps Go.Sort Go.Shelf
theorem aas{y:Int}(h1:0≤y)(h2:y≤9223372036854775807):(Lit.int .i64 y).wf=true:=by
 simp only [Lit.wf,Bool.and_eq_true,decide_eq_true_eq]
 exact⟨Int.le_trans (by decide) h1,h2⟩
def rTx:List ByteArray→Option (ByteArray×List ByteArray)
 | []=>none
 | s::l=>some (s,l)
def RdO{α:Type}(bad:World→Prop)(good:α→List ByteArray→Ending→World→Prop)(r:Option (α×List ByteArray))(e:Ending)(w':World):Prop:=match r with
 | none=>e=aao 21∧bad w'
 | some p=>good p.1 p.2 e w'
theorem zw{P:Program}{f:FuncId}{args:Array Value}{w:World}{α β:Type}{r:Option (α×List ByteArray)}{k:α×List ByteArray→Option β}{V:Option β}{good:α→List ByteArray→Ending→World→Prop}{bad:World→Prop}{K:Ending→World→Prop}
 (HV:Hid (V=r.bind k)) (hC:Calls P f args w (RdO bad good r)) (hbad: ∀w',V=none→bad w'→K (aao 21) w') (hgood: ∀a ts e w',Hid (V=k (a,ts))→good a ts e w'→K e w'):Calls P f args w K:=by
 refine hC.mono fun e w' h=>?_
 cases r with
 | none=>
   obtain⟨rfl,h⟩:=h
   exact hbad w' (HV.out.trans (Option.bind_none ..)) h
 | some p=>exact hgood p.1 p.2 e w' HV h
theorem aod{ts:List ByteArray}{p:List Prp×List ByteArray}(h:aac ts=some p):prE p.1=0:=by
 rw [aac,Option.bind_eq_some_iff]at h
 obtain⟨q,_,h⟩:=h
 split at h
 ·cases h
 ·split at h
  ·rename_i h2
   cases h
   exact h2
  ·cases h
theorem al3{ts:List ByteArray}{p:List Blk×List ByteArray}(h:qS ts=some p):bkE p.1=0∧ ∀x∈p.1,x.wf:=by
 cases ts with
 | nil=>cases h
 | cons s l=>
   rw [qS]at h
   split at h
   ·rename_i h2
    cases h
    rw [aby,Bool.and_eq_true,decide_eq_true_eq,decide_eq_true_eq]at h2
    exact⟨h2.2,ahQ _⟩
   ·cases h
section
variable {w0 w:World} {b:Nat} {its:List It} {L:RdL} {ts:List ByteArray}
theorem ab6(HR:RS w0 b its L ts w):Calls Tryz.prog 103 #[.pointer (some ⟨b,0,none⟩)] w (RdO (Heap w0 its) (fun s ts' e w'=>s.size≤65536∧e= .returned (.string s)∧RS w0 b its L ts' w') (rTx ts)):=by
 cases ts with
 | nil=>exact aaw HR
 | cons s l=>exact(aa3 HR).mono fun e w' h=>⟨HR.small.2 s (List.mem_cons_self ..),h⟩
theorem ad2(HR:RS w0 b its L ts w)(m:Int):Calls Tryz.prog 102 #[.pointer (some ⟨b,0,none⟩),.int .i64 m] w (RdO (Heap w0 its) (fun v ts' e w'=>0≤v∧v≤m∧e= .returned (.int .i64 v)∧RS w0 b its L ts' w') (rNm m ts)):=
 (ae5 HR m).mono fun e w' h=>by
   cases hr:rNm m ts with
   | none=>rw [hr]at h;exact h
   | some p=>
     rw [hr]at h
     have:=acA hr
     exact⟨this.1,this.2.1,h⟩
theorem qZ(HR:RS w0 b its L ts w):Calls Tryz.prog 101 #[.pointer (some ⟨b,0,none⟩)] w (RdO (Heap w0 its) (fun v ts' e w'=>0≤v∧v≤1099511627776∧e= .returned (.int .i64 v)∧RS w0 b its L ts' w') (rAm ts)):=
 (alP HR).mono fun e w' h=>by
   cases hr:rAm ts with
   | none=>rw [hr]at h;exact h
   | some p=>
     rw [hr]at h
     have:=acA hr
     exact⟨this.1,this.2.1,h⟩
theorem ajD(HR:RS w0 b its L ts w):Calls Tryz.prog 106 #[.pointer (some ⟨b,0,none⟩)] w (RdO (Heap w0 its) (fun xs ts' e w'=>prE xs=0∧ ∃A c,e= .returned (.slice A xs.length c)∧xs.length≤c∧c≤maxLen∧RS w0 b its ((A,prps xs)::L) ts' w') (aac ts)):=
 (am2 HR).mono fun e w' h=>by
   cases hr:aac ts with
   | none=>rw [hr]at h;exact h
   | some p=>rw [hr]at h;exact⟨aod hr,h⟩
theorem aem(HR:RS w0 b its L ts w):Calls Tryz.prog 107 #[.pointer (some ⟨b,0,none⟩)] w (RdO (Heap w0 its) (fun xs ts' e w'=>(bkE xs=0∧ ∀x∈xs,x.wf)∧ ∃A c,e= .returned (.slice A xs.length c)∧xs.length≤c∧c≤maxLen∧RS w0 b its ((A,blks xs)::L) ts' w') (qS ts)):=
 (akg HR).mono fun e w' h=>by
   cases hr:qS ts with
   | none=>rw [hr]at h;exact h
   | some p=>rw [hr]at h;exact⟨al3 hr,h⟩
theorem afD(HR:RS w0 b its L ts w):Calls Tryz.prog 104 #[.pointer (some ⟨b,0,none⟩)] w (RdO (Heap w0 its) (fun _ ts' e w'=>e= .returned (.tuple #[])∧RS w0 b its L ts' w') (if ts= []then some ((), [])else none)):=
 (ajW HR).mono fun e w' h=>by
   by_cases ht:ts= []
   ·rw [if_pos ht]at h ⊢;exact h.1
   ·rw [if_neg ht]at h ⊢;exact h
end
def afN(n:Nat)(ts:List ByteArray):Option (List ByteArray×List ByteArray):=if ts.length < n then none else some (ts.take n,ts.drop n)
def slB{α:Type}(xs:List α):Sl α:=⟨none,0,0,xs⟩
def Sna.bare(x:Sna):Sna:={ x with body:=slB x.body.xs,tags:=slB x.tags.xs,own:=slB x.own.xs }
structure InL {α:Type} (L:RdL) (cells:α→List Value) (s:Sl α):Prop where
 len:s.n=s.xs.length
 le:s.n≤s.c
 cap:s.c≤maxLen
 mem:(s.A,s.xs.flatMap cells)∈L
theorem InL.sub{α:Type}{L L2:RdL}{cells:α→List Value}{s:Sl α}(h:InL L cells s)(hs: ∀q∈L,q∈L2):InL L2 cells s:=⟨h.len,h.le,h.cap,hs _ h.mem⟩
structure SnaIn (L:RdL) (x:Sna):Prop where
 body:InL L Blk.cells x.body
 tags:InL L strc x.tags
 own:InL L Prp.cells x.own
theorem SnaIn.sub{L L2:RdL}{x:Sna}(h:SnaIn L x)(hs: ∀q∈L,q∈L2):SnaIn L2 x:=⟨h.body.sub hs,h.tags.sub hs,h.own.sub hs⟩
structure Sna.fit (x:Sna):Prop where
 name:sml x.name
 guid:(Lit.int .i64 x.guid).wf=true
 body: ∀y∈x.body.xs,Blk.sm y
 bodyS:x.body.xs.length≤1048576
 tags: ∀y∈x.tags.xs,sml y
 own: ∀y∈x.own.xs,Prp.sm y
 ownS:x.own.xs.length≤1048576
def acg(ts:List ByteArray):Option (Sna×List ByteArray):=
 (rTx ts).bind fun a=>(rAm a.2).bind fun g=>(aac g.2).bind fun o=>(rNm 4 o.2).bind fun n=>(afN n.1.toNat n.2).bind fun t=>(qS t.2).bind fun d=>some (⟨a.1,g.1,slB d.1,slB t.1,slB o.1⟩,d.2)
theorem RS.bagRow{w0 w:World}{b:Nat}{its:List It}{L:RdL}{ts:List ByteArray}{e:TypeId}{size n c:Nat}{A:Option Addr}{xs:List Value}(h:RS w0 b (.row e size (.slice A n c) n xs::its) L ts w):RS w0 b its ((A,xs)::L) ts w:=by
 obtain⟨A',c',S,L',h1,h2,h3,h4,h5,h6,H⟩:=h
 have H2:Heap w0 (.row e size (.slice A n c) n xs:: .box b [.slice A' ts.length c']::It.bag S L'::its) w:=H.sub' (fun i=>if i=0 then 2 else if i < 3 then i - 1 else i) (fun i j q=>by
  (try dsimp only at q)
  split at q <;> split at q <;> (try split at q) <;> (try split at q) <;> omega) fun i y hy=>by
  match i with
  | 0=>exact hy
  | 1=>exact hy
  | 2=>exact hy
  | i+3=>
    rw [if_neg (by omega),if_neg (by omega)]
    exact hy
 obtain⟨S',H3⟩:=H2.rowBag (j:=1) rfl
 exact⟨A',c',S',(A,xs)::L',fun q hq=>by
  rcases List.mem_cons.1 hq with rfl | hq
  ·exact List.mem_cons_self ..
  ·exact List.mem_cons_of_mem _ (h1 q hq),List.mem_cons_of_mem _ h2,h3,h4,h5,h6,H3⟩
theorem aek:(Tryz.prog.info? 137).map (·.size)=some 5:=by kernel_rfl
def app(w0:World)(b:Nat)(its:List It)(L:RdL)(r:Option (Sna×List ByteArray)):Ending→World→Prop:=
 RdO (Heap w0 its) (fun px ts' e w'=> ∃(x:Sna) (L2:RdL),e= .returned (.agg x.cells.toArray)∧x.bare=px∧SnaIn L2 x∧(∀q∈L,q∈L2)∧x.fit∧RS w0 b its L2 ts' w') r
theorem anq{w0 w:World}{b:Nat}{its:List It}{L:RdL}{ts:List ByteArray}(HR:RS w0 b its L ts w):
 Calls Tryz.prog 108 #[.pointer (some ⟨b,0,none⟩)] w (app w0 b its L (acg ts)):=by
 obtain⟨i0,hi0,hz0,hz1,hz2⟩:=info_parts abd
 have HV:=hiD (show acg ts=(rTx ts).bind fun a=>(rAm a.2).bind fun g=>(aac g.2).bind fun o=>(rNm 4 o.2).bind fun n=>(afN n.1.toNat n.2).bind fun t=>(qS t.2).bind fun d=>some (⟨a.1,g.1,slB d.1,slB t.1,slB o.1⟩,d.2)from rfl)
 generalize acg ts=V at *
 have HH:=hiD HR
 clear HR
 go_enter Tryz.func108,Tryz.ntmps108
 go_upto_region 1 with fail
 generalize hwH:World.alloc w _=w1
 replace HH:=hiD (HH.out.push fun l h=>h.allocE hwH)
 clear hwH
 obtain⟨rb,hrb⟩: ∃b,b=w.heap.size:=⟨_,rfl⟩
 rw [←hrb]at HH ⊢
 clear hrb
 go_wp2_with fail
 refine zw HV (ab6 HH.out) (fun w' h1 h2=>by subst h1;exact⟨rfl,rfl,h2.tail⟩) ?_
 rintro nm us e w2 HV ⟨n0,rfl,h⟩
 replace HH:=hiD h
 clear h
 go_wp2_with fail
 refine zw HV (qZ HH.out) (fun w' h1 h2=>by subst h1;exact⟨rfl,rfl,h2.tail⟩) ?_
 rintro gd us e w3 HV ⟨g0,g1,rfl,h⟩
 replace HH:=hiD h
 clear h
 go_wp2_with fail
 refine zw HV (ajD HH.out) (fun w' h1 h2=>by subst h1;exact⟨rfl,rfl,h2.tail⟩) ?_
 rintro ow us e w4 HV ⟨o0,oA,oc,rfl,p1,p2,h⟩
 replace HH:=hiD h
 clear h
 have HP:=hiD p2
 clear p2
 dsimp only at HV
 obtain⟨A,c,S,L',_,_,H,hB⟩:=HH.out.open
 replace HH:=hiD H
 have HB:=hiD hB
 clear H hB
 go_upto_region 2 with(refine sSX (hiD (HH.out.alloc _ _)) aek 0 ?_;clear HH;intro wS HH)
 obtain⟨xb,hxb⟩: ∃b,b=w4.heap.size:=⟨_,rfl⟩
 rw [←hxb]at HH ⊢
 clear hxb
 replace HH:=hiD ((HB.out _ _ HH.out.in2).push (x:= .row 9 1 (.slice none 0 0) 0 []) fun l h=>h.row0)
 clear HB
 go_wp2_with fail
 refine zw HV (ad2 HH.out 4) (fun w' h1 h2=>by subst h1;exact⟨rfl,rfl,h2.tail.tail.tail⟩) ?_
 rintro kv us e w5 HV ⟨k0,k4,rfl,h⟩
 replace HH:=hiD h
 clear h
 dsimp only at HV
 obtain⟨K,rfl⟩: ∃K:Nat,kv=(K:Int):=⟨kv.toNat,by omega⟩
 have HO0:=hiD o0
 clear k0 o0
 rw [Int.toNat_natCast]at HV
 obtain⟨L0,hL0⟩: ∃L0,L0=(oA,prps ow)::L:=⟨_,rfl⟩
 rw [←hL0]at HH
 have HL0:=hiD hL0
 clear hL0
 have HUl:=hiD HH.out.small.1
 have HUs:=hiD HH.out.small.2
 go_wp2_with fail
 go_loopw [13] (fun i wr=> ∃k:Nat,k≤K∧k≤us.length∧i= .int .i64 (k:Int)∧ ∃A c,Hid (RS w0 b (.row 9 1 (.slice A k c) k (strV (us.take k)):: .box xb [.string nm,.int .i64 gd,.slice none 0 0,.slice A k c,.slice oA ow.length oc]:: .box rb [.string ⟨#[]⟩,.int .i64 0,.slice none 0 0,.slice none 0 0,.slice none 0 0]::its) L0 (us.drop k) wr)) (fun i _=>K - (intOf i).toNat)
 case atStart=>exact⟨0,Nat.zero_le _,Nat.zero_le _,rfl,_,_,HH⟩
 case round=>
  clear HH
  obtain⟨k,hk,hkl,rfl,vA,vc,HR⟩:=hrel
  by_cases hlt:k < K
  ·have hkk:(k:Int) < (K:Int):=by omega
   have hul:=HUl.out
   by_cases hl2:k < us.length
   ·have HTk:=hiD (show us.take (k+1)=us.take k++ [us[k]]from List.take_succ_eq_append_getElem hl2)
    go_upto_region 4 with fail
    obtain⟨A,c,S,L',_,_,H,hB⟩:=HR.out.open
    have HH:=hiD H.drew
    have HT:=hiD (aa3 (show RS w0 b _ L0 (us[k]::us.drop (k+1)) wr.drew by rw [List.getElem_cons_drop];exact HR.out.later (Ext.drew (Ext.refl _))))
    clear HR H hB
    generalize us[k]=s at *
    refine qe (fun z=>Nat.blt z 6) (S:=fun W=>W.cell? ⟨xb,3,none⟩=some (.slice vA k vc)) (by kernel_rfl) ((HH.out.boxAt 3 rfl).cell 3 _ rfl) (fun hHeld=>?_)
    generalize World.drew _=wd at *
    refine tM 0 3 ?_
    clear hHeld HH
    refine oMX 3 (fun K hK=>?_)
    go_simp
    refine HT.out.mono ?_
    rintro e w6 ⟨rfl,h⟩
    obtain⟨A,c,S,L',_,_,H,hB⟩:=h.open
    have HH:=hiD H
    have HB:=hiD hB
    clear h H hB HT
    go_wp2_with fail
    refine hK.out _ _ ((HH.out.boxAt 3 rfl).cell 3 _ rfl) (fun hHeld=>?_)
    clear hK K hHeld
    refine lyX ?_
    refine oMX 4 (fun K hK=>?_)
    go_simp
    generalize hwA:World.alloc _ _=w7
    replace HH:=hiD (HH.out.allocE hwA)
    clear hwA
    refine hK.out _ _ ((HH.out.boxAt 4 rfl).cell 3 _ rfl) (fun hHeld=>?_)
    clear hK K hHeld
    refine lyX ?_
    refine fMX 5 (fun K hK=>?_)
    refine zO (.tmp 16) (.tmp 19) _ rfl Tryz.underlying109 hi0 hz0 hz1 hz2 rfl (by omega) HH.out 3 rfl rfl (m:=1) rfl rfl (HH.out.boxRd 0 rfl).m0 (by simp [Value.oneCell']) (by simp only [maxLen];omega) (by omega) ?_
    rintro v8 w8 hh8 ⟨A8,c8,rfl⟩
    replace HH:=hiD hh8.tail
    clear hh8
    refine hK.out _ _ ?_;clear hK K;refine lyX ?_
    refine yL 6 (v:=?_) rfl (by kernel_rfl) (by kernel_rfl) (by kernel_rfl) (by kernel_rfl) (fun _ _ _ h=>h) (by kernel_rfl) ?_ (fun h=>absurd h (aal (by kernel_rfl))) ?_;rotate_left;(focus(intro w;go_simp <;> with_reducible rfl));refine lyX ?_
    refine fMX 7 (fun K hK=>?_)
    refine z8 HH.out rfl rfl rfl 3 rfl (Nat.le_of_ble_eq_true rfl) rfl (by kernel_rfl) ?_
    intro w9 hh9
    refine hK.out _ _ ?_;clear hK K;refine lyX ?_
    refine xD (by kernel_rfl) ?_
    have H9:=hiD (HB.out _ _ hh9)
    clear hh9 HB HH
    go_wp2_with fail
    go_roundw
    case rel=>exact⟨k+1,by omega,by omega,by go_num,_,_,by rw [HTk.out,strV,List.map_append];exact H9.out⟩
    case measure=>simp [intOf];omega
   ·have hV:=HV.out
    rw [afN,if_pos (by omega),Option.bind_none]at hV
    subst hV
    go_upto_region 4 with fail
    obtain⟨A,c,S,L',_,_,H,hB⟩:=HR.out.open
    have HH:=hiD H.drew
    have HT:=hiD (aaw (show RS w0 b _ L0 [] wr.drew by
     have h:=HR.out.later (Ext.drew (Ext.refl _))
     rw [List.drop_of_length_le (by omega)]at h
     exact h))
    clear HR H hB
    refine qe (fun z=>Nat.blt z 6) (S:=fun W=>W.cell? ⟨xb,3,none⟩=some (.slice vA k vc)) (by kernel_rfl) ((HH.out.boxAt 3 rfl).cell 3 _ rfl) (fun hHeld=>?_)
    generalize World.drew _=wd at *
    refine tM 0 3 ?_
    clear hHeld HH
    refine oMX 3 (fun K hK=>?_)
    go_simp
    refine HT.out.mono ?_
    rintro e w6 ⟨rfl,h⟩
    exact⟨rfl,rfl,h.tail.tail.tail⟩
  ·obtain rfl:k=K:=by omega
   have hV:=HV.out
   rw [afN,if_neg (by omega),Option.bind_some]at hV
   replace HV:=hiD hV
   clear hV
   dsimp only at HV
   go_wp2_with fail
   refine zw HV (aem HR.out) (fun w' h1 h2=>by subst h1;exact⟨rfl,rfl,h2.tail.tail.tail⟩) ?_
   rintro bd us2 e w6 HV ⟨⟨b0,b9⟩,bA,bc,rfl,q1,q2,h⟩
   obtain⟨A9,c9,S9,L9,_,hL9,H,hB⟩:=h.open
   have HH:=hiD H
   have HB:=hiD hB
   have HL9:=hiD hL9
   clear h H hB hL9 HR
   go_upto_region 7 with(refine s1X HH 3 ?_;clear HH;intro wS HH)
   go_wp2_with (first | (refine lSX HH aek 3 ?_) | (refine sSX HH aek 4 ?_;clear HH;intro wS HH))
   refine aax aek (by kernel_rfl) HH.out rfl rfl 4 rfl rfl rfl ?_
   have hV:=HV.out
   subst hV
   obtain⟨r1,r2⟩:=z7 (HH.out.rowAt 2 rfl)
   have HR9:=((HB.out _ _ HH.out).bagRow).drop.drop
   have hLs:=HL0.out
   obtain⟨o1,o2⟩:=aaV _ HO0.out
   obtain⟨d1,d2⟩:=qt _ b0
   have hku:k≤1024:=Nat.le_trans hkl HUl.out
   refine⟨⟨nm,gd,⟨bA,bd.length,bc,bd⟩,⟨vA,k,vc,us.take k⟩,⟨oA,ow.length,oc,ow⟩⟩,_,rfl,rfl,⟨⟨rfl,q1,q2,by simp [blks]⟩,⟨by rw [List.length_take];show k=_;omega,r1,r2,by rw [ad5];simp [strV]⟩,⟨rfl,p1,HP.out,by rw [hLs];simp [prps]⟩⟩,fun q hq=>by rw [hLs];simp [hq],⟨Nat.le_trans n0 (by decide),aas g0 (Int.le_trans g1 (by decide)),fun y hy=>?_,Nat.le_trans d1 (by decide),fun y hy=>?_,fun y hy=>?_,Nat.le_trans o1 (by decide)⟩,HR9⟩
   ·exact b9 y hy
   ·exact Nat.le_trans (HUs.out y (List.mem_of_mem_take hy)) (by decide)
   ·have:=o2 y hy
    exact⟨Nat.le_trans this.1 (by decide),Nat.le_trans this.2 (by decide)⟩
def rl:Nat→List UInt8→List ByteArray→Int×List ByteArray
 | 0,b,out=>if 0 < b.length then(9, [])else(0,out)
 | n+1,b,out=>if b.length < 3 then(8, [])else if 65536 < val (b.take 3)then(5, [])else if(b.drop 3).length < val (b.take 3)then(8, [])else
    rl n ((b.drop 3).drop (val (b.take 3))) (out++ [⟨((b.drop 3).take (val (b.take 3))).toArray⟩])
def rd(b:List UInt8):Int×List ByteArray:=if b.length < 2 then(8, [])else if 1024 < val (b.take 2)then(3, [])else rl (val (b.take 2)) (b.drop 2) []
theorem abr(n m:Nat)(h:n < 256 ^ m):val (zp n m)=n:=by
 have h1:=adr n m
 have h2:((n:Int) % (256:Int) ^ m)=((n % 256 ^ m:Nat):Int):=by simp
 rw [h2,Nat.mod_eq_of_lt h]at h1
 omega
theorem aoE(a:Nat)(c:UInt8):bt ((a * 256+c.toNat:Nat):Int) 0=c:=by
 have h:=afU ((a * 256+c.toNat:Nat):Int)
 have hc:c.toNat < 256:=c.toNat_lt
 apply UInt8.toNat_inj.1
 omega
theorem abq(l:List UInt8):zp (val l) l.length=l:=by
 suffices h: ∀(n:Nat) (l:List UInt8),l.length=n→zp (val l) n=l from h _ l rfl
 intro n
 induction n with
 | zero=>
   intro l hl
   rw [List.eq_nil_of_length_eq_zero hl]
   rfl
 | succ n ih=>
   intro l hl
   have hne:l≠ []:=fun e=>by rw [e]at hl;cases hl
   obtain⟨l',c,rfl⟩: ∃l' c,l=l'++ [c]:=⟨l.dropLast,l.getLast hne,(List.dropLast_concat_getLast hne).symm⟩
   have hl':l'.length=n:=by simpa using hl
   rw [agi,aeX,aoE]
   congr 1
   have hc:c.toNat < 256:=c.toNat_lt
   have:(((val l' * 256+c.toNat:Nat):Int) / 256)=(val l':Int):=by omega
   rw [this]
   exact ih l' hl'
theorem amL(s:ByteArray)(hs:s.size≤65536)(r:List UInt8):val ((one s++r).take 3)=s.size∧(one s++r).drop 3=s.data.toList++r:=by
 have h3:(zp s.size 3).length=3:=zo _ _
 constructor
 ·rw [one,List.append_assoc,List.take_append_of_le_length (by omega),List.take_of_length_le (by omega)]
  exact abr _ _ (by omega)
 ·rw [one,List.append_assoc,List.drop_append_of_le_length (by omega),List.drop_of_length_le (by omega)]
  rfl
theorem anA(s:ByteArray):(one s).length=3+s.size:=by rw [one,List.length_append,zo,zv]
theorem an7(l:List ByteArray)(hl: ∀s∈l,s.size≤65536)(r:List UInt8)(out:List ByteArray):rl l.length (l.flatMap one++r) out=if 0 < r.length then(9, [])else(0,out++l):=by
 induction l generalizing out with
 | nil=>simp [rl]
 | cons s l ih=>
   have hs:=hl s (by simp)
   obtain⟨h1,h2⟩:=amL s hs (l.flatMap one++r)
   rw [List.flatMap_cons,List.append_assoc,List.length_cons,rl,h1,h2]
   have hn: ¬(one s++(l.flatMap one++r)).length < 3:=by rw [List.length_append,anA];omega
   have hd: ¬(s.data.toList++(l.flatMap one++r)).length < s.size:=by rw [List.length_append,zv];omega
   rw [if_neg hn,if_neg (by omega),if_neg hd]
   have e1:(s.data.toList++(l.flatMap one++r)).drop s.size=l.flatMap one++r:=by rw [List.drop_append_of_le_length (by rw [zv];omega),List.drop_of_length_le (by rw [zv];omega)];rfl
   have e2:(s.data.toList++(l.flatMap one++r)).take s.size=s.data.toList:=by rw [List.take_append_of_le_length (by rw [zv];omega),List.take_of_length_le (by rw [zv];omega)]
   rw [e1,e2,ih (fun s h=>hl s (by simp [h]))]
   have e3:(⟨s.data.toList.toArray⟩:ByteArray)=s:=by simp
   rw [e3,List.append_assoc]
   rfl
theorem anz(n:Nat)(b:List UInt8)(out m:List ByteArray)(h:rl n b out=(0,m)): ∃ms:List ByteArray,m=out++ms∧ms.length=n∧b=ms.flatMap one∧ ∀s∈ms,s.size≤65536:=by
 induction n generalizing b out with
 | zero=>
   unfold rl at h
   by_cases hb:0 < b.length
   ·rw [if_pos hb]at h
    cases h
   ·rw [if_neg hb]at h
    cases h
    exact⟨[],by simp,rfl,by simpa using hb,by simp⟩
 | succ n ih=>
   unfold rl at h
   by_cases h3:b.length < 3
   ·rw [if_pos h3]at h;cases h
   ·rw [if_neg h3]at h
    by_cases h4:65536 < val (b.take 3)
    ·rw [if_pos h4]at h;cases h
    ·rw [if_neg h4]at h
     by_cases h5:(b.drop 3).length < val (b.take 3)
     ·rw [if_pos h5]at h;cases h
     ·rw [if_neg h5]at h
      obtain⟨ms,e1,e2,e3,e4⟩:=ih _ _ h
      have hsz:(⟨((b.drop 3).take (val (b.take 3))).toArray⟩:ByteArray).size=val (b.take 3):=by
       show((b.drop 3).take (val (b.take 3))).toArray.size=_
       rw [List.size_toArray,List.length_take]
       omega
      refine⟨⟨((b.drop 3).take (val (b.take 3))).toArray⟩::ms,by rw [e1];simp,by simp [e2],?_,?_⟩
      ·rw [List.flatMap_cons,←e3,one,hsz]
       have h6:zp (val (b.take 3)) 3=b.take 3:=by
        have:=abq (b.take 3)
        rwa [show(b.take 3).length=3 from by rw [List.length_take];omega]at this
       rw [h6]
       show b=b.take 3++(b.drop 3).take (val (b.take 3))++(b.drop 3).drop (val (b.take 3))
       rw [List.append_assoc,List.take_append_drop,List.take_append_drop]
      ·intro s hs
       rcases List.mem_cons.1 hs with rfl | hs
       ·rw [hsz];omega
       ·exact e4 s hs
theorem an3(n:Nat)(b:List UInt8)(out:List ByteArray)(h:(rl n b out).1≠0):(rl n b out).2= []:=by
 induction n generalizing b out with
 | zero=>
   rw [rl]at h ⊢
   by_cases hb:0 < b.length
   ·rw [if_pos hb]
   ·rw [if_neg hb]at h
    exact absurd rfl h
 | succ n ih=>
   rw [rl]at h ⊢
   by_cases h3:b.length < 3
   ·rw [if_pos h3]
   ·rw [if_neg h3]at h ⊢
    by_cases h4:65536 < val (b.take 3)
    ·rw [if_pos h4]
    ·rw [if_neg h4]at h ⊢
     by_cases h5:(b.drop 3).length < val (b.take 3)
     ·rw [if_pos h5]
     ·rw [if_neg h5]at h ⊢
      exact ih _ _ h
theorem al9(l:List ByteArray):l.any xC=false↔ ∀s∈l,s.size≤65536:=by
 rw [List.any_eq_false]
 constructor
 ·intro h s hs
  have:=h s hs
  simp only [xC,decide_eq_true_eq]at this
  omega
 ·intro h s hs
  have:=h s hs
  simp only [xC,decide_eq_true_eq]
  omega
theorem aeo(l:List ByteArray):wE l=0↔l.length≤1024∧ ∀s∈l,s.size≤65536:=by
 rw [←al9,wE]
 by_cases h1:1024 < l.length
 ·rw [if_pos h1]
  constructor
  ·intro h;omega
  ·intro h;omega
 ·rw [if_neg h1]
  cases h2:l.any xC
  ·simp;omega
  ·simp
theorem akw(l:List ByteArray)(hl:l.length≤1024)(r:List UInt8): ¬(zu l++r).length < 2∧val ((zu l++r).take 2)=l.length∧(zu l++r).drop 2=l.flatMap one++r:=by
 have h2:(zp l.length 2).length=2:=zo _ _
 refine⟨?_,?_,?_⟩
 ·rw [zu,List.length_append,List.length_append];omega
 ·rw [zu,List.append_assoc,List.take_append_of_le_length (by omega),List.take_of_length_le (by omega)]
  exact abr _ _ (by omega)
 ·rw [zu,List.append_assoc,List.drop_append_of_le_length (by omega),List.drop_of_length_le (by omega)]
  rfl
theorem agW(l:List ByteArray)(h:wE l=0)(r:List UInt8):rd (wB l++r)=if 0 < r.length then(9, [])else(0,l):=by
 obtain⟨h1,h2⟩:=(aeo l).1 h
 obtain⟨a,b,c⟩:=akw l h1 r
 rw [wB,if_pos h,rd,if_neg a,b,c,if_neg (by omega),an7 l h2 r []]
 rfl
theorem afI(b:List UInt8)(m:List ByteArray)(h:rd b=(0,m)):wE m=0∧wB m=b:=by
 unfold rd at h
 by_cases h2:b.length < 2
 ·rw [if_pos h2]at h;cases h
 ·rw [if_neg h2]at h
  by_cases h3:1024 < val (b.take 2)
  ·rw [if_pos h3]at h;cases h
  ·rw [if_neg h3]at h
   obtain⟨ms,e1,e2,e3,e4⟩:=anz _ _ _ _ h
   rw [List.nil_append]at e1
   subst e1
   have hw:wE m=0:=(aeo m).2 ⟨by omega,e4⟩
   refine⟨hw,?_⟩
   rw [wB,if_pos hw,zu,←e3,e2]
   have h6:zp (val (b.take 2)) 2=b.take 2:=by
    have:=abq (b.take 2)
    rwa [show(b.take 2).length=2 from by rw [List.length_take];omega]at this
   rw [h6,List.take_append_drop]
theorem an6(b:List UInt8)(h:(rd b).1≠0):(rd b).2= []:=by
 rw [rd]at h ⊢
 by_cases h2:b.length < 2
 ·rw [if_pos h2]
 ·rw [if_neg h2]at h ⊢
  by_cases h3:1024 < val (b.take 2)
  ·rw [if_pos h3]
  ·rw [if_neg h3]at h ⊢
   exact an3 _ _ _ h
theorem agt{P:Program}(w:World){ops:Array Oper}{rest:List Oper}{o:Oper}{a:Act}{Q:Exit→Act→World→Prop}(hgd:o.guard=none)(s x:Operand)(t:TypeId)
 (ho:o.op= .call { callee:= .builtin .append,args:= #[s,x],argTypes:= #[t,t] })
 (e:TypeId) (i:TypeInfo) (z:Value) (size bytes:Nat) (ht:P.underlying t=some (.slice e)) (hi:P.info? e=some i) (hz:i.zero=some z)
 (hsize:i.size=size) (hby:i.bytes=bytes) (hzs:z.cells.size=size) (hsz:0 < size)
 (base:Nat) (v:Value) (n:Nat) (xs:List Value) (hs:a.eval s=v) (hown:w.ownsRow base e size v n xs) (lo h':Nat) (A:Option Addr) (m c:Nat) (news:List Value) (hx:a.eval x= .slice A m c) (hl:news.length=m * size) (hr:Rd w lo h' A news) (h1: ∀u∈news,u.oneCell'=true)
 (h63:n+m≤maxLen) (hbytes:((n+m)+(n+m) / 4+192) * bytes≤281474976710656) (hn:n * bytes≤140737488355328) (hbase:base≤w.heap.size)
 (h: ∀v' w',w'.ownsRow base e size v' (n+m) (xs++news)→(∀b,Ext b w→b.heap.size≤base→Ext b w')→w.grownBy w' v.ownBlock→wpList P ops Q rest (a.put o.dst v') w'):wpList P ops Q (o::rest) a w:=by
 cases A with
 | none=>
   have hm:m=0:=by
    rcases Nat.eq_zero_or_pos m with h0 | h0
    ·exact h0
    ·obtain⟨b,o,h,_⟩:=hr (fun e=>by have:=Nat.mul_pos h0 hsz;simp [e]at hl;omega)
     cases h
   subst hm
   exact qR w hgd s x t ho e i z size bytes ht hi hz hsize hby hzs hsz base v n xs hs hown lo h' none 0 c news hx hl hr h1 h63 hn hbase fun v' w' a1 a2 _ a3=>h v' w' a1 a2 a3
 | some ad=>
   have hcells: ∀j u,news[j]?=some u→w.cell? (ad.add j)=some u:=by
    intro j u hu
    obtain⟨b,o,h,_,_,hc⟩:=hr (fun e=>by simp [e]at hu)
    injection h with h
    subst h
    rw [xS]
    exact hc j u hu
   exact Go.wpList_append_own_wide w hgd s x t ho base e i z size bytes ht hi hz hsize hby hzs hsz v n xs hs hown ad m c news hx hl hcells h1 h63 hbytes hbase
    fun v' w' h2 h3 _=>h v' w' h2 (fun _ hb hle=>adO hb hown h3 hle) h3
theorem afq(w:World)(base:Nat)(hbase:base≤w.heap.size)(A:Option Addr)(n c:Nat)(l:List UInt8)(hn:n=l.length)(hr:Rd w 0 w.heap.size A (bytes l))(hb:n≤150000000000000):
 Calls Tryz.prog 226 #[.slice A n c] w fun e w'=> ∃v,e= .returned v∧w'.ownsRow base 5 1 v n (bytes l)∧Ext w w':=by
 have qT: ∀(w:World) (a:Option Addr) (n c n' c':Nat),(binOp .eql 53 (.slice a n c) (.slice none n' c')).run Tryz.prog w= .ok (.bool a.isNone) w:=fun w a n c n' c'=>Lib.run_eql_slice_nil w _ _ a n c n' c' Tryz.underlying53
 obtain⟨i0,hi0,hz0,hz1,hz2⟩:=info_parts aaT
 have hmx:n≤maxLen:=by simp only [maxLen];omega
 have hl:(bytes l).length=n * 1:=by rw [yS,hn,Nat.mul_one]
 have Hn:=hiD hn
 clear hn
 cases A with
 | none=>
   have:n=0:=by
    rcases Nat.eq_zero_or_pos n with h | h
    ·exact h
    ·obtain⟨b,o,hh,_⟩:=hr (fun e=>by rw [e]at hl;simp at hl;omega)
     cases hh
   subst this
   have:bytes l= []:=List.eq_nil_of_length_eq_zero (by simpa using hl)
   rw [this]
   clear hl
   go_enter Tryz.func226,Tryz.ntmps226
   go_wp2
   go_ret
   exact⟨_,rfl,World.ownsRow_nil _ _ _ _,Ext.refl _⟩
 | some ad=>
   go_enter Tryz.func226,Tryz.ntmps226
   go_wp2_with
    (at_builtin
     refine agt _ rfl (.tmp 5) (.tmp 6) _ rfl 5 i0 _ 1 1 Tryz.underlying53 hi0 hz0 hz1 hz2 rfl (by omega) base (.slice (some ⟨w.heap.size,0,none⟩) 0 0) 0 [] rfl
      (World.ownsRow_lit w #[] 0 hbase (Nat.zero_le _) rfl) 0 w.heap.size (some ad) n c (bytes l) rfl hl (hr.alloc (Nat.le_refl _) _) (adI _) (by simpa using hmx) (by omega) (by omega) (by simp;omega) ?_
     intro v1 w1 hown1 he1 hg1)
   go_ret
   refine⟨v1,rfl,by simpa using hown1,aev ((Below.refl _ _).alloc (Nat.le_refl _) _) hg1 (by simp) (.inr ⟨_,rfl,Nat.le_refl _⟩)⟩
def apc(l:List UInt8)(k:Nat)(w:World)(e:Ending)(w':World):Prop:=
 ∃v1 v2,e= .returned (.tuple #[v1,v2,.int .i64 (if l.length < k then 8 else 0)])∧
  w'.ownsRow w.heap.size 5 1 v1 (if l.length < k then 0 else k) (bytes (if l.length < k then []else l.take k))∧
  w'.ownsRow w.heap.size 5 1 v2 (if l.length < k then 0 else l.length - k) (bytes (if l.length < k then []else l.drop k))∧Ext w w'
theorem ah5(w:World)(A:Option Addr)(n c:Nat)(l:List UInt8)(hn:n=l.length)(hnc:n≤c)(hr:Rd w 0 w.heap.size A (bytes l))(hb:n≤150000000000000)(hc:c≤9223372036854775807)(k:Nat)(K:Int)(hK:K=(k:Int)):
 Calls Tryz.prog 207 #[.slice A n c,.int .i64 K] w (apc l k w):=by
 subst hK
 obtain⟨i0,hi0,hz0,hz1,hz2⟩:=info_parts aaT
 have hlen:(bytes l).length=n * 1:=by rw [yS,hn,Nat.mul_one]
 have Hn:=hiD hn
 by_cases hk:n < k
 ·have hif:l.length < k:=by omega
  have HI:=hiD hif
  clear hn hif hlen
  go_enter Tryz.func207,Tryz.ntmps207
  go_wp2_with fail
  refine bodyPost_ret (results_tmp3 rfl _ _ _) rfl ?_
  refine⟨_,_,by rw [if_pos HI.out];rfl,?_,?_,Ext.refl _⟩
  ·rw [if_pos HI.out,if_pos HI.out]
   exact World.ownsRow_nil _ _ _ _
  ·rw [if_pos HI.out,if_pos HI.out]
   exact World.ownsRow_nil _ _ _ _
 ·have hif: ¬l.length < k:=by omega
  have HI:=hiD hif
  have hsl: ∀W,(Instr.slice 53 (.slice A n c) (some (.int .i64 (k:Int))) none none).run Tryz.prog W= .ok (.slice (zy A c k 1) (n - k) (c - k)) W:=fun W=>yC W 53 5 i0 1 Tryz.underlying53 hi0 hz1 A n c k _ rfl (by omega)
  have h2:Rd w 0 w.heap.size (zy A c k 1) (bytes (l.drop k)):=by
   have:=hr.from_ hlen (k:=k) (by omega) hnc
   rwa [Nat.mul_one,abj]at this
  have h1:Rd w 0 w.heap.size A (bytes (l.take k)):=by
   have:=hr.take k
   rwa [aaC]at this
  have HL1:Hid (k=(l.take k).length):=by rw [Hid,List.length_take];omega
  have HL2:Hid (n - k=(l.drop k).length):=by rw [Hid,List.length_drop];omega
  clear hn hif hlen
  go_enter Tryz.func207,Tryz.ntmps207
  go_wp2_with fail
  have b1:(0:Int)≤(k:Int):=by omega
  have b2:(k:Int)≤(c:Int):=by omega
  have b3:(k:Int)≤(n:Int):=by omega
  go_region_held3 (fun w'=>Ext w w') (first | exact blo | (trace_state;fail))
   (first
     | (go_at_call 226
        ((with_reducible refine(afq _ w.heap.size (Ext.size blo) A k c (l.take k) HL1.out (h1.at blo (Nat.le_refl _)) (by omega)).mono ?_)
         rintro e w2 ⟨v2,rfl,hown2,e2⟩))
     | (go_at_call 226
        ((with_reducible refine(afq _ w.heap.size (Ext.size blo) (zy A c k 1) (n - k) (c - k) (l.drop k) HL2.out (h2.at blo (Nat.le_refl _)) (by omega)).mono ?_)
         rintro e w3 ⟨v3,rfl,hown3,e3⟩)))
  clear hsl
  go_wp2_with fail
  refine bodyPost_ret (results_tmp3 rfl _ _ _) rfl ?_
  refine⟨v2,v3,by rw [if_neg HI.out];rfl,?_,?_,blo⟩
  ·rw [if_neg HI.out,if_neg HI.out]
   exact ab7 hown2 e3
  ·rw [if_neg HI.out,if_neg HI.out,←Hn.out]
   exact hown3
def anr(l:List UInt8)(w:World)(e:Ending)(w':World):Prop:=
 ∃v,e= .returned (.tuple #[.int .i64 (if l.length < 2 then 0 else val (l.take 2)),v,.int .i64 (if l.length < 2 then 8 else 0)])∧
  w'.ownsRow w.heap.size 5 1 v (if l.length < 2 then 0 else l.length - 2) (bytes (if l.length < 2 then []else l.drop 2))∧Ext w w'
theorem af0(l:List UInt8)(h: ¬l.length < 2):yK (l.take 2)=val (l.take 2)∧qX (l.take 2)=0:=by
 have h1:(l.take 2).length=2:=by rw [List.length_take];omega
 have h2:=abP (l.take 2)
 rw [h1]at h2
 rw [yK,qX,h1,if_neg (by omega),if_neg (by omega),if_neg (by omega),if_neg (by omega),if_neg (by omega),if_neg (by omega)]
 exact⟨rfl,rfl⟩
theorem ahp(l:List UInt8)(h: ¬l.length < 3):yK (l.take 3)=val (l.take 3)∧qX (l.take 3)=0∧val (l.take 3) < 16777216:=by
 have h1:(l.take 3).length=3:=by rw [List.length_take];omega
 have h2:=abP (l.take 3)
 rw [h1]at h2
 rw [yK,qX,h1,if_neg (by omega),if_neg (by omega),if_neg (by omega),if_neg (by omega),if_neg (by omega),if_neg (by omega)]
 exact⟨rfl,rfl,h2⟩
theorem ad8(w:World)(A:Option Addr)(n c:Nat)(l:List UInt8)(hn:n=l.length)(hnc:n≤c)(hr:Rd w 0 w.heap.size A (bytes l))(hb:n≤150000000000000)(hc:c≤9223372036854775807):
 Calls Tryz.prog 173 #[.slice A n c,.int .i64 2] w (anr l w):=by
 have Hn:=hiD hn
 by_cases h2:l.length < 2
 ·have HI:=hiD h2
  clear h2 hn
  go_enter Tryz.func173,Tryz.ntmps173
  go_wp2_with fail
  refine(ah5 w A n c l Hn.out hnc hr hb hc 2 2 rfl).mono ?_
  rintro e w2 ⟨v1,v2,rfl,hown1,hown2,e2⟩
  rw [if_pos HI.out]
  clear hown1 hown2
  go_wp2_with fail
  refine bodyPost_ret (results_tmp3 rfl _ _ _) rfl ?_
  exact⟨_,by rw [if_pos HI.out,if_pos HI.out];rfl,by rw [if_pos HI.out,if_pos HI.out];exact World.ownsRow_nil _ _ _ _,e2⟩
 ·obtain⟨x1,x2⟩:=af0 l h2
  have X:=hiD x1
  have Y:=hiD x2
  have HI:=hiD h2
  have HL:Hid (2=(l.take 2).length):=by rw [Hid,List.length_take];omega
  clear h2 hn x1 x2
  go_enter Tryz.func173,Tryz.ntmps173
  go_wp2_with fail
  refine(ah5 w A n c l Hn.out hnc hr hb hc 2 2 rfl).mono ?_
  rintro e w2 ⟨v1,v2,rfl,hown1,hown2,e2⟩
  rw [if_neg HI.out]at hown1 hown2 ⊢
  rw [if_neg HI.out]at hown1 hown2
  obtain⟨A1,c1,rfl,_,_,_⟩:=zr hown1
  go_wp2_with fail
  refine(aaI w2 A1 2 c1 _ _ (l.take 2) HL.out (by omega) (Rd.of_own hown1) (Nat.le_refl _)).mono ?_
  rintro e w3 ⟨rfl,e3⟩
  rw [X.out,Y.out]
  go_wp2_with fail
  refine bodyPost_ret (results_tmp3 rfl _ _ _) rfl ?_
  exact⟨v2,by rw [if_neg HI.out,if_neg HI.out];rfl,by rw [if_neg HI.out,if_neg HI.out];exact ab7 hown2 e3,blo⟩
def aj7(l:List UInt8)(w:World)(e:Ending)(w':World):Prop:=
 ∃v,e= .returned (.tuple #[v,.int .i64 (rd l).1])∧w'.ownsRow w.heap.size 9 1 v (rd l).2.length ((rd l).2.map Value.string)∧Ext w w'
theorem aba{l:List UInt8}{w w':World}{r:Int}(h:rd l=(r, []))(he:Ext w w'):aj7 l w (.returned (.tuple #[.slice none 0 0,.int .i64 r])) w':=
 ⟨_,by rw [h],by rw [h];exact World.ownsRow_nil _ _ _ _,he⟩
theorem aeK(w:World)(A:Option Addr)(n c:Nat)(l:List UInt8)(hn:n=l.length)(hnc:n≤c)(hr:Rd w 0 w.heap.size A (bytes l))(hb:n≤150000000000000)(hc:c≤9223372036854775807):
 Calls Tryz.prog 125 #[.slice A n c] w (aj7 l w):=by
 obtain⟨i0,hi0,hz0,hz1,hz2⟩:=info_parts abd
 obtain⟨j0,hj0,hy0,hy1,hy2⟩:=info_parts aaT
 have Hn:=hiD hn
 by_cases h2:l.length < 2
 ·have HR:Hid (rd l=(8, [])):=by rw [Hid,rd,if_pos h2]
  have HI:=hiD h2
  clear h2 hn
  go_enter Tryz.func125,Tryz.ntmps125
  go_wp2_with fail
  refine(ad8 w A n c l Hn.out hnc hr hb hc).mono ?_
  rintro e w2 ⟨v,rfl,hown,e2⟩
  rw [if_pos HI.out,if_pos HI.out]
  clear hown
  go_wp2_with fail
  go_ret2
  exact aba HR.out e2
 ·have HI:=hiD h2
  by_cases h3:1024 < val (l.take 2)
  ·have HR:Hid (rd l=(3, [])):=by rw [Hid,rd,if_neg h2,if_pos h3]
   clear h2 hn
   go_enter Tryz.func125,Tryz.ntmps125
   go_wp2_with fail
   refine(ad8 w A n c l Hn.out hnc hr hb hc).mono ?_
   rintro e w2 ⟨v,rfl,hown,e2⟩
   rw [if_neg HI.out,if_neg HI.out]
   clear hown
   go_wp2_with fail
   go_ret2
   exact aba HR.out e2
  ·have HR:Hid (rd l=rl (val (l.take 2)) (l.drop 2) []):=by rw [Hid,rd,if_neg h2,if_neg h3]
   have hdl:(l.drop 2).length≤150000000000000:=by rw [List.length_drop];omega
   clear h2 hn
   go_enter Tryz.func125,Tryz.ntmps125
   go_wp2_with fail
   refine(ad8 w A n c l Hn.out hnc hr hb hc).mono ?_
   rintro e w2 ⟨v,rfl,hown,e2⟩
   rw [if_neg HI.out,if_neg HI.out]
   rw [if_neg HI.out,if_neg HI.out,←List.length_drop]at hown
   generalize val (l.take 2)=N at *
   generalize l.drop 2=l2 at *
   obtain⟨A2,c2,rfl,hc21,hc22,_⟩:=zr hown
   have hrd2:=(Rd.of_own hown).m0
   simp only [maxLen]at hc22
   clear hown hr hnc hc hb
   go_wp2_with fail
   go_loopw [0,6,23] (fun b o i wr=> ∃(k:Nat) (rest:List UInt8) (out:List ByteArray) (A':Option Addr) (c':Nat),k≤N∧i= .int .i64 k∧b= .slice A' rest.length c'∧rest.length≤c'∧c'≤9223372036854775807∧rest.length≤150000000000000∧Rd w2 0 w2.heap.size A' (bytes rest)∧
    out.length≤k∧wr.ownsRow w2.heap.size 9 1 o out.length (out.map Value.string)∧rl (N - k) rest out=rd l∧Ext w2 wr) (fun _ _ i _=>N - (intOf i).toNat)
   case atStart=>exact⟨0,l2, [],A2,c2,Nat.zero_le _,rfl,rfl,hc21,hc22,hdl,hrd2,Nat.le_refl _,World.ownsRow_nil _ _ _ _,HR.out.symm,Ext.refl _⟩
   case round=>
    clear hrd2 hc21 hc22 hdl
    obtain⟨k,rest,out,A',c',hk,rfl,rfl,hrc,hc',hrl,hrd,hol,hown,hrun,e3⟩:=hrel
    by_cases hlt:k < N
    ·have hNk:N - k=(N - (k+1))+1:=by omega
     rw [hNk,rl]at hrun
     clear hNk
     by_cases r3:rest.length < 3
     ·rw [if_pos r3]at hrun
      have HRun:=hiD hrun.symm
      clear hrun
      go_wp2_with fail
      go_ret2
      exact aba HRun.out (e2.trans e3)
     ·rw [if_neg r3]at hrun
      obtain⟨t1,t2,t3⟩:=ahp rest r3
      have T1:=hiD t1
      have T2:=hiD t2
      have HRun:=hiD hrun
      have HL3:Hid (3=(rest.take 3).length):=by rw [Hid,List.length_take];omega
      have hlen:(bytes rest).length=rest.length * 1:=by rw [yS,Nat.mul_one]
      have hsl: ∀W,(Instr.slice 53 (.slice A' rest.length c') (some (.int .i64 3)) none none).run Tryz.prog W= .ok (.slice (zy A' c' 3 1) (rest.length - 3) (c' - 3)) W:=fun W=>yC W 53 5 j0 1 Tryz.underlying53 hj0 hy1 A' _ c' 3 _ rfl (by omega)
      have hrd3:Rd w2 0 w2.heap.size (zy A' c' 3 1) (bytes (rest.drop 3)):=by
       have:=hrd.from_ hlen (k:=3) (by omega) hrc
       rwa [Nat.mul_one,abj]at this
      have hrt:Rd w2 0 w2.heap.size A' (bytes (rest.take 3)):=by
       have:=hrd.take 3
       rwa [aaC]at this
      have hd3:Hid ((rest.drop 3).length=rest.length - 3):=by rw [Hid,List.length_drop]
      clear hrun t1 t2 hlen hrd
      generalize val (rest.take 3)=q at *
      go_wp2_with fail
      refine(aaI wr A' 3 c' _ _ (rest.take 3) HL3.out (by omega) (hrt.ext e3 (Nat.le_refl _)) e3.size).mono ?_
      rintro e w4 ⟨rfl,e4⟩
      rw [T1.out,T2.out]
      have e5:Ext w2 w4:=blo
      by_cases r4:65536 < q
      ·have HRes:=hiD (by have h:=HRun.out;rw [if_pos r4]at h;exact h.symm:rd l=(5, []))
       go_wp2_with fail
       go_ret2
       exact aba HRes.out (e2.trans e5)
      ·by_cases r5:rest.length - 3 < q
       ·have HRes:=hiD (by have h:=HRun.out;rw [if_neg r4,if_pos (by rw [hd3.out];exact r5)]at h;exact h.symm:rd l=(8, []))
        go_wp2_with fail
        go_ret2
        exact aba HRes.out (e2.trans e5)
       ·have HRes:=hiD (by have h:=HRun.out;rw [if_neg r4,if_neg (by rw [hd3.out];exact r5)]at h;exact h)
        obtain⟨S,hS⟩: ∃S:ByteArray,S=⟨((rest.drop 3).take q).toArray⟩:=⟨_,rfl⟩
        have hr4:=hrd3.ext e5 (Nat.le_refl _)
        have hcv:(convert 53 9 (.slice (zy A' c' 3 1) q (c' - 3))).run Tryz.prog w4= .ok (.string S) w4:=by
         rw [hS]
         refine qB w4 _ _ 5 Tryz.underlying53 Tryz.underlying5 Tryz.underlying9 _ _ _ q _ ((rest.drop 3).take q) ?_ (by have:=hr4.take q;rwa [aaC]at this)
         rw [List.length_take,hd3.out]
         omega
        have hslq: ∀W,(Instr.slice 53 (.slice (zy A' c' 3 1) (rest.length - 3) (c' - 3)) (some (.int .i64 (q:Int))) none none).run Tryz.prog W= .ok (.slice (zy (zy A' c' 3 1) (c' - 3) q 1) (rest.length - 3 - q) (c' - 3 - q)) W:=fun W=>yC W 53 5 j0 1 Tryz.underlying53 hj0 hy1 _ _ _ q _ rfl (by omega)
        have hrq:Rd w2 0 w2.heap.size (zy (zy A' c' 3 1) (c' - 3) q 1) (bytes ((rest.drop 3).drop q)):=by
         have:=hrd3.from_ (n:=rest.length - 3) (k:=q) (c:=c' - 3) (size:=1) (by rw [yS,hd3.out,Nat.mul_one]) (by omega) (by omega)
         rwa [Nat.mul_one,abj]at this
        have hrq4:=hiD hrq
        have HSq:=hiD hS
        have own2:=ab7 hown e4
        have b1:(q:Int)≤((c' - 3:Nat):Int):=by omega
        have b2:(0:Int)≤(q:Int):=by omega
        have b3:(q:Int)≤((rest.length - 3:Nat):Int):=by omega
        have e6:Ext w w4:=e2.trans e5
        clear hS hr4 hrq hrd3 hrt hown e3 e4
        go_wp2_with
         (at_builtin
          refine qR _ rfl (.tmp 44) (.tmp 49) _ rfl 9 i0 _ 1 16 Tryz.underlying109 hi0 hz0 hz1 hz2 rfl (by omega) _ _ out.length _ rfl (own2.alloc _) 0 _ _ 1 1 [.string S] rfl rfl
           ((acX _ _ _).m0) (by simp [Value.oneCell']) (by simp only [maxLen];omega) (by omega) (by have:=e5.size;simp;omega) ?_
          intro v7 w7 hown7 he7 _ _
          have e9:Ext w2 w7:=he7 _ (e5.alloc _) (Nat.le_refl _)
          clear he7 own2)
        go_roundw
        case rel=>
         refine⟨k+1,(rest.drop 3).drop q,out++ [S],_,c' - 3 - q,by omega,by go_num,by rw [List.length_drop,hd3.out],?_,by omega,?_,hrq4.out,?_,?_,?_,e9⟩
         ·rw [List.length_drop,hd3.out];omega
         ·rw [List.length_drop,hd3.out];omega
         ·rw [List.length_append];simp;omega
         ·rw [List.length_append,List.map_append];exact hown7
         ·rw [HSq.out];exact HRes.out
        case measure=>simp [intOf];omega
    ·obtain rfl:k=N:=by omega
     rw [Nat.sub_self,rl]at hrun
     by_cases r0:0 < rest.length
     ·rw [if_pos r0]at hrun
      have HRun:=hiD hrun.symm
      clear hrun
      go_wp2_with fail
      go_ret2
      exact aba HRun.out (e2.trans e3)
     ·rw [if_neg r0]at hrun
      have HRun:=hiD hrun.symm
      clear hrun
      go_wp2_with fail
      go_ret2
      exact⟨_,by rw [HRun.out];rfl,by rw [HRun.out];exact xw hown e2.size,e2.trans e3⟩
abbrev strsV(ts:List ByteArray):List Value:=ts.map Value.string
structure Rdr where
 A:Option Addr
 c:Nat
 ts:List ByteArray
 ok:Bool
def Rdr.cells(x:Rdr):List Value:= [.slice x.A x.ts.length x.c,.bool x.ok]
structure Rdr.may (w:World) (x:Rdr):Prop where
 rd:Rd w 0 w.heap.size x.A (strsV x.ts)
 le:x.ts.length≤x.c
 cap:x.c≤9223372036854775807
 small: ∀s∈x.ts,s.size≤9223372036854775807
theorem agH{w:World}{lo hi:Nat}{A:Option Addr}{s:ByteArray}{r:List ByteArray}(h:Rd w lo hi A (strsV (s::r))): ∃b o,A=some ⟨b,o,none⟩∧w.cell? ⟨b,o,none⟩=some (.string s):=by
 obtain⟨b,o,h1,h2,h3,h4⟩:=h (by simp [strsV])
 exact⟨b,o,h1,by have:=h4 0 _ rfl;simpa using this⟩
def rdT(x:Rdr):ByteArray×List ByteArray×Bool:=match x.ts with
 | []=>(⟨#[]⟩, [],false)
 | s::r=>(s,r,x.ok)
def ank(w0:World)(its:List It)(b i:Nat)(x:Rdr)(v:Value)(l:List ByteArray×Bool)(e:Ending)(w':World):Prop:=
 ∃y:Rdr,e= .returned v∧y.ts=l.1∧y.ok=l.2∧y.may w0∧Heap w0 (its.set i (.box b y.cells)) w'
theorem aaK{w0:World}{its:List It}(w:World)(H:Heap w0 its w)(b i:Nat)(x:Rdr)(hi:its[i]?=some (.box b x.cells))(hx:x.may w0):
 Calls Tryz.prog 194 #[.pointer (some ⟨b,0,none⟩)] w (ank w0 its b i x (.string (rdT x).1) (rdT x).2):=by
 have HI:=hiD hi
 have HH:=hiD H
 clear hi H
 obtain⟨A,c,ts,ok⟩:=x
 obtain⟨h1,h2,h3,h4⟩:=hx
 dsimp only at h1 h2 h3 h4
 have HR:=hiD h1
 have HS:=hiD h4
 clear h1 h4
 simp only [Rdr.cells]at HI
 cases ts with
 | nil=>
   simp only [List.length_nil]at HI h2
   go_enter Tryz.func194,Tryz.ntmps194
   go_wp2_with (first | (refine qM HH.out rfl rfl rfl (i) (HI.out) rfl (by decide+kernel) ?_) | (refine qa HH.out rfl rfl rfl rfl (i) (HI.out) rfl rfl (by kernel_rfl) ?_;clear HH;intro wS HHS;have HH:=hiD HHS;clear HHS))
   go_ret
   exact⟨⟨A,c, [],false⟩,rfl,rfl,rfl,⟨HR.out,Nat.zero_le _,h3,HS.out⟩,HH.out⟩
 | cons s r=>
   obtain⟨i0,hi0,hz0,hz1,hz2⟩:=info_parts abd
   obtain⟨b1,o1,rfl,_⟩:=agH HR.out
   simp only [List.length_cons]at HI h2
   have hf:=HH.out.old HR.out
   obtain⟨b2,o2,he,f0⟩:=agH hf
   cases he
   have hsl: ∀W,(Instr.slice 109 (.slice (some ⟨b1,o1,none⟩) (r.length+1) c) (some (.int .i64 1)) none none).run Tryz.prog W= .ok (.slice (zy (some ⟨b1,o1,none⟩) c 1 1) (r.length+1 - 1) (c - 1)) W:=fun W=>yC W 109 9 i0 1 Tryz.underlying109 hi0 hz1 (some ⟨b1,o1,none⟩) (r.length+1) c 1 1 rfl (by omega)
   have HT:=hiD (show Rd w0 0 w0.heap.size (zy (some ⟨b1,o1,none⟩) c 1 1) (strsV r)by
    have h:=HR.out.from_ (n:=r.length+1) (k:=1) (c:=c) (size:=1) (by simp) (by omega) h2
    simpa using h)
   clear hf
   go_enter Tryz.func194,Tryz.ntmps194
   go_wp2_with (first | (refine qM HH.out rfl rfl rfl (i) (HI.out) rfl (by decide+kernel) ?_) | (refine qa HH.out rfl rfl rfl rfl (i) (HI.out) rfl rfl (by kernel_rfl) ?_;clear HH;intro wS HHS;have HH:=hiD HHS;clear HHS))
   go_ret
   exact⟨⟨zy (some ⟨b1,o1,none⟩) c 1 1,c - 1,r,ok⟩,rfl,rfl,rfl,⟨HT.out,by show r.length≤c - 1;omega,by show c - 1≤_;omega,fun s hs=>HS.out s (by simp [hs])⟩,HH.out⟩
def rdN(x:Rdr):Int×List ByteArray×Bool:=(fV (rdT x).1,(rdT x).2.1,(rdT x).2.2 && fE (rdT x).1 == 0)
theorem alk{w:World}{x:Rdr}(h:x.may w):(rdT x).1.size≤9223372036854775807:=by
 obtain⟨A,c,ts,ok⟩:=x
 cases ts with
 | nil=>exact Nat.zero_le _
 | cons s r=>exact h.small s (by simp)
theorem abM{w0:World}{its:List It}(w:World)(H:Heap w0 its w)(b i:Nat)(x:Rdr)(hi:its[i]?=some (.box b x.cells))(hx:x.may w0):
 Calls Tryz.prog 195 #[.pointer (some ⟨b,0,none⟩)] w (ank w0 its b i x (.int .i64 (rdN x).1) (rdN x).2):=by
 have HI:=hiD hi
 have HT:=hiD (aaK w H b i x hi hx)
 have HF:=hiD (fun W=>acL (rdT x).1 W (alk hx))
 have HN:=hiD (show rdN x=(fV (rdT x).1,(rdT x).2.1,(rdT x).2.2 && fE (rdT x).1 == 0)from rfl)
 clear hi H hx
 generalize rdN x=N at *
 generalize rdT x=T at *
 obtain⟨s,ts',ok'⟩:=T
 dsimp only at HT HF HN
 go_enter Tryz.func195,Tryz.ntmps195
 go_wp2_with fail
 refine HT.out.mono ?_
 rintro e w1 ⟨⟨A1,c1,ts1,ok1⟩,rfl,hy1,hy2,hy3,hy4⟩
 dsimp only at hy1 hy2
 subst hy1 hy2
 have HH:=hiD hy4
 have HM:=hiD hy3
 clear hy3 hy4 HT
 go_wp2_with fail
 refine cX HH (HF.out w1) ?_
 clear HH
 intro w2 HH2
 have HH:=HH2
 clear HH2
 simp only [Rdr.cells]at HH
 have HI2:=hiD (aoV (z:= .box b [.slice A1 ts1.length c1,.bool ok1]) HI.out)
 generalize fE s=E at *
 generalize fV s=V at *
 cases ok1 with
 | false=>
   go_wp2_with (first | (refine qM HH.out rfl rfl rfl (i) (HI2.out) rfl (by decide+kernel) ?_) | (refine qa HH.out rfl rfl rfl rfl (i) (HI2.out) rfl rfl (by kernel_rfl) ?_;clear HH;intro wS HHS;have HH:=hiD HHS;clear HHS))
   go_ret
   have h9:=HH.out
   rw [set_set]at h9
   exact⟨⟨A1,c1,ts1,false⟩,by rw [HN.out];rfl,by rw [HN.out],by rw [HN.out];rfl,HM.out,h9⟩
 | true=>
   by_cases hE:E=0
   ·subst hE
    go_wp2_with (first | (refine qM HH.out rfl rfl rfl (i) (HI2.out) rfl (by decide+kernel) ?_) | (refine qa HH.out rfl rfl rfl rfl (i) (HI2.out) rfl rfl (by kernel_rfl) ?_;clear HH;intro wS HHS;have HH:=hiD HHS;clear HHS))
    go_ret
    have h9:=HH.out
    rw [set_set]at h9
    exact⟨⟨A1,c1,ts1,true⟩,by rw [HN.out];rfl,by rw [HN.out],by rw [HN.out];rfl,HM.out,h9⟩
   ·have hE2:(E == 0)=false:=by simpa using hE
    go_wp2_with (first | (refine qM HH.out rfl rfl rfl (i) (HI2.out) rfl (by decide+kernel) ?_) | (refine qa HH.out rfl rfl rfl rfl (i) (HI2.out) rfl rfl (by kernel_rfl) ?_;clear HH;intro wS HHS;have HH:=hiD HHS;clear HHS))
    go_ret
    have h9:=HH.out
    rw [set_set]at h9
    exact⟨⟨A1,c1,ts1,false⟩,by rw [HN.out];rfl,by rw [HN.out],by rw [HN.out,hE2];rfl,⟨HM.out.rd,HM.out.le,HM.out.cap,HM.out.small⟩,h9⟩
end Go.Proofs.YtckaneapjpiocaaGreatDoor
