/- The texts Obs in one file. -/
import Derived.Test.YtckaneapjpiocaaGreatDoorQ12
set_option linter.unusedVariables false
set_option linter.unusedSimpArgs false
set_option maxHeartbeats 8000000
set_option maxRecDepth 100000
namespace Go.Proofs.YtckaneapjpiocaaGreatDoor
open Go.RowKit Go.Maps Go.Sort Go.Shelf
def noP(Q:Exit→Act→World→Prop):Exit→Act→World→Prop
 | .normal,a,w=>Q .normal a w
 | _,_,_=>False
theorem afx{P:Program}{c:Code}{Q:Exit→Act→World→Prop}{a:Act}{w:World}(h:c.wp P (noP Q) a w):c.wp P Q a w:=
 Code.wp_mono (fun e a w h=>by cases e <;> first | exact h | exact h.elim) h
theorem aco:(Tryz.prog.info? 56).map (fun i=>(i.zero,i.size,i.bytes))=some (some (.agg #[.string .empty,.slice none 0 0,.slice none 0 0]),3,64):=by kernel_rfl
def zL:Loc:=⟨none,0,0, []⟩
def obk(o:Ob):ByteArray×List UInt8×Loc:=(o.key,o.data.xs,o.locs)
def yg(o:Ob):It:= .row 5 1 (.slice o.data.A o.data.n o.data.c) o.data.n (bytes o.data.xs)
abbrev otr(b:Nat)(A:Option Addr)(c:Nat)(os:List Ob)(its:List It):List It:= .box b [.slice A os.length c]:: .row 56 3 (.slice A os.length c) os.length (os.flatMap Ob.cells)::(its++os.map yg)
theorem afG{w0 w:World}{b:Nat}{A:Option Addr}{c:Nat}{os:List Ob}{its:List It}{o:Ob}(H:Heap w0 (yg o:: .box b [.slice A (os.length+1) c]:: .row 56 3 (.slice A (os.length+1) c) (os.length+1) (os.flatMap Ob.cells++o.cells)::(its++os.map yg)) w):Heap w0 (otr b A c (os++ [o]) its) w:=by
 have h:=H.back
 have e:otr b A c (os++ [o]) its=(.box b [.slice A (os.length+1) c]:: .row 56 3 (.slice A (os.length+1) c) (os.length+1) (os.flatMap Ob.cells++o.cells)::(its++os.map yg))++ [yg o]:=by
  simp [otr,List.append_assoc]
 rw [e]
 exact h
theorem Heap.drop1{w0 w:World}{x y:It}{its:List It}(H:Heap w0 (x::y::its) w):Heap w0 (x::its) w:=by
 refine H.sub' (fun i=>if i < 1 then i else i+1) (fun i j e=>?_) fun i z hz=>?_
 ·split at e <;> split at e <;> omega
 ·match i with
  | 0=>exact hz
  | i+1=>
    rw [if_neg (by omega)]
    exact hz
theorem Heap.pre{w0 w:World}{a b:List It}(H:Heap w0 (a++b) w):Heap w0 a w:=
 H.sub' id (fun _ _ e=>e) fun i x h=>by
  have hl:=(List.getElem?_eq_some_iff.1 h).1
  show(a++b)[i]?=some x
  rw [List.getElem?_append_left hl];exact h
def obL(t:Tnt):List (ByteArray×List UInt8×Loc):=(qF t).map fun p=>(p.1,zu p.2,zL)
theorem ag7{α β:Type}(f:α→β)(l:List α)(k:Nat)(h:k < l.length):(l.take (k+1)).map f=(l.take k).map f++ [f l[k]]:=by
 rw [List.take_succ_eq_append_getElem h,List.map_append];rfl
def afl(w:World)(t:Tnt)(e:Ending)(w':World):Prop:=
 (zH t=false∧e= .returned (.tuple #[.slice none 0 0,.int .i64 9])∧Ext w w')∨
 (zH t=true∧ ∃(A:Option Addr) (c:Nat) (os:List Ob),e= .returned (.tuple #[.slice A os.length c,.int .i64 0])∧os.map obk=obL t∧Heap w (.row 56 3 (.slice A os.length c) os.length (os.flatMap Ob.cells)::os.map yg) w')
theorem ahl(w:World)(t:Tnt)(h:Tnt.At w 0 w.heap.size t)
 (hC: ∀W,Ext w W→Calls Tryz.prog 36 #[.agg t.cells.toArray] W fun e w'=>e= .returned (.int .i64 (yt t))∧Ext W w'):
 Calls Tryz.prog 14 #[.agg t.cells.toArray] w (afl w t):=by
 obtain⟨i0,hi0,hz0,hz1,hz2⟩:=info_parts aco
 have HC:=hiD hC
 clear hC
 by_cases ht:zH t=true
 ·have hT0:yt t=0:=by rw [yt,if_pos ht]
  rw [hT0]at HC
  have hfit:=afC t ht
  have h2:=ht
  simp only [zH,Bool.and_eq_true,decide_eq_true_eq]at h2
  obtain⟨hn,_,_,hs,hg,hst,hl,hl2⟩:=h2
  simp only [yV,Bool.and_eq_true,List.all_eq_true,decide_eq_true_eq]at hs
  simp only [xM,Bool.and_eq_true,List.all_eq_true,decide_eq_true_eq]at hst
  have hg2:=hg
  simp only [grB,Bool.and_eq_true,decide_eq_true_eq]at hg2
  have HHe:=hiD (fun W (hW:Ext w W)=>amo W t (Tnt.At.on h hW (Nat.le_refl _)) (by rw [h.grants.len];exact hg2.1) (by rw [h.log.len];exact hl) (hfit _ (by rw [qF];exact List.mem_cons_self ..)))
  have HSe:=hiD (fun(k:Nat) (hk:k < t.sets.xs.length) W (hW:Ext w W)=>aom W t.name t.sets.xs[k] (Dst.At.on (h.sets.all _ (List.getElem_mem hk)) hW (Nat.le_refl _))
   (by have:=hs.2.2.1 _ (List.getElem_mem hk);simp only [seB,Bool.and_eq_true,decide_eq_true_eq]at this;exact this.2.2.2.1)
   (fun y hy=>by
     have:=hs.2.2.1 _ (List.getElem_mem hk)
     simp only [seB,xF,Bool.and_eq_true,decide_eq_true_eq,List.all_eq_true]at this
     have:=this.2.2.2.2.1.2.1 y hy
     simp only [snB,Bool.and_eq_true,decide_eq_true_eq]at this
     exact this.2.1)
   (hfit _ (by rw [qF];exact List.mem_cons_of_mem _ (List.mem_append_left _ (List.mem_map.2 ⟨_,List.getElem_mem hk,rfl⟩)))) h.name)
  have HSg:=hiD (fun(k:Nat) (hk:k < t.stages.xs.length) W (hW:Ext w W)=>aj1 W t.name t.stages.xs[k] (Stg.At.on (h.stages.all _ (List.getElem_mem hk)) hW (Nat.le_refl _))
   (by have:=hst.2.1 _ (List.getElem_mem hk);simp only [stB,Bool.and_eq_true,decide_eq_true_eq]at this;exact this.2.2.2.2.1)
   (by have:=hst.2.1 _ (List.getElem_mem hk);simp only [stB,Bool.and_eq_true,decide_eq_true_eq]at this;exact this.2.2.2.1)
   (hfit _ (by rw [qF];exact List.mem_cons_of_mem _ (List.mem_append_right _ (List.mem_map.2 ⟨_,List.getElem_mem hk,rfl⟩)))) h.name)
  have HSa:=hiD h.sets
  have HTa:=hiD h.stages
  have HB1:=hiD hs.1
  have HB2:=hiD hst.1
  have HOut:=hiD (fun e w' (A:Option Addr) (c:Nat) (os:List Ob) (h1:e= .returned (.tuple #[.slice A os.length c,.int .i64 0])) (h2:os.map obk=obL t) (h3:Heap w (.row 56 3 (.slice A os.length c) os.length (os.flatMap Ob.cells)::os.map yg) w')=>show afl w t e w' from .inr ⟨ht,A,c,os,h1,h2,h3⟩)
  have HL:=hiD (show obL t=(zJ [kT,t.name],zu (xK t),zL)::(t.sets.xs.map (fun s:Dst=>(zJ [kS,t.name,s.path],zu (yo s),zL))++t.stages.xs.map (fun s:Stg=>(zJ [kG,t.name,s.into],zu (yl s),zL)))by
   simp only [obL,qF,List.map_cons,List.map_append,List.map_map];rfl)
  generalize afl w t=OO at *
  generalize obL t=OL at *
  generalize xK t=HT at *
  clear h hn hs hg hst hl hl2 hg2 hfit ht hT0
  obtain⟨name,quota,next,⟨sA,sn,sc,ss⟩,⟨gA,gn,gc,gs⟩,⟨aA,an,ac,ax⟩,⟨lA,ln,lc,ls⟩⟩:=t
  have Hsn:=hiD (show sn=ss.length from HSa.out.len)
  have Han:=hiD (show an=ax.length from HTa.out.len)
  dsimp only at HSe HSg HSa HTa HB1 HB2 HL HHe
  have hs32:sn≤32:=by rw [Hsn.out];exact HB1.out
  have ha4:an≤4:=by rw [Han.out];exact HB2.out
  simp only [Tnt.cells,Sl.val]at *
  go_enter_defers Tryz.func14,Tryz.ntmps14
  go_upto_region 1 with fail
  generalize hwH:World.alloc (World.alloc (World.alloc w _) _) _=w1;have HH:=hiD (Heap.three hwH);clear hwH
  obtain⟨eb,heb⟩: ∃b,b=w.heap.size+1+1:=⟨_,rfl⟩
  obtain⟨lb,hlb⟩: ∃b,b=w.heap.size+1:=⟨_,rfl⟩
  obtain⟨tb,htb⟩: ∃b,b=w.heap.size:=⟨_,rfl⟩
  rw [←heb,←hlb,←htb]at HH ⊢
  clear heb hlb htb
  go_upto_region 5 with(first | (refine lSX HH zt 2 ?_) | (go_at_call 36;(with_reducible refine(HC.out _ HH.out.ext).mono ?_);rintro e wC ⟨rfl,eC⟩;replace HH:=hiD (HH.out.later eC);clear eC))
  have HH2:=hiD (show Heap w (otr lb none 0 [] [.box eb [.int .i64 0],.box tb [.string name,.int .i64 quota,.int .i64 next,.slice sA sn sc,.slice gA gn gc,.slice aA an ac,.slice lA ln lc]]) _ from
   (show Heap w (.row 56 3 (.slice none 0 0) 0 []::([.box lb [.slice none 0 0]]++ [.box eb [.int .i64 0],.box tb [.string name,.int .i64 quota,.int .i64 next,.slice sA sn sc,.slice gA gn gc,.slice aA an ac,.slice lA ln lc]])) _ from(HH.out.drew.pick [1,0,2] (by decide) rfl rfl).row0).mid)
  clear HH
  have HHd:=HH2
  clear HH2
  refine afx ?_
  refine qe (fun k=>Nat.blt k 5) (S:=Heap w [.box lb [.slice none 0 0],.box tb [.string name,.int .i64 quota,.int .i64 next,.slice sA sn sc,.slice gA gn gc,.slice aA an ac,.slice lA ln lc]]) (by kernel_rfl) (HHd.out.pair 0 3 rfl rfl rfl) (fun hHeld=>?_)
  generalize World.drew _=wd at *
  refine mG 0 rfl (fun wT hST=>zk hST rfl rfl 0 rfl rfl (by kernel_rfl)) hHeld ?_;refine lyX ?_
  refine mG 1 rfl (fun wT hST=>zj hST zt (by kernel_rfl) rfl rfl 1 rfl (Nat.le_of_ble_eq_true rfl)) hHeld ?_;refine lyX ?_
  clear hHeld
  refine oMX 2 (fun K hK=>?_);(try go_simp)
  refine(HHe.out _ HHd.out.ext).mono ?_
  rintro e w4 ⟨A4,m4,c4,rfl,hown4,hm4,e4⟩
  have HH4:=hiD (HHd.out.addRow e4 hown4)
  clear HHd hown4 hm4 e4
  go_wp2_with fail
  refine hK.out _ _ (HH4.out.pair 1 4 rfl rfl rfl) (fun hHeld=>?_)
  clear hK K hHeld
  refine lyX ?_
  refine oMX 3 (fun K hK=>?_);(try go_simp)
  generalize hwA:World.alloc _ _=w5
  have HH5:=hiD (HH4.out.allocE hwA)
  clear hwA HH4
  refine hK.out _ _ (HH5.out.pair 2 5 rfl rfl rfl) (fun hHeld=>?_)
  clear hK K hHeld
  refine lyX ?_
  refine fMX 4 (fun K hK=>?_)
  refine zO (.tmp 15) (.tmp 18) _ rfl Tryz.underlying33 hi0 hz0 hz1 hz2 rfl (by omega) HH5.out 3 rfl rfl (m:=1) rfl rfl ((HH5.out.boxRd 0 rfl).m0) (by simp [Value.oneCell']) (by simp [maxLen]) (by simp) ?_
  rintro v6 w6 hh6 ⟨A6,c6,rfl⟩
  have HH6:=hiD hh6.tail
  clear hh6 HH5
  refine hK.out _ _ ?_;clear hK K;refine lyX ?_
  refine fMX 5 (fun K hK=>?_)
  refine z8 HH6.out rfl rfl rfl 1 rfl (Nat.le_of_ble_eq_true rfl) rfl (by kernel_rfl) ?_
  intro w7 hh7
  refine hK.out _ _ ?_;clear hK K;refine lyX ?_
  refine xD (by kernel_rfl) ?_
  simp only [noP]
  obtain⟨o1,ho1⟩: ∃o1:Ob,o1=⟨zJ [kT,name],⟨A4,m4,c4,zu HT⟩,zL⟩:=⟨_,rfl⟩
  have HH:=hiD (show Heap w (otr lb A6 c6 ([]++ [o1]) [.box eb [.int .i64 0],.box tb [.string name,.int .i64 quota,.int .i64 next,.slice sA sn sc,.slice gA gn gc,.slice aA an ac,.slice lA ln lc]]) w7 from afG (by rw [ho1];exact hh7))
  have HO1:=hiD (show([]++ [o1]).map obk=(zJ [kT,name],zu HT,zL)::(ss.take 0).map (fun s:Dst=>(zJ [kS,name,s.path],zu (yo s),zL))by rw [ho1];rfl)
  clear hh7 HH6 ho1
  generalize []++ [o1]=os1 at *
  obtain⟨HD,hHD⟩: ∃HD:ByteArray×List UInt8×Loc,HD=(zJ [kT,name],zu HT,zL):=⟨_,rfl⟩
  rw [←hHD]at HO1 HL
  clear hHD
  go_upto_region 7 with(refine l1X HH 3 ?_)
  go_loopw [6,23] (fun _ i wr=> ∃k:Nat,k≤sn∧i= .int .i64 k∧ ∃A c os,Hid (Heap w (otr lb A c os [.box eb [.int .i64 0],.box tb [.string name,.int .i64 quota,.int .i64 next,.slice sA sn sc,.slice gA gn gc,.slice aA an ac,.slice lA ln lc]]) wr)∧Hid (os.map obk=HD::(ss.take k).map (fun s:Dst=>(zJ [kS,name,s.path],zu (yo s),zL)))) (fun _ i _=>sn - (intOf i).toNat)
  case atStart=>exact⟨0,Nat.zero_le _,rfl,_,_,_,HH,HO1⟩
  case round=>
   clear HH HO1
   obtain⟨k,hk,rfl,A,c,os,HH,HO⟩:=hrel
   have hol:os.length≤40:=by
    have q:=congrArg List.length HO.out
    have q2:=HB1.out
    rw [←Hsn.out]at q2
    simp only [List.length_map,List.length_cons,List.length_take]at q
    omega
   by_cases hlt:k < sn
   ·have l1:k < ss.length:=by rw [←Hsn.out];exact hlt
    obtain⟨b1,o1,hA1,_,hb1,G⟩:=zh (size:=5) (fun _=>rfl) (by omega) HSa.out.rd l1
    dsimp only at hA1
    subst hA1
    have HCa:=hiD (HSe.out k l1)
    have HS:=hiD (ag7 (fun s:Dst=>(zJ [kS,name,s.path],zu (yo s),zL)) ss k l1)
    have HGw:=hiD (fun j u hu=>(Below.cell HH.out.ext hb1).trans (G j u hu))
    clear G
    (try dsimp only at HS)
    generalize (ss.take k).map (fun s:Dst=>(zJ [kS,name,s.path],zu (yo s),zL))=Y at *
    generalize ss[k]=x at *
    generalize hDT:zu (yo x)=DT at *
    clear hDT
    obtain⟨path,orig,⟨bA,bn,bc,bd⟩,⟨fA,fn,fc,fs⟩,⟨pA,pn,pc,ps⟩⟩:=x
    simp only [Dst.cells,Sl.val]at HCa HGw
    (try dsimp only at HCa)
    (try dsimp only at HS)
    have hkn:(k:Int) < (sn:Int):=by omega
    go_upto_region 9 with(first | (refine yF HGw.out rfl xq (by kernel_rfl) rfl rfl rfl ?_) | (refine sSX (hiD (HH.out.alloc _ _)) xq 0 ?_;clear HH;intro wS HH))
    obtain⟨xb,hxb⟩: ∃b,b=wr.heap.size:=⟨_,rfl⟩
    rw [←hxb]at HH ⊢
    clear hxb HGw
    have HHd:=hiD (show Heap w (.box xb [.string path,.string orig,.slice bA bn bc,.slice fA fn fc,.slice pA pn pc]::otr lb A c os [.box eb [.int .i64 0],.box tb [.string name,.int .i64 quota,.int .i64 next,.slice (some ⟨b1,o1,none⟩) sn sc,.slice gA gn gc,.slice aA an ac,.slice lA ln lc]]) _ from HH.out.drew)
    clear HH
    have HPk:=hiD (fun W (q:Heap w (.box xb [.string path,.string orig,.slice bA bn bc,.slice fA fn fc,.slice pA pn pc]::otr lb A c os [.box eb [.int .i64 0],.box tb [.string name,.int .i64 quota,.int .i64 next,.slice (some ⟨b1,o1,none⟩) sn sc,.slice gA gn gc,.slice aA an ac,.slice lA ln lc]]) W)=>show Heap w [.box lb [.slice A os.length c],.box tb [.string name,.int .i64 quota,.int .i64 next,.slice (some ⟨b1,o1,none⟩) sn sc,.slice gA gn gc,.slice aA an ac,.slice lA ln lc],.box xb [.string path,.string orig,.slice bA bn bc,.slice fA fn fc,.slice pA pn pc]] W from
     (show Heap w ([.box xb [.string path,.string orig,.slice bA bn bc,.slice fA fn fc,.slice pA pn pc],.box lb [.slice A os.length c],.row 56 3 (.slice A os.length c) os.length (os.flatMap Ob.cells),.box eb [.int .i64 0],.box tb [.string name,.int .i64 quota,.int .i64 next,.slice (some ⟨b1,o1,none⟩) sn sc,.slice gA gn gc,.slice aA an ac,.slice lA ln lc]]++os.map yg) W from q).pre.pick [1,4,0] (by decide) rfl rfl)
    refine afx ?_
    refine qe (fun k=>Nat.blt k 7) (S:=Heap w [.box lb [.slice A os.length c],.box tb [.string name,.int .i64 quota,.int .i64 next,.slice (some ⟨b1,o1,none⟩) sn sc,.slice gA gn gc,.slice aA an ac,.slice lA ln lc],.box xb [.string path,.string orig,.slice bA bn bc,.slice fA fn fc,.slice pA pn pc]]) (by kernel_rfl) (HPk.out _ HHd.out) (fun hHeld=>?_)
    generalize World.drew _=wd at *
    refine mG 0 rfl (fun wT hST=>zk hST rfl rfl 0 rfl rfl (by kernel_rfl)) hHeld ?_;refine lyX ?_
    refine tM 1 1 ?_
    refine mG 2 rfl (fun wT hST=>zk hST rfl rfl 1 rfl rfl (by kernel_rfl)) hHeld ?_;refine lyX ?_
    refine mG 3 rfl (fun wT hST=>zj hST xq (by kernel_rfl) rfl rfl 2 rfl (Nat.le_of_ble_eq_true rfl)) hHeld ?_;refine lyX ?_
    clear hHeld
    refine oMX 4 (fun K hK=>?_);(try go_simp)
    refine(HCa.out _ HHd.out.ext).mono ?_
    rintro e w4 ⟨A4,m4,c4,rfl,hown4,hm4,e4⟩
    have HH4:=hiD (HHd.out.addRow e4 hown4)
    clear HHd hown4 hm4 e4
    go_wp2_with fail
    refine hK.out _ _ (HPk.out _ HH4.out.tail) (fun hHeld=>?_)
    clear hK K hHeld
    refine lyX ?_
    refine oMX 5 (fun K hK=>?_);(try go_simp)
    generalize hwA:World.alloc _ _=w5
    have HH5:=hiD (HH4.out.allocE hwA)
    clear hwA HH4
    refine hK.out _ _ (HPk.out _ HH5.out.tail.tail) (fun hHeld=>?_)
    clear hK K hHeld HPk
    refine lyX ?_
    refine fMX 6 (fun K hK=>?_)
    refine zO (.tmp 27) (.tmp 32) _ rfl Tryz.underlying33 hi0 hz0 hz1 hz2 rfl (by omega) HH5.out 4 rfl rfl (m:=1) rfl rfl ((HH5.out.boxRd 0 rfl).m0) (by simp [Value.oneCell']) (by simp only [maxLen];omega) (by omega) ?_
    rintro v6 w6 hh6 ⟨A6,c6,rfl⟩
    have HH6:=hiD hh6.tail
    clear hh6 HH5
    refine hK.out _ _ ?_;clear hK K;refine lyX ?_
    refine fMX 7 (fun K hK=>?_)
    refine z8 HH6.out rfl rfl rfl 2 rfl (Nat.le_of_ble_eq_true rfl) rfl (by kernel_rfl) ?_
    intro w7 hh7
    refine hK.out _ _ ?_;clear hK K;refine lyX ?_
    refine xD (by kernel_rfl) ?_
    simp only [noP]
    have HH:=hiD (show Heap w (otr lb A6 c6 (os++ [(⟨zJ [kS,name,path],⟨A4,m4,c4,DT⟩,zL⟩:Ob)]) [.box eb [.int .i64 0],.box tb [.string name,.int .i64 quota,.int .i64 next,.slice (some ⟨b1,o1,none⟩) sn sc,.slice gA gn gc,.slice aA an ac,.slice lA ln lc]]) w7 from afG (Heap.drop1 hh7))
    have HO2:=hiD (show(os++ [(⟨zJ [kS,name,path],⟨A4,m4,c4,DT⟩,zL⟩:Ob)]).map obk=HD::(Y++ [(zJ [kS,name,path],DT,zL)])by rw [List.map_append,HO.out];rfl)
    clear hh7 HH6 HO
    go_wp2_with fail
    go_roundw
    case rel=>exact⟨k+1,by omega,by go_num,A6,c6,_,HH,by rw [HS.out];exact HO2⟩
    case measure=>simp [intOf];omega
   ·obtain rfl:k=sn:=by omega
    have ht:ss.take k=ss:=List.take_of_length_le (by rw [←Hsn.out];exact Nat.le_refl _)
    rw [ht]at HO
    clear ht
    have HSl:=hiD (show(ss.map fun s:Dst=>(zJ [kS,name,s.path],zu (yo s),zL)).length≤32 by rw [List.length_map];exact HB1.out)
    generalize (ss.map fun s:Dst=>(zJ [kS,name,s.path],zu (yo s),zL))=SL at *
    have HO1:=hiD (show os.map obk=HD::(SL++(ax.take 0).map (fun s:Stg=>(zJ [kG,name,s.into],zu (yl s),zL)))by simpa using HO.out)
    clear HO hol
    go_upto_region 12 with(refine l1X HH 3 ?_)
    go_loopw [8,38] (fun _ i wr=> ∃j:Nat,j≤an∧i= .int .i64 j∧ ∃A c os,Hid (Heap w (otr lb A c os [.box eb [.int .i64 0],.box tb [.string name,.int .i64 quota,.int .i64 next,.slice sA k sc,.slice gA gn gc,.slice aA an ac,.slice lA ln lc]]) wr)∧Hid (os.map obk=HD::(SL++(ax.take j).map (fun s:Stg=>(zJ [kG,name,s.into],zu (yl s),zL))))) (fun _ i _=>an - (intOf i).toNat)
    case atStart=>exact⟨0,Nat.zero_le _,rfl,_,_,_,HH,HO1⟩
    case round=>
     clear HH HO1
     obtain⟨j,hj,rfl,A,c,os,HH,HO⟩:=hrel
     have hol:os.length≤40:=by
      have q:=congrArg List.length HO.out
      have q2:=HB2.out
      have q3:=HSl.out
      rw [←Han.out]at q2
      simp only [List.length_map,List.length_cons,List.length_append,List.length_take]at q
      omega
     by_cases hlt:j < an
     ·have l1:j < ax.length:=by rw [←Han.out];exact hlt
      obtain⟨b1,o1,hA1,_,hb1,G⟩:=zh (size:=21) (fun _=>rfl) (by omega) HTa.out.rd l1
      dsimp only at hA1
      subst hA1
      have HCa:=hiD (HSg.out j l1)
      have HS:=hiD (ag7 (fun s:Stg=>(zJ [kG,name,s.into],zu (yl s),zL)) ax j l1)
      have HGw:=hiD (fun i u hu=>(Below.cell HH.out.ext hb1).trans (G i u hu))
      clear G
      (try dsimp only at HS)
      generalize (ax.take j).map (fun s:Stg=>(zJ [kG,name,s.into],zu (yl s),zL))=Y at *
      generalize ax[j]=x at *
      generalize hDT:zu (yl x)=DT at *
      clear hDT
      obtain⟨into,⟨rk,rn,rf,rg,rA,rm,rc,rw_,ri,ro,rd,r0,r1,r2,r3⟩,bA,bn,bc,bd,po,nx,⟨u0,u1,u2,u3⟩,dn⟩:=x
      have HGc:=hiD (show∀i u,([.string into,.int .i64 rk,.string rn,.int .i64 rf,.int .i64 rg,.slice rA rm rc,.int .i64 ri,.int .i64 ro,.string rd,.int .u64 r0,.int .u64 r1,.int .u64 r2,.int .u64 r3,.slice bA bn bc,.int .i64 po,.int .i64 nx,.int .u64 u0,.int .u64 u1,.int .u64 u2,.int .u64 u3,.bool dn]:List Value)[i]?=some u→wr.cell? ⟨b1,o1+j * 21+i,none⟩=some u from HGw.out)
      clear HGw
      simp only [Stg.cells,Rec.cells,Su.cells,List.cons_append,List.nil_append]at HCa
      (try dsimp only at HCa)
      (try dsimp only at HS)
      have hkn:(j:Int) < (an:Int):=by omega
      go_upto_region 14 with(first | (refine yF HGc.out rfl xT (by kernel_rfl) rfl rfl rfl ?_) | (refine sSX (hiD (HH.out.alloc _ _)) xT 0 ?_;clear HH;intro wS HH))
      obtain⟨xb,hxb⟩: ∃b,b=wr.heap.size:=⟨_,rfl⟩
      rw [←hxb]at HH ⊢
      clear hxb HGc
      have HHd:=hiD (show Heap w (.box xb [.string into,.int .i64 rk,.string rn,.int .i64 rf,.int .i64 rg,.slice rA rm rc,.int .i64 ri,.int .i64 ro,.string rd,.int .u64 r0,.int .u64 r1,.int .u64 r2,.int .u64 r3,.slice bA bn bc,.int .i64 po,.int .i64 nx,.int .u64 u0,.int .u64 u1,.int .u64 u2,.int .u64 u3,.bool dn]::otr lb A c os [.box eb [.int .i64 0],.box tb [.string name,.int .i64 quota,.int .i64 next,.slice sA k sc,.slice gA gn gc,.slice (some ⟨b1,o1,none⟩) an ac,.slice lA ln lc]]) _ from HH.out.drew)
      clear HH
      have HPk:=hiD (fun W (q:Heap w (.box xb [.string into,.int .i64 rk,.string rn,.int .i64 rf,.int .i64 rg,.slice rA rm rc,.int .i64 ri,.int .i64 ro,.string rd,.int .u64 r0,.int .u64 r1,.int .u64 r2,.int .u64 r3,.slice bA bn bc,.int .i64 po,.int .i64 nx,.int .u64 u0,.int .u64 u1,.int .u64 u2,.int .u64 u3,.bool dn]::otr lb A c os [.box eb [.int .i64 0],.box tb [.string name,.int .i64 quota,.int .i64 next,.slice sA k sc,.slice gA gn gc,.slice (some ⟨b1,o1,none⟩) an ac,.slice lA ln lc]]) W)=>show Heap w [.box lb [.slice A os.length c],.box tb [.string name,.int .i64 quota,.int .i64 next,.slice sA k sc,.slice gA gn gc,.slice (some ⟨b1,o1,none⟩) an ac,.slice lA ln lc],.box xb [.string into,.int .i64 rk,.string rn,.int .i64 rf,.int .i64 rg,.slice rA rm rc,.int .i64 ri,.int .i64 ro,.string rd,.int .u64 r0,.int .u64 r1,.int .u64 r2,.int .u64 r3,.slice bA bn bc,.int .i64 po,.int .i64 nx,.int .u64 u0,.int .u64 u1,.int .u64 u2,.int .u64 u3,.bool dn]] W from
       (show Heap w ([.box xb [.string into,.int .i64 rk,.string rn,.int .i64 rf,.int .i64 rg,.slice rA rm rc,.int .i64 ri,.int .i64 ro,.string rd,.int .u64 r0,.int .u64 r1,.int .u64 r2,.int .u64 r3,.slice bA bn bc,.int .i64 po,.int .i64 nx,.int .u64 u0,.int .u64 u1,.int .u64 u2,.int .u64 u3,.bool dn],.box lb [.slice A os.length c],.row 56 3 (.slice A os.length c) os.length (os.flatMap Ob.cells),.box eb [.int .i64 0],.box tb [.string name,.int .i64 quota,.int .i64 next,.slice sA k sc,.slice gA gn gc,.slice (some ⟨b1,o1,none⟩) an ac,.slice lA ln lc]]++os.map yg) W from q).pre.pick [1,4,0] (by decide) rfl rfl)
      refine afx ?_
      refine qe (fun k=>Nat.blt k 7) (S:=Heap w [.box lb [.slice A os.length c],.box tb [.string name,.int .i64 quota,.int .i64 next,.slice sA k sc,.slice gA gn gc,.slice (some ⟨b1,o1,none⟩) an ac,.slice lA ln lc],.box xb [.string into,.int .i64 rk,.string rn,.int .i64 rf,.int .i64 rg,.slice rA rm rc,.int .i64 ri,.int .i64 ro,.string rd,.int .u64 r0,.int .u64 r1,.int .u64 r2,.int .u64 r3,.slice bA bn bc,.int .i64 po,.int .i64 nx,.int .u64 u0,.int .u64 u1,.int .u64 u2,.int .u64 u3,.bool dn]]) (by kernel_rfl) (HPk.out _ HHd.out) (fun hHeld=>?_)
      generalize World.drew _=wd at *
      refine mG 0 rfl (fun wT hST=>zk hST rfl rfl 0 rfl rfl (by kernel_rfl)) hHeld ?_;refine lyX ?_
      refine tM 1 1 ?_
      refine mG 2 rfl (fun wT hST=>zk hST rfl rfl 1 rfl rfl (by kernel_rfl)) hHeld ?_;refine lyX ?_
      refine mG 3 rfl (fun wT hST=>zj hST xT (by kernel_rfl) rfl rfl 2 rfl (Nat.le_of_ble_eq_true rfl)) hHeld ?_;refine lyX ?_
      clear hHeld
      refine oMX 4 (fun K hK=>?_);(try go_simp)
      refine(HCa.out _ HHd.out.ext).mono ?_
      rintro e w4 ⟨A4,m4,c4,rfl,hown4,hm4,e4⟩
      have HH4:=hiD (HHd.out.addRow e4 hown4)
      clear HHd hown4 hm4 e4
      go_wp2_with fail
      refine hK.out _ _ (HPk.out _ HH4.out.tail) (fun hHeld=>?_)
      clear hK K hHeld
      refine lyX ?_
      refine oMX 5 (fun K hK=>?_);(try go_simp)
      generalize hwA:World.alloc _ _=w5
      have HH5:=hiD (HH4.out.allocE hwA)
      clear hwA HH4
      refine hK.out _ _ (HPk.out _ HH5.out.tail.tail) (fun hHeld=>?_)
      clear hK K hHeld HPk
      refine lyX ?_
      refine fMX 6 (fun K hK=>?_)
      refine zO (.tmp 42) (.tmp 47) _ rfl Tryz.underlying33 hi0 hz0 hz1 hz2 rfl (by omega) HH5.out 4 rfl rfl (m:=1) rfl rfl ((HH5.out.boxRd 0 rfl).m0) (by simp [Value.oneCell']) (by simp only [maxLen];omega) (by omega) ?_
      rintro v6 w6 hh6 ⟨A6,c6,rfl⟩
      have HH6:=hiD hh6.tail
      clear hh6 HH5
      refine hK.out _ _ ?_;clear hK K;refine lyX ?_
      refine fMX 7 (fun K hK=>?_)
      refine z8 HH6.out rfl rfl rfl 2 rfl (Nat.le_of_ble_eq_true rfl) rfl (by kernel_rfl) ?_
      intro w7 hh7
      refine hK.out _ _ ?_;clear hK K;refine lyX ?_
      refine xD (by kernel_rfl) ?_
      simp only [noP]
      have HH:=hiD (show Heap w (otr lb A6 c6 (os++ [(⟨zJ [kG,name,into],⟨A4,m4,c4,DT⟩,zL⟩:Ob)]) [.box eb [.int .i64 0],.box tb [.string name,.int .i64 quota,.int .i64 next,.slice sA k sc,.slice gA gn gc,.slice (some ⟨b1,o1,none⟩) an ac,.slice lA ln lc]]) w7 from afG (Heap.drop1 hh7))
      have HO2:=hiD (show(os++ [(⟨zJ [kG,name,into],⟨A4,m4,c4,DT⟩,zL⟩:Ob)]).map obk=HD::(SL++(Y++ [(zJ [kG,name,into],DT,zL)]))by rw [List.map_append,HO.out];simp;rfl)
      clear hh7 HH6 HO
      go_wp2_with fail
      go_roundw
      case rel=>exact⟨j+1,by omega,by go_num,A6,c6,_,HH,by rw [HS.out];exact HO2⟩
      case measure=>simp [intOf];omega
     ·obtain rfl:j=an:=by omega
      have ht:ax.take j=ax:=List.take_of_length_le (by rw [←Han.out];exact Nat.le_refl _)
      rw [ht,←HL.out]at HO
      clear ht
      go_wp2_with (first | (refine l1X HH 0 ?_) | (refine s1X HH 0 ?_;clear HH;intro wS HH) | (refine s1X HH 2 ?_;clear HH;intro wS HH))
      refine anw HH.out (i:=0) (j:=2) rfl rfl rfl rfl ?_
      intro w9 h9
      refine HOut.out _ _ A c os rfl HO.out ?_
      exact Heap.drop1 (Heap.drop1 (Heap.tail h9))
 ·have ht:zH t=false:=by simpa using ht
  have hT9:yt t=9:=by rw [yt,ht];rfl
  rw [hT9]at HC
  have HOut:=hiD (fun e w' (h1:e= .returned (.tuple #[.slice none 0 0,.int .i64 9])) (h2:Ext w w')=>show afl w t e w' from .inl ⟨ht,h1,h2⟩)
  generalize afl w t=OO at *
  clear h ht hT9
  obtain⟨name,quota,next,⟨sA,sn,sc,ss⟩,⟨gA,gn,gc,gs⟩,⟨aA,an,ac,ax⟩,⟨lA,ln,lc,ls⟩⟩:=t
  simp only [Tnt.cells,Sl.val]at *
  go_enter_defers Tryz.func14,Tryz.ntmps14
  go_upto_region 1 with fail
  generalize hwH:World.alloc (World.alloc (World.alloc w _) _) _=w1;have HH:=hiD (Heap.three hwH);clear hwH
  go_wp2_with (first | (refine lSX HH zt 2 ?_) | (go_at_call 36;(with_reducible refine(HC.out _ HH.out.ext).mono ?_);rintro e wC ⟨rfl,eC⟩;replace HH:=hiD (HH.out.later eC);clear eC) | (refine s1X HH 1 ?_;clear HH;intro wS HH) | (refine s1X HH 0 ?_;clear HH;intro wS HH))
  refine ahP (by kernel_rfl) (by kernel_rfl) HH.out rfl rfl rfl 1 0 rfl rfl ?_
  exact HOut.out _ _ rfl HH.out.ext
end Go.Proofs.YtckaneapjpiocaaGreatDoor
