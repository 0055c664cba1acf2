/- The texts Sg, Ob1 in one file. -/
import Derived.Test.YtckaneapjpiocaaGreatDoorP27
set_option linter.unusedVariables false
set_option linter.unusedSimpArgs false
set_option maxHeartbeats 8000000
set_option maxRecDepth 100000
namespace Go.Proofs.YtckaneapjpiocaaGreatDoor
open Go.RowKit Go.Maps Go.Sort Go.Shelf
theorem ag4(w:World)(is:Bool):Calls Tryz.prog 94 #[.bool is] w fun e w'=>e= .returned (.int .i64 (if is=true then 1 else 0))∧w'=w:=by
 go_enter Tryz.func94,Tryz.ntmps94
 cases is with
 | true=>
   go_wp2_with fail
   go_ret
   exact⟨rfl,rfl⟩
 | false=>
   go_wp2_with fail
   go_ret
   exact⟨rfl,rfl⟩
theorem aeW(w:World)(name:ByteArray)(x:Stg)(h:Stg.At w 0 w.heap.size x)(hb:bkE x.body=0)(hr:yT x.beg=0)(hE:wE (yV x)=0)(hnm:sml name):
 Calls Tryz.prog 40 #[.string name,.agg x.cells.toArray] w fun e w'=>aaj w w' (zF [kG,name,x.into]) (zM (yV x)) e:=by
 have HNm:=Lib.hid hnm
 have HPa:=Lib.hid h.into
 have HEs:=Lib.hid hE
 have HBo:=Lib.hid (fun W (hW:Ext w W)=>aaN W x.bA x.bn x.bc x.body h.bodyN (Rd.at h.bodyR hW (Nat.le_refl _)) h.bodyW hb)
 have HBl:=Lib.hid (show(yt x.body).length≤100000000 by
  obtain⟨q1,q2⟩:=xX _ hb
  have:=xT _ q2
  omega)
 have HEn:=Lib.hid (fun W (hW:Ext w W)=>show Calls Tryz.prog 92 #[.agg x.beg.cells.toArray] W fun e w'=> ∃v,e= .returned (.tuple #[v,.int .i64 0])∧w'.ownsRow W.heap.size 5 1 v (xQ x.beg).length (bytes (xQ x.beg))∧Ext W w' from
  (adX W x.beg (Rd.at h.begR hW (Nat.le_refl _)) h.beg (Nat.le_trans h.begN (by decide)) h.begS).mono (fun e w' q=>by
    obtain⟨v,h1,h2,h3⟩:=q
    rw [hr]at h1
    exact⟨v,h1,h2,h3⟩))
 have HEl:=Lib.hid (Nat.le_trans (acG x.beg) (show 1000≤100000000 by decide))
 have HSo:=Lib.hid (fun W=>abC x.su W h.su)
 have HSl:=Lib.hid (xS x.su)
 have HPo:=Lib.hid (zr h.pos)
 have HNe:=Lib.hid (zr h.next)
 clear h hb hr hnm hE
 obtain⟨into,⟨rk,rn,rf,rg,rA,rm,rc,rw_,ri,ro,rd,r0,r1,r2,r3⟩,bA,bn,bc,bd,po,nx,⟨u0,u1,u2,u3⟩,dn⟩:=x
 obtain⟨T,hT⟩: ∃T,T=yV ⟨into,⟨rk,rn,rf,rg,rA,rm,rc,rw_,ri,ro,rd,r0,r1,r2,r3⟩,bA,bn,bc,bd,po,nx,⟨u0,u1,u2,u3⟩,dn⟩:=⟨_,rfl⟩
 have HT:=Lib.hid hT
 rw [←hT]at HEs ⊢
 simp only [yV]at HT
 clear hT
 dsimp only at HPa HBo HBl HEn HEl HSo HSl HPo HNe HT ⊢
 obtain⟨q,hq⟩: ∃q:Int,q=if dn=true then 1 else 0:=⟨_,rfl⟩
 have HBit:=Lib.hid (fun W=>show Calls Tryz.prog 94 #[.bool dn] W fun e w'=>e= .returned (.int .i64 q)∧w'=W from by rw [hq];exact ag4 W dn)
 have Hq:=Lib.hid (show 0≤q∧q≤1 by rw [hq];split <;> omega)
 rw [←hq]at HT
 clear hq
 generalize xQ _=EB at *
 generalize qM _=SB at *
 simp only [Stg.cells,Rec.cells,Su.cells,List.cons_append,List.nil_append]at *
 go_enter Tryz.func40,Tryz.ntmps40
 go_upto_region 1 with fail
 generalize hwH:World.alloc (World.alloc w _) _=w1;have HH:=Lib.hid (Heap.two hwH);clear hwH
 go_upto_region 2 with fail
 generalize hwA:World.alloc w1 _=w2
 have HH2:=Lib.hid (afB (HH.out.allocE hwA))
 clear hwA HH
 generalize w1.heap.size=wb at *
 have HH:=HH2
 clear HH2
 have HLen:=Lib.hid (Nat.zero_le 1)
 go_wp2_with (refine zp HH.out yG (by kernel_rfl) rfl rfl rfl 3 rfl rfl ?_)
 refine(HEn.out w2 HH.out.ext).mono ?_;rintro e w3o ⟨vw3,rfl,hown,ew3⟩;obtain⟨Aow3,cow3,rfl,_,_,_⟩:=zo hown;have HHa:=Lib.hid (HH.out.addRow ew3 hown);clear HH hown ew3;go_wp2_with fail;refine(qF _ _ _ _ (EB) HHa.out.tail _ _ _ rfl HEl.out ((HHa.out.rowRd 0 rfl).m0) (by have q0:=HLen.out;(try simp only [List.length_append,List.length_cons,List.length_nil,List.length_map,zD]);omega)).mono ?_;rintro e w3 ⟨rfl,Aw3,cw3,hw3⟩;have HH:=Lib.hid hw3;clear hw3 HHa
 go_wp2_with (refine zc HH.out rfl rfl rfl 3 rfl rfl (by decide+kernel) ?_)
 refine(HBo.out w3 HH.out.ext).mono ?_;rintro e w4o ⟨vw4,rfl,hown,ew4⟩;obtain⟨Aow4,cow4,rfl,_,_,_⟩:=zo hown;have HHa:=Lib.hid (HH.out.addRow ew4 hown);clear HH hown ew4;go_wp2_with fail;refine(qF _ _ _ _ (yt bd) HHa.out.tail _ _ _ rfl HBl.out ((HHa.out.rowRd 0 rfl).m0) (by have q0:=HLen.out;(try simp only [List.length_append,List.length_cons,List.length_nil,List.length_map,zD]);omega)).mono ?_;rintro e w4 ⟨rfl,Aw4,cw4,hw4⟩;have HH:=Lib.hid hw4;clear hw4 HHa
 go_wp2_with (refine zc HH.out rfl rfl rfl 3 rfl rfl (by decide+kernel) ?_)
 generalize hwA:World.alloc _ _=w5a;have HHa:=Lib.hid (HH.out.allocE hwA);clear hwA HH;refine(yF _ _ _ _ [po,nx] HHa.out.tail _ _ _ rfl ((HHa.out.boxRd 0 rfl).m0) (by have q0:=HLen.out;(try simp only [List.length_append,List.length_cons,List.length_nil,List.length_map,zD]);omega) (by intro z hz;simp only [List.mem_cons,List.not_mem_nil,or_false]at hz;have q1:=HPo.out;have q2:=HNe.out;omega)).mono ?_;rintro e w5 ⟨rfl,Aw5,cw5,hw5⟩;have HH:=Lib.hid hw5;clear hw5 HHa
 go_wp2_with (refine zp HH.out ae7 (by kernel_rfl) rfl rfl rfl 3 rfl rfl ?_)
 refine(HSo.out w5).mono ?_
 rintro e w6o ⟨v6,rfl,hown,e6⟩
 obtain⟨Ao6,co6,rfl,_,_,_⟩:=zo hown
 have HHa:=Lib.hid (HH.out.addRow e6 hown)
 clear HH hown e6
 go_wp2_with fail
 refine(qF _ _ _ _ SB HHa.out.tail _ _ _ HSl.out.symm (by decide) ((HHa.out.rowRd 0 rfl).m0) (by have q0:=HLen.out;(try simp only [List.length_append,List.length_cons,List.length_nil,List.length_map,zD]);omega)).mono ?_
 rintro e w6 ⟨rfl,Aw6,cw6,h6⟩
 have HH:=Lib.hid h6
 clear h6 HHa
 go_wp2_with (refine zc HH.out rfl rfl rfl 3 rfl rfl (by decide+kernel) ?_)
 refine(HBit.out _).mono ?_
 rintro e w6b ⟨rfl,rfl⟩
 go_wp2_with fail
 generalize hwA:World.alloc _ _=w7a;have HHa:=Lib.hid (HH.out.allocE hwA);clear hwA HH;refine(yF _ _ _ _ [q] HHa.out.tail _ _ _ rfl ((HHa.out.boxRd 0 rfl).m0) (by have q0:=HLen.out;(try simp only [List.length_append,List.length_cons,List.length_nil,List.length_map,zD]);omega) (by intro z hz;simp only [List.mem_cons,List.not_mem_nil,or_false]at hz;have q1:=Hq.out;omega)).mono ?_;rintro e w7 ⟨rfl,Aw7,cw7,hw7⟩;have HH:=Lib.hid hw7;clear hw7 HHa
 have HH2:=Lib.hid (show Heap w (wtr wb Aw7 cw7 T _) w7 by rw [HT.out];simpa using HH.out)
 clear HH HT
 have HH:=HH2
 clear HH2
 go_wp2_with (refine zc HH.out rfl rfl rfl 3 rfl rfl (by decide+kernel) ?_)
 generalize hwA:World.alloc _ _=w9
 have HHa:=Lib.hid (HH.out.allocE hwA)
 clear hwA HH
 refine(aaQ _ _ _ _ [kG,name,into] HHa.out.tail _ 3 3 rfl (Nat.le_refl _) (by decide) ((HHa.out.boxRd 0 rfl).m0) HEs.out (by
  have q1:=xr [kG,name,into]
  have q2:kG.size=1:=rfl
  have q3:name.size≤1048576:=HNm.out
  have q4:into.size≤1048576:=HPa.out
  simp only [List.map_cons,List.map_nil,List.sum_cons,List.sum_nil]at q1
  omega)).mono ?_
 rintro e w10 ⟨Ao,mo,co,rfl,hown,hmo,e10⟩
 have Hmo:=Lib.hid hmo
 have HH:=Lib.hid (HHa.out.tail.addRow e10 hown)
 clear hown hmo e10 HHa
 go_wp2_with (refine zt HH.out xZ rfl rfl rfl rfl 3 rfl rfl rfl rfl ?_;clear HH;intro wS HHS;have HH:=Lib.hid HHS;clear HHS)
 refine aaB xZ (by kernel_rfl) HH.out rfl rfl 3 rfl rfl rfl ?_
 exact⟨Ao,mo,co,rfl,HH.out.rowAt 0 rfl,Hmo.out,HH.out.ext⟩
section
variable {P:Program} {ops:Array Oper} {Q:Exit→Act→List Frame→World→Prop} {i:Nat} {rest:List Nat} {a:Act} {cs cs':List Frame} {w w':World} {o:Oper} {v:Value}
structure WS (P:Program) (ops:Array Oper) (Q:Exit→Act→List Frame→World→Prop) (l:List Nat) (a:Act) (cs:List Frame) (w:World):Prop where
 out:wpOpsS P ops Q l a cs w
theorem aeo{id:Nat}{l:List Nat}(hl:List.range ops.size=l)(h:WS P ops Q l a cs w):(Code.region id ops false).wpS P Q a cs w:=wpS_region (hl▸h.out)
theorem aas(h:ops[i]?=some o)(hw:Region.wanted o (yielded ops a.tmps)=true)(hr:(execOp a.eval o).run P w= .ok (.value v) w')(k:WS P ops Q rest (a.put o.dst v) cs w'):WS P ops Q (i::rest) a cs w:=by
 constructor
 simp only [wpOpsS,h,if_pos hw,hr]
 exact k.out
theorem agM(h:ops[i]?=some o)(hw:Region.wanted o (yielded ops a.tmps)=true)(hr:(execOp a.eval o).run P w= .ok .recover w')(hd:recoverD cs=none)(k:WS P ops Q rest (a.put o.dst .nilIface) cs w'):WS P ops Q (i::rest) a cs w:=by
 constructor
 simp only [wpOpsS,h,if_pos hw,hr,hd]
 exact k.out
theorem ahn(k:Q .normal a cs w):WS P ops Q [] a cs w:=⟨k⟩
end
theorem afV{w0 w:World}{its:List It}{p1 p2:Value}(HH:Hid (Heap w0 its w)):
 CallsD Tryz.prog 37 #[p1,p2] .returning w fun e u' w'=>e= .returned (.tuple #[])∧u'= .returning∧Heap w0 its w':=by
 refine callsD_of_wpS Tryz.func37 rfl fun c₀ cs hu=>?_
 simp only [Tryz.ntmps37,List.size_toArray,List.length_cons,List.length_nil,Nat.reduceAdd,Nat.reduceSub,Array.replicate_succ,Array.replicate_zero,List.push_toArray,List.append_toArray,List.nil_append,List.cons_append]
 apply wpS_seq
 apply aeo (l:= [0,1,2,3,4,5,6]) rfl
 refine agM (w':=w) rfl (by kernel_rfl) (by rfl) (by simp only [recoverD,hu]) ?_
 simp only [Act.put]
 refine aas (w':=w) (v:= .tuple #[.int .i64 0,.bool false]) rfl (by kernel_rfl) (by kernel_rfl) ?_
 refine aas (w':=w) (v:= .tuple #[.int .i64 0,.bool false]) rfl (by kernel_rfl) (by kernel_rfl) ?_
 refine aas (w':=w) (v:= .int .i64 0) rfl (by kernel_rfl) (by kernel_rfl) ?_
 refine aas (w':=w) (v:= .bool false) rfl (by kernel_rfl) (by kernel_rfl) ?_
 refine aas (w':=w) (v:= .int .i64 0) rfl (by kernel_rfl) (by kernel_rfl) ?_
 refine aas (w':=w) (v:= .bool false) rfl (by kernel_rfl) (by kernel_rfl) ?_
 refine ahn ?_
 simp only [Exit.thenS]
 refine wpS_of_wp ?_
 go_wp2_with fail
 refine⟨rfl,.returning,?_,.tuple #[],by kernel_rfl,rfl,rfl,HH.out⟩
 cases c₀
 simp_all
section
variable {P:Program} {w0 w:World} {its:List It} {fn:Func} {R:Ending→World→Prop} {tmps:Array Value}
theorem abb{t:TypeId}{b p:Nat}{vs:List Value}{v:Value}(H:Heap w0 its w)(hk:xU P t=some false)(i:Nat)(hi:its[i]?=some (.box b vs))(hv:vs[p]?=some v):
 (loadVar t ⟨b,p,none⟩).run P w= .ok v w:=by
 have hc:=(H.boxAt i hi).cell p v hv
 simp [loadVar,xG hk,load,Sem.run,hc]
theorem adw{u s:TypeId}{y z c d:Nat}{v v2:Value}(ku:xU P u=some false)(ks:xU P s=some false)(H:Heap w0 its w)(hres:fn.results= #[.cell y u,.cell z s])
 (hy:tmps.getD y undef= .pointer (some ⟨c,0,none⟩)) (hz:tmps.getD z undef= .pointer (some ⟨d,0,none⟩)) (j k:Nat) (hj:its[j]?=some (.box c [v])) (hk:its[k]?=some (.box d [v2]))
 (hR:R (.returned (.tuple #[v,v2])) w):Leaves P fn tmps R [] .returning w:=by
 refine⟨_,?_,hR⟩
 have h1:=abb (p:=0) H ku j hj rfl
 have h2:=abb (p:=0) H ks k hk rfl
 have hy':tmps[y]?.getD undef= .pointer (some ⟨c,0,none⟩):=by simpa using hy
 have hz':tmps[z]?.getD undef= .pointer (some ⟨d,0,none⟩):=by simpa using hz
 simp only [results,hres]
 simp [asAddr,hy',hz',h1,h2]
end
section
variable {w0 w:World} {its:List It} {R:Ending→World→Prop} {tmps:Array Value}
abbrev ahM(lb eb:Nat):List Deferred:= [⟨.fn (.func 37) #[.pointer (some ⟨lb,0,none⟩),.pointer (some ⟨eb,0,none⟩)],#[]⟩]
theorem ag2{lb eb i j:Nat}{lv ev:Value}(H:Heap w0 its w)(hi:its[i]?=some (.box lb [lv]))(hj:its[j]?=some (.box eb [ev]))
 (h4:tmps.getD 2 undef= .pointer (some ⟨lb,0,none⟩)) (h5:tmps.getD 3 undef= .pointer (some ⟨eb,0,none⟩)) (hR: ∀w',Heap w0 its w'→R (.returned (.tuple #[lv,ev])) w'):
 Leaves Tryz.prog Tryz.f14 tmps R (ahM lb eb) .returning w:=by
 refine leaves_cons (f:=37) (args:= #[.pointer (some ⟨lb,0,none⟩),.pointer (some ⟨eb,0,none⟩)]) (by simp) (by simp [go_sem]) ?_
 refine(afV (Lib.hid H)).mono ?_
 rintro e u' w'' ⟨rfl,rfl,H2⟩
 simp only [settle]
 exact adw (by kernel_rfl) (by kernel_rfl) H2 rfl h4 h5 i j hi hj (hR _ H2)
end
end Go.Proofs.YtckaneapjpiocaaGreatDoor
