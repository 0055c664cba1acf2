/- The texts Psh in one file. -/
import Derived.Test.YtckaneapjpiocaaGreatDoorQ44
set_option linter.unusedVariables false
set_option linter.unusedSimpArgs false
set_option maxHeartbeats 8000000
set_option maxRecDepth 100000
namespace Go.Proofs.YtckaneapjpiocaaGreatDoor
open Go.RowKit Go.Maps Go.Sort Go.Shelf
theorem aag:(Tryz.prog.info? 61).map (·.size)=some 4:=by kernel_rfl
def rPh(ts:List ByteArray):Option ((Int×List Prp×List Lin)×List ByteArray):=
 (rNm 1099511627776 ts).bind fun c=>(aac c.2).bind fun o=>(rNm 16 o.2).bind fun m=>(qH aaN m.1.toNat m.2).bind fun l=>some ((c.1,o.1,l.1),l.2)
def acH(l:List UInt8):Option ((Int×List Prp×List Lin)×List ByteArray):=if(rd l).1=0 then rPh (rd l).2 else none
structure PhIn (L:RdL) (cap:Int) (f:Sl Prp) (g:Sl Lin) (n:Sl ByteArray):Prop where
 forcedL:InL L Prp.cells f
 forcedF:prE f.xs=0
 logL:InL L Lin.cells g
 logF: ∀y∈g.xs,Lin.sm y
 logN:g.xs.length≤16
 capF:(Lit.int .i64 cap).wf=true
 nameL:(n.A,strV n.xs)∈L
 nameN:n.n=n.xs.length
 nameF: ∀s∈n.xs,s.size≤65536
 nameM:n.xs.length≤1024
def PhO(w0:World)(its:List It)(r:Option ((Int×List Prp×List Lin)×List ByteArray))(e:Ending)(w':World):Prop:=match r with
 | none=>e=aao 21∧Heap w0 its w'
 | some p=> ∃(f:Sl Prp) (g:Sl Lin) (n:Sl ByteArray) (S:Nat→Prop) (L:RdL),e= .returned (.tuple #[.agg #[.int .i64 p.1.1,.slice none 0 0,f.val,g.val],n.val])∧f.xs=p.1.2.1∧g.xs=p.1.2.2∧n.xs=p.2∧PhIn L p.1.1 f g n∧Heap w0 (It.bag S L::its) w'
theorem an5{w0 w:World}{its:List It}(H:Heap w0 its w)(A:Option Addr)(n c:Nat)(l:List UInt8)(hn:n=l.length)(hnc:n≤c)(hcm:c≤maxLen)(hr:Rd w 0 w.heap.size A (bytes l))(hN:n≤100000000):
 Calls Tryz.prog 69 #[.slice A n c] w (PhO w0 its (acH l)):=by
 obtain⟨i0,hi0,hz0,hz1,hz2⟩:=info_parts abd
 obtain⟨i1,hi1,hx0,hx1,hx2⟩:=info_parts ah7
 have HH:=hiD H
 have HRd:=hiD (fun W (hW:Ext w W)=>aeK W A n c l hn hnc (Rd.at hr hW (Nat.le_refl _)) (by omega) (by simp only [maxLen]at hcm;omega))
 have HS:=hiD (ado l)
 have HV:=hiD (show acH l=if(rd l).1=0 then rPh (rd l).2 else none from rfl)
 generalize acH l=V at *
 clear H hn hnc hcm hr hN
 go_enter Tryz.func69,Tryz.ntmps69
 go_upto_region 1 with fail
 generalize hwH:World.alloc w _=w1
 have HE:=hiD (show Ext w w1 by rw [←hwH];exact(Ext.refl w).alloc _)
 replace HH:=hiD (HH.out.allocE hwH)
 clear hwH
 obtain⟨rb,hrb⟩: ∃b,b=w.heap.size:=⟨_,rfl⟩
 rw [←hrb]at HH ⊢
 clear hrb
 go_wp2_with fail
 refine(HRd.out _ HE.out).mono ?_
 rintro e w2 ⟨v,rfl,hown,e2⟩
 obtain⟨A2,c2,rfl,_,_,_⟩:=zr hown
 obtain⟨q1,q2⟩:=z7 hown
 have HR0:=hiD (HH.out.tail.later e2)
 have H2:=hiD ((HH.out.bag0).bagExt (j:=0) rfl e2 (L2:= [(A2,strV (rd l).2)]) (fun q hq=>by
  obtain rfl:=List.mem_singleton.1 hq
  exact Rd.of_own hown))
 clear hown e2 HRd HE HH
 by_cases hE:(rd l).1=0
 ·have hV:=HV.out
  rw [if_pos hE,rPh]at hV
  replace HV:=hiD hV
  clear hV
  rw [hE]
  clear hE HR0
  generalize (rd l).2=ts at *
  go_wp2_with fail
  refine(aab _ 21).mono ?_
  rintro e w3 ⟨rfl,rfl⟩
  go_upto_region 4 with fail
  generalize hwA:World.alloc _ _=w5
  obtain⟨S,H3⟩:=H2.out
  have HH:=hiD (show RS w0 w3.heap.size (.box rb [.int .i64 0,.slice none 0 0,.slice none 0 0,.slice none 0 0]::its) [] ts w5 from⟨A2,c2,S,_,(by intro q hq;cases hq),List.mem_append_left _ (List.mem_cons_self ..),q1,q2,HS.out.2,HS.out.1,H3.allocE hwA⟩)
  clear hwA H3 H2 HS q1 q2
  obtain⟨b,hb⟩: ∃b,b=w3.heap.size:=⟨_,rfl⟩
  rw [←hb]at HH ⊢
  clear hb
  go_wp2_with fail
  refine zw HV (adM HH.out 1099511627776) (fun w' h1 h2=>by subst h1;exact⟨rfl,rfl,h2.tail⟩) ?_
  rintro cap us e w4 HV ⟨a0,a1,rfl,h⟩
  replace HH:=hiD h
  clear h
  obtain⟨A3,c3,S3,L3,_,_,H,hB⟩:=HH.out.open
  replace HH:=hiD H
  have HB:=hiD hB
  clear H hB
  dsimp only at HV
  go_upto_region 5 with(refine sSX (hiD (HH.out.alloc _ _)) aag 0 ?_;clear HH;intro wS HH)
  obtain⟨xb,hxb⟩: ∃b,b=w4.heap.size:=⟨_,rfl⟩
  rw [←hxb]at HH ⊢
  clear hxb
  replace HH:=hiD ((HB.out _ _ HH.out.in2).push (x:= .row 9 1 (.slice none 0 0) 0 []) fun l h=>h.row0)
  clear HB
  have hV:=HV.out
  rw [aac,Option.bind_assoc]at hV
  replace HV:=hiD hV
  clear hV
  go_wp2_with fail
  refine zw HV (adM HH.out 8) (fun w' h1 h2=>by subst h1;exact⟨rfl,rfl,h2.tail.tail.tail⟩) ?_
  rintro kv us e w6 HV ⟨k0,k4,rfl,h⟩
  replace HH:=hiD h
  clear h
  dsimp only at HV
  obtain⟨K,rfl⟩: ∃K:Nat,kv=(K:Int):=⟨kv.toNat,by omega⟩
  clear k0
  rw [Int.toNat_natCast]at HV
  have HUs:=hiD HH.out.small.2
  have HUl:=hiD HH.out.small.1
  go_wp2_with fail
  go_loopw [8,26] (fun l i wr=> ∃k:Nat,k≤2 * K∧k≤us.length∧i= .int .i64 (k:Int)∧ ∃A c,l= .slice A k c∧Hid (RS w0 b (.row 9 1 (.slice A k c) k (strV (us.take k)):: .box xb [.int .i64 cap,.slice none 0 0,.slice none 0 0,.slice none 0 0]:: .box rb [.int .i64 0,.slice none 0 0,.slice none 0 0,.slice none 0 0]::its) [] (us.drop k) wr)) (fun _ i _=>2 * K - (intOf i).toNat)
  case atStart=>exact⟨0,Nat.zero_le _,Nat.zero_le _,rfl,_,_,rfl,HH⟩
  case round=>
   clear HH
   obtain⟨k,hk,hkl,rfl,A,c,rfl,HR⟩:=hrel
   by_cases hlt:k < 2 * K
   ·have hkk:(k:Int) < 2 * (K:Int):=by omega
    have hul:=HUl.out
    by_cases hl2:k < us.length
    ·have HT:=hiD (agF (show RS w0 b _ [] (us[k]::us.drop (k+1)) wr by rw [List.getElem_cons_drop];exact HR.out))
     have HTk:=hiD (show us.take (k+1)=us.take k++ [us[k]]from List.take_succ_eq_append_getElem hl2)
     clear HR
     generalize us[k]=s at *
     go_wp2_with fail
     refine HT.out.mono ?_
     rintro e w2 ⟨rfl,h2⟩
     obtain⟨A',c',S',L',_,_,H,hB⟩:=h2.open
     have HB:=hiD hB
     have HH:=hiD H
     clear H hB h2 HT
     go_wp2_with (at_builtin;refine qk (e:=9) (size:=1) (bytes:=16) (news:= [.string s]) (lo:=0) (.tmp 28) (.tmp 31) _ rfl rfl Tryz.underlying109 hi0 hz0 hz1 hz2 rfl (by omega) (HH.out.alloc _ _) 3 rfl rfl (m:=1) rfl rfl ((HH.out.alloc _ _).boxRd 0 rfl).m0 (by simp [Value.oneCell']) (by simp only [maxLen];omega) (by omega) ?_;intro v7 w7 hh7 h7;obtain⟨A7,c7,rfl⟩:=h7)
     have H7:=hiD (HB.out _ _ hh7.tail)
     clear hh7 HB HH
     go_roundw
     case rel=>exact⟨k+1,by omega,by omega,by go_num,_,_,rfl,by rw [HTk.out,strV,List.map_append];exact H7⟩
     case measure=>simp [intOf];omega
    ·have hN:=HV.out
     rw [if_pos (by omega),Option.bind_none]at hN
     subst hN
     have HT:=hiD (afS (show RS w0 b _ [] [] wr by
      have h:=HR.out
      rw [List.drop_of_length_le (by omega)]at h
      exact h))
     go_wp2_with fail
     refine HT.out.mono ?_
     rintro e w2 ⟨rfl,h2⟩
     exact⟨rfl,rfl,h2.tail.tail.tail⟩
   ·obtain rfl:k=2 * K:=by omega
    have hN:=HV.out
    rw [if_neg (by omega)]at hN
    have HN:=hiD hN
    have hlen:(us.take (2 * K)).length=2 * K:=by rw [List.length_take];omega
    have HP:=hiD (show Calls Tryz.prog 128 #[.slice A (2 * K) c] wr (amZ wr (us.take (2 * K)))from by
     obtain⟨A',c',S',L',q1,q2,q3,q4,q5,q6,H⟩:=HR.out
     obtain⟨p1,p2⟩:=z7 (H.rowAt 2 rfl)
     exact af3 wr A (2 * K) c (us.take (2 * K)) hlen.symm (by omega) p1 (H.rowRd 2 rfl).m0 (by omega) (fun s hs=>HUs.out s (List.mem_of_mem_take hs)))
    replace HR:=hiD HR.out.drop
    have HFl:=hiD (show(prO (us.take (2 * K))).length≤8 by rw [acW,hlen];omega)
    clear hlen HV hN
    go_wp2_with fail
    refine HP.out.mono ?_
    rintro e w2 ⟨e2,⟨hE,A',c',rfl,hown⟩ | ⟨hE,rfl⟩⟩
    ·have hN:=HN.out
     rw [if_pos hE,Option.bind_some]at hN
     have HV:=hiD hN
     clear HP HN hN
     obtain⟨p1,p2⟩:=z7 hown
     replace HR:=hiD (HR.out.more (L2:= [(A',prps (prO (us.take (2 * K))))]) e2 (fun q hq=>by
      obtain rfl:=List.mem_singleton.1 hq
      exact Rd.of_own hown))
     have HFf:=hiD hE
     have HPf:=hiD (And.intro p1 p2)
     clear hown e2 hE p1 p2
     generalize us.drop (2 * K)=us2 at *
     generalize prO (us.take (2 * K))=ow at *
     obtain⟨A3,c3,S3,L3,_,_,H,hB⟩:=HR.out.open
     have HH:=hiD H
     have HB:=hiD hB
     clear H hB HR hkl hlt HUs HUl
     rename_i us1 _ _ _ _ _
     go_wp2_with (refine s1X HH 2 ?_;clear HH;intro wS HH)
     refine(aab _ 21).mono ?_
     rintro e w3 ⟨rfl,rfl⟩
     replace HH:=hiD (show RS w0 b (.box xb [.int .i64 cap,.slice none 0 0,.slice A' ow.length c',.slice none 0 0]:: .box rb [.int .i64 0,.slice none 0 0,.slice none 0 0,.slice none 0 0]::its) _ us2 _ from HB.out _ _ HH.out)
     clear HB
     (try dsimp only at HV)
     obtain⟨L1,hL1⟩: ∃L1,L1= [(A',prps ow)]++([]:RdL):=⟨_,rfl⟩
     rw [←hL1]at HH
     have HL1:=hiD hL1
     clear hL1
     replace HH:=hiD (HH.out.push (x:= .row 81 4 (.slice none 0 0) 0 []) fun l h=>h.row0)
     go_wp2_with fail
     refine zw HV (adM HH.out 16) (fun w' h1 h2=>by subst h1;exact⟨rfl,rfl,h2.tail.tail.tail⟩) ?_
     rintro kv us e w7 HV ⟨k0,k5,rfl,h⟩
     replace HH:=hiD h
     clear h
     dsimp only at HV
     obtain⟨K2,rfl⟩: ∃K2:Nat,kv=(K2:Int):=⟨kv.toNat,by omega⟩
     clear k0
     rw [Int.toNat_natCast]at HV
     go_wp2_with fail
     go_loopw [45] (fun i wr=> ∃(xs:List Lin) (us:List ByteArray),xs.length≤K2∧i= .int .i64 (xs.length:Int)∧ ∃sA sc,Hid (V=(qH aaN (K2 - xs.length) us).bind fun r=>some ((cap,ow,xs++r.1),r.2))∧Hid (∀y∈xs,Lin.sm y)∧
      Hid (RS w0 b (.row 81 4 (.slice sA xs.length sc) xs.length (xs.flatMap Lin.cells):: .box xb [.int .i64 cap,.slice none 0 0,.slice A' ow.length c',.slice sA xs.length sc]:: .box rb [.int .i64 0,.slice none 0 0,.slice none 0 0,.slice none 0 0]::its) L1 us wr)) (fun i _=>K2 - (intOf i).toNat)
     case atStart=>exact⟨[],us,Nat.zero_le _,rfl,none,0,HV,hiD (fun y h=>by cases h),HH⟩
     case round=>
      clear HH HV
      obtain⟨xs,us,hk,rfl,A2,c2,HV,HX,HH⟩:=hrel
      by_cases hlt:xs.length < K2
      ·have hkk:(xs.length:Int) < (K2:Int):=by omega
       have hV:=HV.out
       rw [show K2 - xs.length=(K2 - xs.length - 1)+1 by omega,acC aaN (K2 - xs.length - 1) us xs (fun(d:List Lin) ts=>some ((cap,ow,d),ts))]at hV
       simp only [aaN,Option.bind_assoc,Option.bind_some]at hV
       replace HV:=hiD hV
       clear hV
       go_upto_region 14 with fail
       replace HH:=hiD (HH.out.later (Ext.drew (Ext.refl _)))
       obtain⟨A3,c3,S3,L3,_,_,H,_⟩:=HH.out.open
       refine qe (fun z=>Nat.blt z 13) (S:=fun W=>W.cell? ⟨xb,3,none⟩=some (.slice A2 xs.length c2)) (by kernel_rfl) ((H.boxAt 3 rfl).cell 3 _ rfl) (fun hHeld=>?_)
       generalize World.drew _=wd at *
       clear H
       refine tM 0 3 ?_
       refine tM 4 1 ?_
       refine tM 6 1 ?_
       refine tM 8 1 ?_
       clear hHeld
       refine oMX 3 (fun K hK=>?_)
       go_simp
       refine zw HV (ahU HH.out) (fun w' h1 h2=>by subst h1;exact⟨rfl,rfl,h2.tail.tail.tail⟩) ?_
       rintro u us e wa HV ⟨u0,rfl,h⟩
       replace HH:=hiD h
       clear h
       dsimp only at HV
       obtain⟨A3,c3,S3,L3,_,_,H,hB⟩:=HH.out.open
       go_wp2_with fail
       refine hK.out _ _ ((H.boxAt 3 rfl).cell 3 _ rfl) (fun hHeld=>?_)
       clear hK K
       refine lyX ?_
       clear H hB hHeld
       refine oMX 5 (fun K hK=>?_)
       go_simp
       refine zw HV (adM HH.out 1099511627776) (fun w' h1 h2=>by subst h1;exact⟨rfl,rfl,h2.tail.tail.tail⟩) ?_
       rintro kd us e wb HV ⟨m0,m1,rfl,h⟩
       replace HH:=hiD h
       clear h
       dsimp only at HV
       obtain⟨A3,c3,S3,L3,_,_,H,hB⟩:=HH.out.open
       go_wp2_with fail
       refine hK.out _ _ ((H.boxAt 3 rfl).cell 3 _ rfl) (fun hHeld=>?_)
       clear hK K
       refine lyX ?_
       clear H hB hHeld
       refine oMX 7 (fun K hK=>?_)
       go_simp
       refine zw HV (ahU HH.out) (fun w' h1 h2=>by subst h1;exact⟨rfl,rfl,h2.tail.tail.tail⟩) ?_
       rintro p us e wc_ HV ⟨p0,rfl,h⟩
       replace HH:=hiD h
       clear h
       dsimp only at HV
       obtain⟨A3,c3,S3,L3,_,_,H,hB⟩:=HH.out.open
       go_wp2_with fail
       refine hK.out _ _ ((H.boxAt 3 rfl).cell 3 _ rfl) (fun hHeld=>?_)
       clear hK K
       refine lyX ?_
       clear H hB hHeld
       refine oMX 9 (fun K hK=>?_)
       go_simp
       refine zw HV (adM HH.out 1099511627776) (fun w' h1 h2=>by subst h1;exact⟨rfl,rfl,h2.tail.tail.tail⟩) ?_
       rintro er us e wd_ HV ⟨m2,m3,rfl,h⟩
       replace HH:=hiD h
       clear h
       dsimp only at HV
       obtain⟨A3,c3,S3,L3,_,_,H,hB⟩:=HH.out.open
       go_wp2_with fail
       refine hK.out _ _ ((H.boxAt 3 rfl).cell 3 _ rfl) (fun hHeld=>?_)
       clear hK K
       refine lyX ?_
       refine tM 10 1 ?_
       clear hHeld
       replace HH:=hiD H
       have HB:=hiD hB
       clear H hB
       have HC:=hiD (show(xs++ [(⟨u,kd,p,er⟩:Lin)]).flatMap Lin.cells=xs.flatMap Lin.cells++ [.string u,.int .i64 kd,.string p,.int .i64 er]by simp [Lin.cells])
       have HLn:=hiD (show(xs++ [(⟨u,kd,p,er⟩:Lin)]).length=xs.length+1 by simp)
       replace HX:=hiD (show∀y∈xs++ [(⟨u,kd,p,er⟩:Lin)],Lin.sm y from fun y hy=>by
        rcases List.mem_append.1 hy with hy | hy
        ·exact HX.out y hy
        ·obtain rfl:=List.mem_singleton.1 hy
         exact⟨Nat.le_trans u0 (by decide),Nat.le_trans p0 (by decide),aas m0 (Int.le_trans m1 (by decide)),aas m2 (Int.le_trans m3 (by decide))⟩)
       generalize xs++ [(⟨u,kd,p,er⟩:Lin)]=ys at *
       refine oMX 11 (fun K hK=>?_)
       go_simp
       generalize hwA:World.alloc _ _=w8
       replace HH:=hiD (HH.out.allocE hwA)
       clear hwA
       refine hK.out _ _ ((HH.out.boxAt 4 rfl).cell 3 _ rfl) (fun hHeld=>?_)
       clear hK K hHeld
       refine lyX ?_
       refine fMX 12 (fun K hK=>?_)
       refine zO (.tmp 48) (.tmp 58) _ rfl Tryz.underlying25 hi1 hx0 hx1 hx2 rfl (by omega) HH.out 3 rfl rfl (m:=1) rfl rfl (HH.out.boxRd 0 rfl).m0 (by simp [Value.oneCell']) (by simp only [maxLen];omega) (by omega) ?_
       rintro v8 w9 hh8 ⟨A8,c8,rfl⟩
       replace HH:=hiD hh8.tail
       clear hh8
       refine hK.out _ _ ?_;clear hK K;refine lyX ?_
       refine yL 13 (v:=?_) rfl (by kernel_rfl) (by kernel_rfl) (by kernel_rfl) (by kernel_rfl) (fun _ _ _ h=>h) (by kernel_rfl) ?_ (fun h=>absurd h (aal (by kernel_rfl))) ?_;rotate_left;(focus(intro w;go_simp <;> with_reducible rfl));refine lyX ?_
       refine fMX 14 (fun K hK=>?_)
       refine z8 HH.out rfl rfl rfl 3 rfl (Nat.le_of_ble_eq_true rfl) rfl (by kernel_rfl) ?_
       intro w10 hh9
       refine hK.out _ _ ?_;clear hK K;refine lyX ?_
       refine xD (by kernel_rfl) ?_
       have H9:=hiD (HB.out _ _ hh9)
       clear hh9 HB HH
       go_wp2_with fail
       go_roundw
       case rel=>exact⟨ys,us,by rw [HLn.out];omega,by rw [HLn.out];go_num,A8,c8,hiD (by rw [show K2 - ys.length=K2 - xs.length - 1 by rw [HLn.out];omega];exact HV.out),HX,hiD (by rw [HLn.out,HC.out];exact H9.out)⟩
       case measure=>simp [intOf];omega
      ·have hkK:xs.length=K2:=by omega
       have hV:=HV.out
       rw [show K2 - xs.length=0 by omega,qH,Option.bind_some]at hV
       replace HV:=hiD hV
       clear hV
       simp only [List.append_nil]at HV
       go_wp2_with fail
       obtain⟨_,_,_,_,_,_,H0,_⟩:=HH.out.open
       obtain⟨r1,r2⟩:=z7 (H0.rowAt 2 rfl)
       have HG:=hiD (And.intro r1 r2)
       clear H0 r1 r2
       replace HH:=hiD HH.out.bagRow
       obtain⟨A3,c3,S3,L3,t1,t2,_,_,t3,t4,H⟩:=HH.out
       have HT:=hiD (And.intro t3 t4)
       have HHd:=hiD H.drew
       have HLs:=hiD (And.intro t1 t2)
       clear H t1 t2 t3 t4 HH
       refine qe (fun z=>Nat.blt z 7) (S:=Heap w0 [.box b [.slice A3 us.length c3],.box xb _]) (by kernel_rfl) (HHd.out.pair 0 2 rfl rfl rfl) (fun hHeld=>?_)
       generalize World.drew _=wd at *
       refine mG 0 rfl (fun wT hST=>zj hST aag (by kernel_rfl) rfl rfl 1 rfl (Nat.le_of_ble_eq_true rfl)) hHeld ?_
       refine lyX ?_
       refine tM 1 3 ?_
       refine mG 4 rfl (fun wT hST=>zk hST rfl rfl 0 rfl rfl (by kernel_rfl)) hHeld ?_
       refine lyX ?_
       clear hHeld
       refine oMX 5 (fun K hK=>?_)
       refine yE HHd.out aag rfl rfl rfl 3 rfl rfl (Nat.le_of_ble_eq_true rfl) rfl ?_
       intro w10 hh9
       refine hK.out _ _ (hh9.pair 0 2 rfl rfl rfl) (fun hHeld=>?_)
       clear hK K hHeld
       refine lyX ?_
       refine fMX 6 (fun K hK=>?_);(try go_simp)
       refine hK.out _ _ ?_;clear hK K;refine lyX ?_
       refine xD (by kernel_rfl) ?_
       go_wp2_with fail
       refine yD aag (by kernel_rfl) hh9 rfl rfl rfl 3 rfl rfl rfl ?_
       have hV:=HV.out
       subst hV
       exact⟨⟨A',ow.length,c',ow⟩,⟨A2,xs.length,c2,xs⟩,⟨A3,us.length,c3,us⟩,S3,L3,rfl,rfl,rfl,rfl,⟨⟨rfl,HPf.out.1,HPf.out.2,HLs.out.1 _ (List.mem_cons_of_mem _ (by rw [HL1.out];exact List.mem_cons_self ..))⟩,HFf.out,⟨rfl,HG.out.1,HG.out.2,HLs.out.1 _ (List.mem_cons_self ..)⟩,HX.out,by show xs.length≤16;omega,aas a0 (Int.le_trans a1 (by decide)),HLs.out.2,rfl,HT.out.1,HT.out.2⟩,hh9.tail.in2.tail.tail⟩
    ·have hN:=HN.out
     rw [if_neg hE,Option.bind_none]at hN
     subst hN
     clear HP HN
     have hd:(prE (prO (us.take (2 * K))) == 0)=false:=by simpa using hE
     generalize prE (prO (us.take (2 * K)))=E at *
     clear hE
     have HH:=hiD (HR.out.heap.later e2)
     clear HR
     go_wp2_with (refine s1X HH 0 ?_;clear HH;intro wS HH)
     refine(yQ _ 21).mono ?_
     rintro e w3 ⟨rfl,rfl⟩
     exact⟨rfl,rfl,HH.out.tail.tail⟩
 ·have hd:((rd l).1 == 0)=false:=by simpa using hE
  have hV:=HV.out
  rw [if_neg hE]at hV
  subst hV
  clear hE H2 HV
  go_wp2_with fail
  refine(yQ _ 21).mono ?_
  rintro e w3 ⟨rfl,rfl⟩
  exact⟨rfl,rfl,HR0.out⟩
end Go.Proofs.YtckaneapjpiocaaGreatDoor
