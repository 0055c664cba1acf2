/- The texts Rdd in one file. -/
import Derived.Test.YtckaneapjpiocaaGreatDoorQ17
set_option linter.unusedVariables false
set_option linter.unusedSimpArgs false
set_option maxHeartbeats 8000000
set_option maxRecDepth 100000
namespace Go.Proofs.YtckaneapjpiocaaGreatDoor
open Go.RowKit
section
variable {P:Program} {l rest:List Oper} {Q:Exit→Act→World→Prop} {md:Region.Mode} {S:World→Prop} {m:Nat→Bool} {oi:Oper} {fuel:Nat} {listed:Array Bool} {a:Act} {w:World}
theorem alp(i:Nat)(hn:l.drop i=oi::rest)(hs:Region.noSelect l.toArray=true)(hf:Region.free md l.toArray listed i=true)(hr:(Region.ready md l.toArray listed).contains i=true)(hp:m i=false)
 (hQ: ∀c a w,Q (.panic c) (a.put oi.dst undef) w→Q (.panic c) a w) (hw:Region.wanted oi (yielded l.toArray a.tmps)=false) (hS:acv m listed→S w)
 (h:zU P md l.toArray Q S m fuel (listed.setIfInBounds i true) (a.put oi.dst undef) w):zU P md l.toArray Q S m (fuel+1) listed a w:=
 aeA (xH hn) (Region.noSelect_spec hs) hQ fuel listed a w (Region.free_spec (xH hn) hf) hp (by simpa using hr) (Or.inr ⟨hw,rfl⟩) hS h
end
abbrev RSt:=List ByteArray×Bool
def stT(s:RSt):ByteArray×RSt:=match s.1 with
 | []=>(⟨#[]⟩, [],false)
 | x::r=>(x,r,s.2)
def stN(s:RSt):Int×RSt:=(fV (stT s).1,(stT s).2.1,(stT s).2.2 && fE (stT s).1 == 0)
theorem afL(s:RSt):(stT s).2.1.length≤s.1.length:=by
 obtain⟨l,b⟩:=s
 cases l <;> simp [stT]
theorem aes(s:RSt):(stN s).2.1.length≤s.1.length:=afL s
theorem abm(x:Rdr):rdT x=stT (x.ts,x.ok):=by
 obtain⟨A,c,ts,ok⟩:=x
 cases ts <;> rfl
theorem aaR(x:Rdr):rdN x=stN (x.ts,x.ok):=by rw [rdN,stN,abm]
def z6:List ByteArray→List Prp×Bool
 | []=>([],true)
 | [s]=>([⟨s,⟨#[]⟩⟩],false)
 | s::v::r=>(⟨s,v⟩::(z6 r).1,(z6 r).2)
def xE(l:List ByteArray):Bool:=l.length == 0
def zX(k:Int)(ts:List ByteArray):Rec:=
 if k=1 then⟨1,(stT (ts,true)).1,(stN (stT (ts,true)).2).1,(stN (stN (stT (ts,true)).2).2).1,none,0,0,if(stN (stN (stT (ts,true)).2).2).2.2 then(z6 (stN (stN (stT (ts,true)).2).2).2.1).1 else [],0,0,⟨#[]⟩,0,0,0,0⟩
 else if k=2 then⟨2,⟨#[]⟩,0,0,none,0,0, [],(stN (ts,true)).1,0,(stT (stN (ts,true)).2).1,0,0,0,0⟩
 else if k=3 then⟨3,⟨#[]⟩,0,0,none,0,0, [],(stN (ts,true)).1,(stN (stN (ts,true)).2).1,⟨#[]⟩,0,0,0,0⟩
 else⟨k,⟨#[]⟩,0,0,none,0,0, [],0,0,⟨#[]⟩,(qd (stT (ts,true)).1.data.toList).a,(qd (stT (ts,true)).1.data.toList).b,(qd (stT (ts,true)).1.data.toList).c,(qd (stT (ts,true)).1.data.toList).d⟩
def yN(k:Int)(ts:List ByteArray):Bool:=
 if k=1 then(stN (stN (stT (ts,true)).2).2).2.2 && (z6 (stN (stN (stT (ts,true)).2).2).2.1).2
 else if k=2 then(stT (stN (ts,true)).2).2.2 && xE (stT (stN (ts,true)).2).2.1
 else if k=3 then(stN (stN (ts,true)).2).2.2 && xE (stN (stN (ts,true)).2).2.1
 else((stT (ts,true)).2.2 && acO (stT (ts,true)).1.data.toList == 0) && xE (stT (ts,true)).2.1
def agA(b:Nat)(w:World):Nat:=match w.cell? ⟨b,0,none⟩with
 | some (.slice _ n _)=>n
 | _=>0
theorem ahe{b:Nat}{w:World}{x:Rdr}(h:Bx w b x.cells):agA b w=x.ts.length:=by
 rw [agA,h.cell 0 _ rfl]
def aiY(ts3:List ByteArray)(ok3:Bool)(y:Rdr)(O:List Prp):Prop:=
 (y.ok=true∧ok3=true∧O++(z6 y.ts).1=(z6 ts3).1∧(z6 y.ts).2=(z6 ts3).2)∨(y.ok=false∧ok3=true∧O=(z6 ts3).1∧(z6 ts3).2=false)∨(y.ok=false∧ok3=false∧O= [])
def ao5(w:World)(A:Rec)(ok:Bool)(e:Ending)(w':World):Prop:=
 ∃y:Rec,e= .returned (.tuple #[.agg y.cells.toArray,.bool ok])∧y.bare=A∧y.on=y.own.length∧Rd w' w.heap.size w'.heap.size y.oA (prps y.own)∧Ext w w'
theorem ajb(w:World)(k:Int)(A:Option Addr)(n c:Nat)(ts:List ByteArray)(hn:n=ts.length)(hx:Rdr.may w ⟨A,c,ts,true⟩)(hk: -9223372036854775808≤k∧k≤9223372036854775807)(hs:ts.length≤2000)(hz: ∀s∈ts,s.size≤1000000):
 Calls Tryz.prog 157 #[.int .i64 k,.slice A n c] w (ao5 w (zX k ts) (yN k ts)):=by
 subst hn
 have HA:=hiD (show zX k ts=_ from rfl)
 have HB:=hiD (show yN k ts=_ from rfl)
 have HX:=hiD hx
 have HZ:=hiD hz
 clear hx hz
 go_enter Tryz.func157,Tryz.ntmps157
 go_upto_region 1 with fail
 generalize hwH:World.alloc w _=w1;have HH:=hiD (Heap.one hwH);clear hwH
 go_upto_region 2 with fail
 go_simp;generalize hwA:World.alloc _ _=w2;have HH2:=hiD ((HH).out.allocE hwA);clear hwA HH
 have HH:=HH2
 clear HH2
 go_upto_region 3 with fail
 go_simp;generalize hwA:World.alloc _ _=w3;have HH2:=hiD ((HH).out.allocE hwA);clear hwA HH
 have HH:=HH2
 clear HH2
 by_cases k1:k=1
 ·subst k1
  have HA2:=hiD (show zX 1 ts=⟨1,(stT (ts,true)).1,(stN (stT (ts,true)).2).1,(stN (stN (stT (ts,true)).2).2).1,none,0,0,if(stN (stN (stT (ts,true)).2).2).2.2 then(z6 (stN (stN (stT (ts,true)).2).2).2.1).1 else [],0,0,⟨#[]⟩,0,0,0,0⟩from rfl)
  have HB2:=hiD (show yN 1 ts=((stN (stN (stT (ts,true)).2).2).2.2 && (z6 (stN (stN (stT (ts,true)).2).2).2.1).2)from rfl)
  clear HA HB
  generalize zX 1 ts=RA at *
  generalize yN 1 ts=RB at *
  go_upto_region 7 with fail
  go_wp2_with fail
  refine(aaK _ HH.out _ 1 ⟨A,c,ts,true⟩ rfl HX.out).mono ?_;rintro e wa ⟨y1,rfl,y1t,y1o,y1m,y1h⟩;have HH1:=hiD y1h;have y1M:=hiD y1m;clear HH y1h y1m;have HH:=HH1;clear HH1
  go_wp2_with fail
  refine(abM _ HH.out _ 1 y1 rfl y1M.out).mono ?_;rintro e wb ⟨y2,rfl,y2t,y2o,y2m,y2h⟩;have HH1:=hiD y2h;have y2M:=hiD y2m;clear HH y2h y2m;have HH:=HH1;clear HH1
  go_wp2_with fail
  refine(abM _ HH.out _ 1 y2 rfl y2M.out).mono ?_;rintro e wc ⟨y3,rfl,y3t,y3o,y3m,y3h⟩;have HH1:=hiD y3h;have y3M:=hiD y3m;clear HH y3h y3m;have HH:=HH1;clear HH1
  rw [abm]at y1t y1o
  rw [aaR,y1t,y1o]at y2t y2o
  rw [aaR,y2t,y2o]at y3t y3o
  have HV1:=hiD (congrArg Prod.fst (abm ⟨A,c,ts,true⟩))
  have HV2:=hiD (show(rdN y1).1=(stN (stT (ts,true)).2).1 by rw [aaR,y1t,y1o])
  have HV3:=hiD (show(rdN y2).1=(stN (stN (stT (ts,true)).2).2).1 by rw [aaR,y2t,y2o])
  generalize (rdT ⟨A,c,ts,true⟩).1=v1 at *
  generalize (rdN y1).1=v2 at *
  generalize (rdN y2).1=v3 at *
  have hl3:y3.ts.length≤2000:=by
   rw [y3t]
   exact Nat.le_trans (aes _) (Nat.le_trans (aes _) (Nat.le_trans (afL _) hs))
  go_upto_region 8 with(refine qa HH.out rfl rfl rfl rfl 0 rfl rfl rfl (by kernel_rfl) ?_;clear HH;intro wS HHS;have HH:=hiD HHS;clear HHS)
  have HH2:=hiD (HH.out.row0 (e:=160) (size:=2))
  clear HH
  obtain⟨A3,c3,ts3,ok3⟩:=y3
  dsimp only at y3t y3o hl3
  have HF:=hiD (show RA=⟨1,v1,v2,v3,none,0,0,if ok3 then(z6 ts3).1 else [],0,0,⟨#[]⟩,0,0,0,0⟩by rw [HA2.out,HV1.out,HV2.out,HV3.out,y3t,y3o])
  have HB3:=hiD (show RB=(ok3 && (z6 ts3).2)by rw [HB2.out,y3t,y3o])
  have HL3:=hiD hl3
  clear HA2 HB2 HV1 HV2 HV3 y1t y1o y2t y2o y3t y3o y1M y2M hl3 HX HZ
  have HR0:=hiD (show aiY ts3 ok3 ⟨A3,c3,ts3,ok3⟩ []by
   cases ok3 with
   | true=>exact .inl ⟨rfl,rfl,rfl,rfl⟩
   | false=>exact .inr (.inr ⟨rfl,rfl,rfl⟩))
  go_frame
  go_loopw [58] (fun _ wr=> ∃(y:Rdr) (O:List Prp) (v:Value),Hid (y.may w)∧Hid (aiY ts3 ok3 y O)∧O.length+y.ts.length≤2000∧Hid (Heap w [.row 160 2 v O.length (prps O),.box w2.heap.size [.int .i64 1,.string v1,.int .i64 v2,.int .i64 v3,v,.int .i64 0,.int .i64 0,.string ⟨#[]⟩,.int .u64 0,.int .u64 0,.int .u64 0,.int .u64 0],.box w1.heap.size y.cells,.box w.heap.size [.int .i64 0,.string ⟨#[]⟩,.int .i64 0,.int .i64 0,.slice none 0 0,.int .i64 0,.int .i64 0,.string ⟨#[]⟩,.int .u64 0,.int .u64 0,.int .u64 0,.int .u64 0]] wr)) (fun _ wr=>agA w1.heap.size wr)
  case atStart=>exact⟨⟨A3,c3,ts3,ok3⟩, [],_,y3M,HR0,by have:=HL3.out;simpa using this,HH2⟩
  case round=>
   clear HH2 HR0 y3M
   obtain⟨y,O,v,HM,HRl,hO,HH⟩:=hrel
   obtain⟨Av,cv,rfl,_,_,_⟩:=zr (HH.out.rowAt 0 rfl)
   obtain⟨yA,yc,yts,yok⟩:=y
   dsimp only at hO
   simp only [Rdr.cells]at HH
   cases yok with
   | false=>
     have hb1:(ok3 && (z6 ts3).2)=false:=by
      rcases HRl.out with⟨h,_⟩ | ⟨_,_,_,h⟩ | ⟨_,h,_⟩
      ·cases h
      ·rw [h];simp
      ·rw [h];rfl
     have hb2:(if ok3=true then(z6 ts3).1 else [])=O:=by
      rcases HRl.out with⟨h,_⟩ | ⟨_,h,h2,_⟩ | ⟨_,h,h2⟩
      ·cases h
      ·rw [if_pos h,h2]
      ·rw [if_neg (by rw [h];decide),h2]
     have HB1:=hiD hb1
     have HB4:=hiD hb2
     clear hb1 hb2
     go_upto_region 14 with(refine qM HH.out rfl rfl rfl 2 rfl rfl (by decide+kernel) ?_)
     have HHd:=hiD HH.out.drew;clear HH;refine wp_region_held_drew (S:=Heap w [_,_]) (by kernel_rfl) (HHd.out.pair 1 2 rfl rfl rfl) (fun hHeld=>?_);generalize World.drew _=wd at *;refine tG 0 rfl (fun wT hST=>zj hST ze (by kernel_rfl) rfl rfl 0 rfl (Nat.le_of_ble_eq_true rfl)) hHeld ?_;(try simp only [Act.put,lyA,lyB,lyC]);refine tS 1 ?_;(try simp only [Act.put,lyA,lyB,lyC]);refine tS 2 ?_;(try simp only [Act.put,lyA,lyB,lyC]);refine tS 3 ?_;(try simp only [Act.put,lyA,lyB,lyC]);refine tG 4 rfl (fun wT hST=>zk hST rfl rfl 1 rfl rfl (by kernel_rfl)) hHeld ?_;(try simp only [Act.put,lyA,lyB,lyC]);refine tS 5 ?_;(try simp only [Act.put,lyA,lyB,lyC]);refine sS 6 ?_;(try simp only [Act.put,lyA,lyB,lyC]);refine sS 7 ?_;(try simp only [Act.put,lyA,lyB,lyC]);refine sS 8 ?_;(try simp only [Act.put,lyA,lyB,lyC]);refine sS 9 ?_;(try simp only [Act.put,lyA,lyB,lyC]);refine sS 10 ?_;(try simp only [Act.put,lyA,lyB,lyC]);refine sS 11 ?_;(try simp only [Act.put,lyA,lyB,lyC]);refine tS 12 ?_;(try simp only [Act.put,lyA,lyB,lyC]);clear hHeld;refine oS 13 (fun K hK=>?_);refine yE HHd.out ze rfl rfl rfl 3 rfl rfl (Nat.le_of_ble_eq_true rfl) rfl ?_;intro w9 hh9;have HH:=hiD hh9;clear hh9 HHd;refine hK.out _ _ (HH.out.pair 1 2 rfl rfl rfl) (fun hHeld=>?_);clear hK K;(try simp only [Act.put,lyA,lyB,lyC]);refine tS 14 ?_;(try simp only [Act.put,lyA,lyB,lyC]);refine wpAnyH_done (by kernel_rfl) ?_ _;go_wp2_with fail;refine yD ze (by kernel_rfl) HH.out rfl rfl rfl 3 rfl rfl rfl ?_
     rw [HF.out,HB3.out];exact⟨⟨1,v1,v2,v3,Av,O.length,cv,O,0,0,⟨#[]⟩,0,0,0,0⟩,by rw [HB1.out];rfl,by simp only [Rec.bare];rw [HB4.out],rfl,(Rd.of_own (HH.out.rowAt 0 rfl)).more (Nat.le_refl _) (Nat.le_refl _),HH.out.ext⟩
   | true=>
     cases yts with
     | nil=>
       have hb1:(ok3 && (z6 ts3).2)=true:=by
        rcases HRl.out with⟨_,h,_,h2⟩ | ⟨h,_⟩ | ⟨h,_⟩
        ·rw [h,←h2];rfl
        ·cases h
        ·cases h
       have hb2:(if ok3=true then(z6 ts3).1 else [])=O:=by
        rcases HRl.out with⟨_,h,h2,_⟩ | ⟨h,_⟩ | ⟨h,_⟩
        ·rw [if_pos h,←h2];simp [z6]
        ·cases h
        ·cases h
       have HB1:=hiD hb1
       have HB4:=hiD hb2
       clear hb1 hb2
       simp only [List.length_nil]at HH
       go_upto_region 14 with(first | (refine qM HH.out rfl rfl rfl 2 rfl rfl (by decide+kernel) ?_) | (go_big_want;refine xG HH.out rfl rfl 2 rfl rfl (by decide+kernel) ?_))
       have HHd:=hiD HH.out.drew;clear HH;refine wp_region_held_drew (S:=Heap w [_,_]) (by kernel_rfl) (HHd.out.pair 1 2 rfl rfl rfl) (fun hHeld=>?_);generalize World.drew _=wd at *;refine tG 0 rfl (fun wT hST=>zj hST ze (by kernel_rfl) rfl rfl 0 rfl (Nat.le_of_ble_eq_true rfl)) hHeld ?_;(try simp only [Act.put,lyA,lyB,lyC]);refine tS 1 ?_;(try simp only [Act.put,lyA,lyB,lyC]);refine tS 2 ?_;(try simp only [Act.put,lyA,lyB,lyC]);refine tS 3 ?_;(try simp only [Act.put,lyA,lyB,lyC]);refine tG 4 rfl (fun wT hST=>zk hST rfl rfl 1 rfl rfl (by kernel_rfl)) hHeld ?_;(try simp only [Act.put,lyA,lyB,lyC]);refine tS 5 ?_;(try simp only [Act.put,lyA,lyB,lyC]);refine tS 6 ?_;(try simp only [Act.put,lyA,lyB,lyC]);refine tS 7 ?_;(try simp only [Act.put,lyA,lyB,lyC]);refine tS 8 ?_;(try simp only [Act.put,lyA,lyB,lyC]);refine tG 9 rfl (fun wT hST=>zk hST rfl rfl 1 rfl rfl (by kernel_rfl)) hHeld ?_;(try simp only [Act.put,lyA,lyB,lyC]);refine tS 10 ?_;(try simp only [Act.put,lyA,lyB,lyC]);refine tS 11 ?_;(try simp only [Act.put,lyA,lyB,lyC]);refine tS 12 ?_;(try simp only [Act.put,lyA,lyB,lyC]);clear hHeld;refine oS 13 (fun K hK=>?_);refine yE HHd.out ze rfl rfl rfl 3 rfl rfl (Nat.le_of_ble_eq_true rfl) rfl ?_;intro w9 hh9;have HH:=hiD hh9;clear hh9 HHd;refine hK.out _ _ (HH.out.pair 1 2 rfl rfl rfl) (fun hHeld=>?_);clear hK K;(try simp only [Act.put,lyA,lyB,lyC]);refine tS 14 ?_;(try simp only [Act.put,lyA,lyB,lyC]);refine wpAnyH_done (by kernel_rfl) ?_ _;go_wp2_with fail;refine yD ze (by kernel_rfl) HH.out rfl rfl rfl 3 rfl rfl rfl ?_
       rw [HF.out,HB3.out];exact⟨⟨1,v1,v2,v3,Av,O.length,cv,O,0,0,⟨#[]⟩,0,0,0,0⟩,by rw [HB1.out];rfl,by simp only [Rec.bare];rw [HB4.out],rfl,(Rd.of_own (HH.out.rowAt 0 rfl)).more (Nat.le_refl _) (Nat.le_refl _),HH.out.ext⟩
     | cons s r=>
       have HM0:=hiD (show agA w1.heap.size wr=r.length+1 from ahe (x:=⟨yA,yc,s::r,true⟩) (HH.out.boxAt 2 rfl))
       obtain⟨i0,hi0,hz0,hz1,hz2⟩:=info_parts anj
       simp only [List.length_cons]at HH
       go_upto_region 9 with(first | (refine qM HH.out rfl rfl rfl 2 rfl rfl (by decide+kernel) ?_) | (go_big_want;refine xG HH.out rfl rfl 2 rfl rfl (by decide+kernel) ?_))
       have HHd:=hiD HH.out.drew
       clear HH
       refine qe (fun k=>Nat.blt k 9) (S:=Heap w [_]) (by kernel_rfl) (HHd.out.only 1 rfl) (fun hHeld=>?_)
       generalize World.drew wr=wd at *
       refine mS 0 ?_;(try simp only [Act.put,lyA,lyB,lyC])
       refine mG 1 rfl (fun wT hST=>zk hST rfl rfl 0 rfl rfl (by kernel_rfl)) hHeld ?_;(try simp only [Act.put,lyA,lyB,lyC])
       refine mS 2 ?_;(try simp only [Act.put,lyA,lyB,lyC])
       refine mS 4 ?_;(try simp only [Act.put,lyA,lyB,lyC])
       clear hHeld
       refine adJ 3 rfl (by kernel_rfl) (by kernel_rfl) (fun K hK=>?_)
       go_simp
       refine(aaK _ HHd.out _ 2 ⟨yA,yc,s::r,true⟩ rfl HM.out).mono ?_
       rintro e wa ⟨⟨A1,c1,ts1,ok1⟩,rfl,y1t,y1o,y1m,y1h⟩
       rw [show(rdT ⟨yA,yc,s::r,true⟩).1=s from rfl]
       obtain rfl:ts1=r:=y1t
       obtain rfl:ok1=true:=y1o
       have HH1:=hiD y1h
       have HM1:=hiD y1m
       clear y1h y1m HHd HM
       go_wp2_with fail
       refine hK.out _ _ (HH1.out.only 1 rfl) (fun hHeld=>?_)
       clear hK K
       (try simp only [Act.put,lyA,lyB,lyC])
       clear hHeld
       refine adJ 5 rfl (by kernel_rfl) (by kernel_rfl) (fun K hK=>?_)
       go_simp
       refine(aaK _ HH1.out _ 2 ⟨A1,c1,ts1,true⟩ rfl HM1.out).mono ?_
       rintro e wb ⟨y2,rfl,y2t,y2o,y2m,y2h⟩
       have HH2:=hiD y2h
       have HM2:=hiD y2m
       rw [abm]at y2t y2o
       have HVx:=hiD (congrArg Prod.fst (abm ⟨A1,c1,ts1,true⟩))
       dsimp only at y2t y2o HVx
       generalize (rdT ⟨A1,c1,ts1,true⟩).1=x2 at *
       clear y2h y2m HH1 HM1
       go_wp2_with fail
       refine hK.out _ _ (HH2.out.only 1 rfl) (fun hHeld=>?_)
       clear hK K
       (try simp only [Act.put,lyA,lyB,lyC])
       refine mS 6 ?_;(try simp only [Act.put,lyA,lyB,lyC])
       clear hHeld
       refine adJ 7 rfl (by kernel_rfl) (by kernel_rfl) (fun K hK=>?_)
       go_simp;generalize hwA:World.alloc _ _=wc;have HH3:=hiD ((HH2).out.allocE hwA);clear hwA HH2
       refine hK.out _ _ (HH3.out.only 2 rfl) (fun hHeld=>?_)
       clear hK K
       (try simp only [Act.put,lyA,lyB,lyC])
       clear hHeld
       refine adJ 8 rfl (by kernel_rfl) (by kernel_rfl) (fun K hK=>?_)
       refine zO (.tmp 60) (.tmp 66) _ rfl Tryz.underlying41 hi0 hz0 hz1 hz2 rfl (by omega) HH3.out 1 rfl rfl (m:=1) rfl rfl (HH3.out.boxRd 0 rfl) (by simp [Value.oneCell']) (by simp only [maxLen,List.length_cons]at *;omega) (by simp only [List.length_cons]at hO;omega) ?_
       rintro v5 w5 hh5 ⟨A5,c5,rfl⟩
       have HH5:=hiD hh5
       clear hh5 HH3
       refine hK.out _ _ (HH5.out.only 2 rfl) (fun hHeld=>?_)
       clear hK K
       (try simp only [Act.put,lyA,lyB,lyC])
       refine yL 9 (v:=?_) rfl (by kernel_rfl) (by kernel_rfl) (by kernel_rfl) (by kernel_rfl) (fun _ _ _ h=>h) (by kernel_rfl) ?_ (fun _=>by assumption) ?_;rotate_left;(focus(intro w;go_simp <;> with_reducible rfl));(try simp only [Act.put,lyA,lyB,lyC])
       refine afr 10 rfl (by kernel_rfl) (by kernel_rfl) (by kernel_rfl) (fun K hK=>?_)
       refine z8 HH5.out rfl rfl rfl 2 rfl (Nat.le_of_ble_eq_true rfl) rfl (by kernel_rfl) ?_
       intro w8 h8
       refine hK.out _ _ ?_
       clear hK K hHeld
       (try simp only [Act.put,lyA,lyB,lyC])
       refine xD (by kernel_rfl) ?_
       have HH8:=hiD h8.tail
       clear HH5 h8
       have hrel2:aiY ts3 ok3 y2 (O++ [⟨s,x2⟩]):=by
        obtain⟨h0,h1,h2⟩:ok3=true∧O++(z6 (s::ts1)).1=(z6 ts3).1∧(z6 (s::ts1)).2=(z6 ts3).2:=by
         rcases HRl.out with⟨_,h,h1,h2⟩ | ⟨h,_⟩ | ⟨h,_⟩
         ·exact⟨h,h1,h2⟩
         ·cases h
         ·cases h
        have hx:=HVx.out
        cases ts1 with
        | nil=>exact .inr (.inl ⟨y2o,h0,by rw [←h1,hx];rfl,by rw [←h2];rfl⟩)
        | cons v' r2=>exact .inl ⟨y2o,h0,by rw [←h1,hx,y2t];simp [z6,stT],by rw [←h2,y2t];rfl⟩
       have hlen2:y2.ts.length≤ts1.length:=by
        rw [y2t]
        cases ts1 <;> simp [stT]
       have HRl2:=hiD hrel2
       have hO2:(O++ [(⟨s,x2⟩:Prp)]).length+y2.ts.length≤2000:=by
        simp only [List.length_append,List.length_cons,List.length_nil]at hO ⊢
        omega
       clear hrel2 HRl
       go_wp2_with fail
       go_roundw
       case rel=>
        refine⟨y2,O++ [⟨s,x2⟩],.slice A5 (O.length+1) c5,HM2,HRl2,hO2,?_⟩
        rw [show prps (O++ [(⟨s,x2⟩:Prp)])=prps O++ [.string s,.string x2]by simp [prps,Prp.cells],show(O++ [(⟨s,x2⟩:Prp)]).length=O.length+1 by simp]
        exact HH8
       case measure=>
        have h9:=ahe (x:=y2) (HH8.out.boxAt 2 rfl)
        have h10:=HM0.out
        omega
 ·have hk1:(k == 1)=false:=by simpa using k1
  by_cases k2:k=2
  ·subst k2
   have HA2:=hiD (show zX 2 ts=⟨2,⟨#[]⟩,0,0,none,0,0, [],(stN (ts,true)).1,0,(stT (stN (ts,true)).2).1,0,0,0,0⟩from rfl)
   have HB2:=hiD (show yN 2 ts=((stT (stN (ts,true)).2).2.2 && xE (stT (stN (ts,true)).2).2.1)from rfl)
   clear HA HB hk1 k1
   generalize zX 2 ts=RA at *
   generalize yN 2 ts=RB at *
   go_upto_region 11 with fail
   go_wp2_with fail
   refine(abM _ HH.out _ 1 ⟨A,c,ts,true⟩ rfl HX.out).mono ?_;rintro e wa ⟨y1,rfl,y1t,y1o,y1m,y1h⟩;have HH1:=hiD y1h;have y1M:=hiD y1m;clear HH y1h y1m;have HH:=HH1;clear HH1
   go_wp2_with fail
   refine(aaK _ HH.out _ 1 y1 rfl y1M.out).mono ?_;rintro e wb ⟨y2,rfl,y2t,y2o,y2m,y2h⟩;have HH1:=hiD y2h;have y2M:=hiD y2m;clear HH y2h y2m;have HH:=HH1;clear HH1
   rw [aaR]at y1t y1o
   rw [abm,y1t,y1o]at y2t y2o
   have HV1:=hiD (congrArg Prod.fst (aaR ⟨A,c,ts,true⟩))
   have HV2:=hiD (show(rdT y1).1=(stT (stN (ts,true)).2).1 by rw [abm,y1t,y1o])
   go_upto_region 14 with(refine qa HH.out rfl rfl rfl rfl 0 rfl rfl rfl (by kernel_rfl) ?_;clear HH;intro wS HHS;have HH:=hiD HHS;clear HHS)
   generalize (rdN ⟨A,c,ts,true⟩).1=v1 at *
   generalize (rdT y1).1=v2 at *
   obtain⟨A2,c2,ts2,ok2⟩:=y2
   dsimp only at y2t y2o
   rw [←y2t,←y2o]at HB2
   have HF:=hiD (show RA=⟨2,⟨#[]⟩,0,0,none,0,0, [],v1,0,v2,0,0,0,0⟩by rw [HA2.out,HV1.out,HV2.out])
   clear HA2 HV1 HV2 y1t y1o y2t y2o y1M y2M
   simp only [Rdr.cells]at HH
   cases ok2 with
   | false=>
     have HHd:=hiD HH.out.drew;clear HH;refine wp_region_held_drew (S:=Heap w [_,_]) (by kernel_rfl) (HHd.out.pair 0 1 rfl rfl rfl) (fun hHeld=>?_);generalize World.drew _=wd at *;refine tG 0 rfl (fun wT hST=>zj hST ze (by kernel_rfl) rfl rfl 0 rfl (Nat.le_of_ble_eq_true rfl)) hHeld ?_;(try simp only [Act.put,lyA,lyB,lyC]);refine tS 1 ?_;(try simp only [Act.put,lyA,lyB,lyC]);refine tS 2 ?_;(try simp only [Act.put,lyA,lyB,lyC]);refine tS 3 ?_;(try simp only [Act.put,lyA,lyB,lyC]);refine tG 4 rfl (fun wT hST=>zk hST rfl rfl 1 rfl rfl (by kernel_rfl)) hHeld ?_;(try simp only [Act.put,lyA,lyB,lyC]);refine tS 5 ?_;(try simp only [Act.put,lyA,lyB,lyC]);refine sS 6 ?_;(try simp only [Act.put,lyA,lyB,lyC]);refine sS 7 ?_;(try simp only [Act.put,lyA,lyB,lyC]);refine sS 8 ?_;(try simp only [Act.put,lyA,lyB,lyC]);refine sS 9 ?_;(try simp only [Act.put,lyA,lyB,lyC]);refine sS 10 ?_;(try simp only [Act.put,lyA,lyB,lyC]);refine sS 11 ?_;(try simp only [Act.put,lyA,lyB,lyC]);refine tS 12 ?_;(try simp only [Act.put,lyA,lyB,lyC]);clear hHeld;refine oS 13 (fun K hK=>?_);refine yE HHd.out ze rfl rfl rfl 2 rfl rfl (Nat.le_of_ble_eq_true rfl) rfl ?_;intro w9 hh9;have HH:=hiD hh9;clear hh9 HHd;refine hK.out _ _ (HH.out.pair 0 1 rfl rfl rfl) (fun hHeld=>?_);clear hK K;(try simp only [Act.put,lyA,lyB,lyC]);refine tS 14 ?_;(try simp only [Act.put,lyA,lyB,lyC]);refine wpAnyH_done (by kernel_rfl) ?_ _;go_wp2_with fail;refine yD ze (by kernel_rfl) HH.out rfl rfl rfl 2 rfl rfl rfl ?_
     rw [HF.out,HB2.out]
     exact⟨⟨2,⟨#[]⟩,0,0,none,0,0, [],v1,0,v2,0,0,0,0⟩,rfl,rfl,rfl,fun h=>absurd rfl h,HH.out.ext⟩
   | true=>
     cases hl:((ts2.length:Int) == 0)with
     | false=>
       have hl2:xE ts2=false:=by rw [xE,beq_eq_false_iff_ne];simpa using hl
       rw [hl2]at HB2
       have HHd:=hiD HH.out.drew;clear HH;refine wp_region_held_drew (S:=Heap w [_,_]) (by kernel_rfl) (HHd.out.pair 0 1 rfl rfl rfl) (fun hHeld=>?_);generalize World.drew _=wd at *;refine tG 0 rfl (fun wT hST=>zj hST ze (by kernel_rfl) rfl rfl 0 rfl (Nat.le_of_ble_eq_true rfl)) hHeld ?_;(try simp only [Act.put,lyA,lyB,lyC]);refine tS 1 ?_;(try simp only [Act.put,lyA,lyB,lyC]);refine tS 2 ?_;(try simp only [Act.put,lyA,lyB,lyC]);refine tS 3 ?_;(try simp only [Act.put,lyA,lyB,lyC]);refine tG 4 rfl (fun wT hST=>zk hST rfl rfl 1 rfl rfl (by kernel_rfl)) hHeld ?_;(try simp only [Act.put,lyA,lyB,lyC]);refine tS 5 ?_;(try simp only [Act.put,lyA,lyB,lyC]);refine tS 6 ?_;(try simp only [Act.put,lyA,lyB,lyC]);refine tS 7 ?_;(try simp only [Act.put,lyA,lyB,lyC]);refine tS 8 ?_;(try simp only [Act.put,lyA,lyB,lyC]);refine tG 9 rfl (fun wT hST=>zk hST rfl rfl 1 rfl rfl (by kernel_rfl)) hHeld ?_;(try simp only [Act.put,lyA,lyB,lyC]);refine tS 10 ?_;(try simp only [Act.put,lyA,lyB,lyC]);refine tS 11 ?_;(try simp only [Act.put,lyA,lyB,lyC]);refine tS 12 ?_;(try simp only [Act.put,lyA,lyB,lyC]);clear hHeld;refine oS 13 (fun K hK=>?_);refine yE HHd.out ze rfl rfl rfl 2 rfl rfl (Nat.le_of_ble_eq_true rfl) rfl ?_;intro w9 hh9;have HH:=hiD hh9;clear hh9 HHd;refine hK.out _ _ (HH.out.pair 0 1 rfl rfl rfl) (fun hHeld=>?_);clear hK K;(try simp only [Act.put,lyA,lyB,lyC]);refine tS 14 ?_;(try simp only [Act.put,lyA,lyB,lyC]);refine wpAnyH_done (by kernel_rfl) ?_ _;go_wp2_with fail;refine yD ze (by kernel_rfl) HH.out rfl rfl rfl 2 rfl rfl rfl ?_
       rw [HF.out,HB2.out]
       exact⟨⟨2,⟨#[]⟩,0,0,none,0,0, [],v1,0,v2,0,0,0,0⟩,rfl,rfl,rfl,fun h=>absurd rfl h,HH.out.ext⟩
     | true=>
       have hl2:xE ts2=true:=by rw [xE,beq_iff_eq];simpa using hl
       rw [hl2]at HB2
       have HHd:=hiD HH.out.drew;clear HH;refine wp_region_held_drew (S:=Heap w [_,_]) (by kernel_rfl) (HHd.out.pair 0 1 rfl rfl rfl) (fun hHeld=>?_);generalize World.drew _=wd at *;refine tG 0 rfl (fun wT hST=>zj hST ze (by kernel_rfl) rfl rfl 0 rfl (Nat.le_of_ble_eq_true rfl)) hHeld ?_;(try simp only [Act.put,lyA,lyB,lyC]);refine tS 1 ?_;(try simp only [Act.put,lyA,lyB,lyC]);refine tS 2 ?_;(try simp only [Act.put,lyA,lyB,lyC]);refine tS 3 ?_;(try simp only [Act.put,lyA,lyB,lyC]);refine tG 4 rfl (fun wT hST=>zk hST rfl rfl 1 rfl rfl (by kernel_rfl)) hHeld ?_;(try simp only [Act.put,lyA,lyB,lyC]);refine tS 5 ?_;(try simp only [Act.put,lyA,lyB,lyC]);refine tS 6 ?_;(try simp only [Act.put,lyA,lyB,lyC]);refine tS 7 ?_;(try simp only [Act.put,lyA,lyB,lyC]);refine tS 8 ?_;(try simp only [Act.put,lyA,lyB,lyC]);refine tG 9 rfl (fun wT hST=>zk hST rfl rfl 1 rfl rfl (by kernel_rfl)) hHeld ?_;(try simp only [Act.put,lyA,lyB,lyC]);refine tS 10 ?_;(try simp only [Act.put,lyA,lyB,lyC]);refine tS 11 ?_;(try simp only [Act.put,lyA,lyB,lyC]);refine tS 12 ?_;(try simp only [Act.put,lyA,lyB,lyC]);clear hHeld;refine oS 13 (fun K hK=>?_);refine yE HHd.out ze rfl rfl rfl 2 rfl rfl (Nat.le_of_ble_eq_true rfl) rfl ?_;intro w9 hh9;have HH:=hiD hh9;clear hh9 HHd;refine hK.out _ _ (HH.out.pair 0 1 rfl rfl rfl) (fun hHeld=>?_);clear hK K;(try simp only [Act.put,lyA,lyB,lyC]);refine tS 14 ?_;(try simp only [Act.put,lyA,lyB,lyC]);refine wpAnyH_done (by kernel_rfl) ?_ _;go_wp2_with fail;refine yD ze (by kernel_rfl) HH.out rfl rfl rfl 2 rfl rfl rfl ?_
       rw [HF.out,HB2.out]
       exact⟨⟨2,⟨#[]⟩,0,0,none,0,0, [],v1,0,v2,0,0,0,0⟩,rfl,rfl,rfl,fun h=>absurd rfl h,HH.out.ext⟩
  ·have hk2:(k == 2)=false:=by simpa using k2
   by_cases k3:k=3
   ·subst k3
    have HA2:=hiD (show zX 3 ts=⟨3,⟨#[]⟩,0,0,none,0,0, [],(stN (ts,true)).1,(stN (stN (ts,true)).2).1,⟨#[]⟩,0,0,0,0⟩from rfl)
    have HB2:=hiD (show yN 3 ts=((stN (stN (ts,true)).2).2.2 && xE (stN (stN (ts,true)).2).2.1)from rfl)
    clear HA HB hk1 k1 hk2 k2
    generalize zX 3 ts=RA at *
    generalize yN 3 ts=RB at *
    go_upto_region 13 with fail
    go_wp2_with fail
    refine(abM _ HH.out _ 1 ⟨A,c,ts,true⟩ rfl HX.out).mono ?_;rintro e wa ⟨y1,rfl,y1t,y1o,y1m,y1h⟩;have HH1:=hiD y1h;have y1M:=hiD y1m;clear HH y1h y1m;have HH:=HH1;clear HH1
    go_wp2_with fail
    refine(abM _ HH.out _ 1 y1 rfl y1M.out).mono ?_;rintro e wb ⟨y2,rfl,y2t,y2o,y2m,y2h⟩;have HH1:=hiD y2h;have y2M:=hiD y2m;clear HH y2h y2m;have HH:=HH1;clear HH1
    rw [aaR]at y1t y1o
    rw [aaR,y1t,y1o]at y2t y2o
    have HV1:=hiD (congrArg Prod.fst (aaR ⟨A,c,ts,true⟩))
    have HV2:=hiD (show(rdN y1).1=(stN (stN (ts,true)).2).1 by rw [aaR,y1t,y1o])
    go_upto_region 14 with(refine qa HH.out rfl rfl rfl rfl 0 rfl rfl rfl (by kernel_rfl) ?_;clear HH;intro wS HHS;have HH:=hiD HHS;clear HHS)
    generalize (rdN ⟨A,c,ts,true⟩).1=v1 at *
    generalize (rdN y1).1=v2 at *
    obtain⟨A2,c2,ts2,ok2⟩:=y2
    dsimp only at y2t y2o
    rw [←y2t,←y2o]at HB2
    have HF:=hiD (show RA=⟨3,⟨#[]⟩,0,0,none,0,0, [],v1,v2,⟨#[]⟩,0,0,0,0⟩by rw [HA2.out,HV1.out,HV2.out])
    clear HA2 HV1 HV2 y1t y1o y2t y2o y1M y2M
    simp only [Rdr.cells]at HH
    cases ok2 with
    | false=>
      have HHd:=hiD HH.out.drew;clear HH;refine wp_region_held_drew (S:=Heap w [_,_]) (by kernel_rfl) (HHd.out.pair 0 1 rfl rfl rfl) (fun hHeld=>?_);generalize World.drew _=wd at *;refine tG 0 rfl (fun wT hST=>zj hST ze (by kernel_rfl) rfl rfl 0 rfl (Nat.le_of_ble_eq_true rfl)) hHeld ?_;(try simp only [Act.put,lyA,lyB,lyC]);refine tS 1 ?_;(try simp only [Act.put,lyA,lyB,lyC]);refine tS 2 ?_;(try simp only [Act.put,lyA,lyB,lyC]);refine tS 3 ?_;(try simp only [Act.put,lyA,lyB,lyC]);refine tG 4 rfl (fun wT hST=>zk hST rfl rfl 1 rfl rfl (by kernel_rfl)) hHeld ?_;(try simp only [Act.put,lyA,lyB,lyC]);refine tS 5 ?_;(try simp only [Act.put,lyA,lyB,lyC]);refine sS 6 ?_;(try simp only [Act.put,lyA,lyB,lyC]);refine sS 7 ?_;(try simp only [Act.put,lyA,lyB,lyC]);refine sS 8 ?_;(try simp only [Act.put,lyA,lyB,lyC]);refine sS 9 ?_;(try simp only [Act.put,lyA,lyB,lyC]);refine sS 10 ?_;(try simp only [Act.put,lyA,lyB,lyC]);refine sS 11 ?_;(try simp only [Act.put,lyA,lyB,lyC]);refine tS 12 ?_;(try simp only [Act.put,lyA,lyB,lyC]);clear hHeld;refine oS 13 (fun K hK=>?_);refine yE HHd.out ze rfl rfl rfl 2 rfl rfl (Nat.le_of_ble_eq_true rfl) rfl ?_;intro w9 hh9;have HH:=hiD hh9;clear hh9 HHd;refine hK.out _ _ (HH.out.pair 0 1 rfl rfl rfl) (fun hHeld=>?_);clear hK K;(try simp only [Act.put,lyA,lyB,lyC]);refine tS 14 ?_;(try simp only [Act.put,lyA,lyB,lyC]);refine wpAnyH_done (by kernel_rfl) ?_ _;go_wp2_with fail;refine yD ze (by kernel_rfl) HH.out rfl rfl rfl 2 rfl rfl rfl ?_
      rw [HF.out,HB2.out]
      exact⟨⟨3,⟨#[]⟩,0,0,none,0,0, [],v1,v2,⟨#[]⟩,0,0,0,0⟩,rfl,rfl,rfl,fun h=>absurd rfl h,HH.out.ext⟩
    | true=>
      cases hl:((ts2.length:Int) == 0)with
      | false=>
        have hl2:xE ts2=false:=by rw [xE,beq_eq_false_iff_ne];simpa using hl
        rw [hl2]at HB2
        have HHd:=hiD HH.out.drew;clear HH;refine wp_region_held_drew (S:=Heap w [_,_]) (by kernel_rfl) (HHd.out.pair 0 1 rfl rfl rfl) (fun hHeld=>?_);generalize World.drew _=wd at *;refine tG 0 rfl (fun wT hST=>zj hST ze (by kernel_rfl) rfl rfl 0 rfl (Nat.le_of_ble_eq_true rfl)) hHeld ?_;(try simp only [Act.put,lyA,lyB,lyC]);refine tS 1 ?_;(try simp only [Act.put,lyA,lyB,lyC]);refine tS 2 ?_;(try simp only [Act.put,lyA,lyB,lyC]);refine tS 3 ?_;(try simp only [Act.put,lyA,lyB,lyC]);refine tG 4 rfl (fun wT hST=>zk hST rfl rfl 1 rfl rfl (by kernel_rfl)) hHeld ?_;(try simp only [Act.put,lyA,lyB,lyC]);refine tS 5 ?_;(try simp only [Act.put,lyA,lyB,lyC]);refine tS 6 ?_;(try simp only [Act.put,lyA,lyB,lyC]);refine tS 7 ?_;(try simp only [Act.put,lyA,lyB,lyC]);refine tS 8 ?_;(try simp only [Act.put,lyA,lyB,lyC]);refine tG 9 rfl (fun wT hST=>zk hST rfl rfl 1 rfl rfl (by kernel_rfl)) hHeld ?_;(try simp only [Act.put,lyA,lyB,lyC]);refine tS 10 ?_;(try simp only [Act.put,lyA,lyB,lyC]);refine tS 11 ?_;(try simp only [Act.put,lyA,lyB,lyC]);refine tS 12 ?_;(try simp only [Act.put,lyA,lyB,lyC]);clear hHeld;refine oS 13 (fun K hK=>?_);refine yE HHd.out ze rfl rfl rfl 2 rfl rfl (Nat.le_of_ble_eq_true rfl) rfl ?_;intro w9 hh9;have HH:=hiD hh9;clear hh9 HHd;refine hK.out _ _ (HH.out.pair 0 1 rfl rfl rfl) (fun hHeld=>?_);clear hK K;(try simp only [Act.put,lyA,lyB,lyC]);refine tS 14 ?_;(try simp only [Act.put,lyA,lyB,lyC]);refine wpAnyH_done (by kernel_rfl) ?_ _;go_wp2_with fail;refine yD ze (by kernel_rfl) HH.out rfl rfl rfl 2 rfl rfl rfl ?_
        rw [HF.out,HB2.out]
        exact⟨⟨3,⟨#[]⟩,0,0,none,0,0, [],v1,v2,⟨#[]⟩,0,0,0,0⟩,rfl,rfl,rfl,fun h=>absurd rfl h,HH.out.ext⟩
      | true=>
        have hl2:xE ts2=true:=by rw [xE,beq_iff_eq];simpa using hl
        rw [hl2]at HB2
        have HHd:=hiD HH.out.drew;clear HH;refine wp_region_held_drew (S:=Heap w [_,_]) (by kernel_rfl) (HHd.out.pair 0 1 rfl rfl rfl) (fun hHeld=>?_);generalize World.drew _=wd at *;refine tG 0 rfl (fun wT hST=>zj hST ze (by kernel_rfl) rfl rfl 0 rfl (Nat.le_of_ble_eq_true rfl)) hHeld ?_;(try simp only [Act.put,lyA,lyB,lyC]);refine tS 1 ?_;(try simp only [Act.put,lyA,lyB,lyC]);refine tS 2 ?_;(try simp only [Act.put,lyA,lyB,lyC]);refine tS 3 ?_;(try simp only [Act.put,lyA,lyB,lyC]);refine tG 4 rfl (fun wT hST=>zk hST rfl rfl 1 rfl rfl (by kernel_rfl)) hHeld ?_;(try simp only [Act.put,lyA,lyB,lyC]);refine tS 5 ?_;(try simp only [Act.put,lyA,lyB,lyC]);refine tS 6 ?_;(try simp only [Act.put,lyA,lyB,lyC]);refine tS 7 ?_;(try simp only [Act.put,lyA,lyB,lyC]);refine tS 8 ?_;(try simp only [Act.put,lyA,lyB,lyC]);refine tG 9 rfl (fun wT hST=>zk hST rfl rfl 1 rfl rfl (by kernel_rfl)) hHeld ?_;(try simp only [Act.put,lyA,lyB,lyC]);refine tS 10 ?_;(try simp only [Act.put,lyA,lyB,lyC]);refine tS 11 ?_;(try simp only [Act.put,lyA,lyB,lyC]);refine tS 12 ?_;(try simp only [Act.put,lyA,lyB,lyC]);clear hHeld;refine oS 13 (fun K hK=>?_);refine yE HHd.out ze rfl rfl rfl 2 rfl rfl (Nat.le_of_ble_eq_true rfl) rfl ?_;intro w9 hh9;have HH:=hiD hh9;clear hh9 HHd;refine hK.out _ _ (HH.out.pair 0 1 rfl rfl rfl) (fun hHeld=>?_);clear hK K;(try simp only [Act.put,lyA,lyB,lyC]);refine tS 14 ?_;(try simp only [Act.put,lyA,lyB,lyC]);refine wpAnyH_done (by kernel_rfl) ?_ _;go_wp2_with fail;refine yD ze (by kernel_rfl) HH.out rfl rfl rfl 2 rfl rfl rfl ?_
        rw [HF.out,HB2.out]
        exact⟨⟨3,⟨#[]⟩,0,0,none,0,0, [],v1,v2,⟨#[]⟩,0,0,0,0⟩,rfl,rfl,rfl,fun h=>absurd rfl h,HH.out.ext⟩
   ·have hk3:(k == 3)=false:=by simpa using k3
    have HA2:=hiD (show zX k ts=⟨k,⟨#[]⟩,0,0,none,0,0, [],0,0,⟨#[]⟩,(qd (stT (ts,true)).1.data.toList).a,(qd (stT (ts,true)).1.data.toList).b,(qd (stT (ts,true)).1.data.toList).c,(qd (stT (ts,true)).1.data.toList).d⟩by rw [zX,if_neg k1,if_neg k2,if_neg k3])
    have HB2:=hiD (show yN k ts=(((stT (ts,true)).2.2 && acO (stT (ts,true)).1.data.toList == 0) && xE (stT (ts,true)).2.1)by rw [yN,if_neg k1,if_neg k2,if_neg k3])
    clear HA HB k1 k2 k3
    generalize zX k ts=RA at *
    generalize yN k ts=RB at *
    go_upto_region 4 with fail
    go_wp2_with fail
    refine(aaK _ HH.out _ 1 ⟨A,c,ts,true⟩ rfl HX.out).mono ?_;rintro e wa ⟨y1,rfl,y1t,y1o,y1m,y1h⟩;have HH1:=hiD y1h;have y1M:=hiD y1m;clear HH y1h y1m;have HH:=HH1;clear HH1
    rw [abm]at y1t y1o
    have HV1:=hiD (congrArg Prod.fst (abm ⟨A,c,ts,true⟩))
    have HZ1:=hiD (show(rdT ⟨A,c,ts,true⟩).1.size≤1000000 by cases ts with | nil=>exact Nat.zero_le _ | cons s r=>exact HZ.out s (by simp))
    generalize (rdT ⟨A,c,ts,true⟩).1=v1 at *
    have hcv:=fun W=>run_bytes_of_string (P:=Tryz.prog) W 9 53 5 v1 Tryz.underlying9 Tryz.underlying53 Tryz.underlying5
    have hG1:v1.size≤grownCap wa v1.size 0 5:=grownCap_ge wa _ _ _
    have hG2:grownCap wa v1.size 0 5≤maxLen:=grownCap_le_maxLen wa v1.size 0 5 (by have:=HZ1.out;simp only [maxLen];omega)
    have HRb:=hiD (aam wa v1 (grownCap wa v1.size 0 5) 5 ((bytesRow v1 (grownCap wa v1.size 0 5)).size,(bytesRow v1 (grownCap wa v1.size 0 5)).size+1))
    have HG1:=hiD hG1
    have HG2:=hiD hG2
    clear hG1 hG2
    go_wp2_with fail
    clear hcv
    refine(agj _ _ v1.size _ v1.data.toList (by rw [zv]) HG1.out (HRb.out.drew.more (Nat.zero_le _) (by simp)) (by have:=HZ1.out;omega) (by have:=HG2.out;simp only [maxLen]at this;exact this)).mono ?_
    rintro e wb ⟨rfl,eb⟩
    have HH3:=hiD (HH.out.later ((Ext.drew ((Ext.refl wa).alloc _)).trans eb))
    clear HH eb HRb HG1 HG2
    have HH:=HH3
    clear HH3
    generalize hsv:qd v1.data.toList=sv at *
    have HSv:=hiD hsv
    clear hsv
    obtain⟨sa,sb,sc,sd⟩:=sv
    simp only [Su.cells]
    go_upto_region 5 with fail
    go_simp;generalize hwA:World.alloc _ _=wc;have HH4:=hiD ((HH).out.allocE hwA);clear hwA HH
    have HH:=HH4
    clear HH4
    obtain⟨A2,c2,ts2,ok2⟩:=y1
    dsimp only at y1t y1o
    rw [←y1t,←y1o,←HV1.out]at HB2
    have HF:=hiD (show RA=⟨k,⟨#[]⟩,0,0,none,0,0, [],0,0,⟨#[]⟩,sa,sb,sc,sd⟩by rw [HA2.out,←HV1.out,HSv.out])
    clear HA2 HV1 HSv y1t y1o y1M HZ1
    simp only [Rdr.cells]at HH
    generalize acO v1.data.toList=SE at *
    cases ok2 with
    | false=>
      have HHd:=hiD HH.out.drew;clear HH;refine qe (fun k=>(Nat.blt 0 k && Nat.blt k 7) || (Nat.blt 9 k && Nat.blt k 12)) (S:=Heap w [_,_]) (by kernel_rfl) (HHd.out.pair 0 2 rfl rfl rfl) (fun hHeld=>?_);generalize World.drew _=wd at *;refine yL 0 (v:=?_) rfl (by kernel_rfl) (by kernel_rfl) (by kernel_rfl) (by kernel_rfl) (fun _ _ _ h=>h) (by kernel_rfl) ?_ (fun _=>by assumption) ?_;rotate_left;(focus(intro w;go_simp <;> with_reducible rfl));(try simp only [Act.put,lyA,lyB,lyC]);refine mG 1 rfl (fun wT hST=>zj hST qw (by kernel_rfl) rfl rfl 0 rfl (Nat.le_of_ble_eq_true rfl)) hHeld ?_;(try simp only [Act.put,lyA,lyB,lyC]);refine mS 2 ?_;(try simp only [Act.put,lyA,lyB,lyC]);refine mS 3 ?_;(try simp only [Act.put,lyA,lyB,lyC]);refine mS 4 ?_;(try simp only [Act.put,lyA,lyB,lyC]);refine mG 5 rfl (fun wT hST=>zk hST rfl rfl 1 rfl rfl (by kernel_rfl)) hHeld ?_;(try simp only [Act.put,lyA,lyB,lyC]);refine mS 6 ?_;(try simp only [Act.put,lyA,lyB,lyC])
      refine alp 7 rfl (by kernel_rfl) (by kernel_rfl) (by kernel_rfl) (by kernel_rfl) (fun _ _ _ h=>h) (by kernel_rfl) (fun _=>by assumption) ?_;(try simp only [Act.put,lyA,lyB,lyC])
      refine alp 8 rfl (by kernel_rfl) (by kernel_rfl) (by kernel_rfl) (by kernel_rfl) (fun _ _ _ h=>h) (by kernel_rfl) (fun _=>by assumption) ?_;(try simp only [Act.put,lyA,lyB,lyC])
      refine yL 9 (v:=?_) rfl (by kernel_rfl) (by kernel_rfl) (by kernel_rfl) (by kernel_rfl) (fun _ _ _ h=>h) (by kernel_rfl) ?_ (fun _=>by assumption) ?_;rotate_left;(focus(intro w;go_simp <;> with_reducible rfl));(try simp only [Act.put,lyA,lyB,lyC]);refine mS 10 ?_;(try simp only [Act.put,lyA,lyB,lyC]);clear hHeld;refine adJ 11 rfl (by kernel_rfl) (by kernel_rfl) (fun K hK=>?_);refine yE HHd.out qw rfl rfl rfl 1 rfl rfl (Nat.le_of_ble_eq_true rfl) rfl ?_;intro w7 hh7;have HH7:=hiD hh7;clear hh7 HHd;refine hK.out _ _ (HH7.out.pair 0 2 rfl rfl rfl) (fun hHeld=>?_);clear hK K;(try simp only [Act.put,lyA,lyB,lyC]);refine yL 12 (v:=?_) rfl (by kernel_rfl) (by kernel_rfl) (by kernel_rfl) (by kernel_rfl) (fun _ _ _ h=>h) (by kernel_rfl) ?_ (fun _=>by assumption) ?_;rotate_left;(focus(intro w;go_simp <;> with_reducible rfl));(try simp only [Act.put,lyA,lyB,lyC]);refine yL 13 (v:=?_) rfl (by kernel_rfl) (by kernel_rfl) (by kernel_rfl) (by kernel_rfl) (fun _ _ _ h=>h) (by kernel_rfl) ?_ (fun _=>by assumption) ?_;rotate_left;(focus(intro w;go_simp <;> with_reducible rfl));(try simp only [Act.put,lyA,lyB,lyC]);refine afr 14 rfl (by kernel_rfl) (by kernel_rfl) (by kernel_rfl) (fun K hK=>?_);refine z8 HH7.out rfl rfl rfl 2 rfl (Nat.le_of_ble_eq_true rfl) rfl (by kernel_rfl) ?_;intro w8 h8;refine hK.out _ _ ?_;clear hK K hHeld;(try simp only [Act.put,lyA,lyB,lyC]);refine xD (by kernel_rfl) ?_;have HH:=hiD h8.tail;clear HH7 h8
      go_upto_region 14 with fail
      have HHd:=hiD HH.out.drew;clear HH;refine wp_region_held_drew (S:=Heap w [_,_]) (by kernel_rfl) (HHd.out.pair 0 1 rfl rfl rfl) (fun hHeld=>?_);generalize World.drew _=wd at *;refine tG 0 rfl (fun wT hST=>zj hST ze (by kernel_rfl) rfl rfl 0 rfl (Nat.le_of_ble_eq_true rfl)) hHeld ?_;(try simp only [Act.put,lyA,lyB,lyC]);refine tS 1 ?_;(try simp only [Act.put,lyA,lyB,lyC]);refine tS 2 ?_;(try simp only [Act.put,lyA,lyB,lyC]);refine tS 3 ?_;(try simp only [Act.put,lyA,lyB,lyC]);refine tG 4 rfl (fun wT hST=>zk hST rfl rfl 1 rfl rfl (by kernel_rfl)) hHeld ?_;(try simp only [Act.put,lyA,lyB,lyC]);refine tS 5 ?_;(try simp only [Act.put,lyA,lyB,lyC]);refine sS 6 ?_;(try simp only [Act.put,lyA,lyB,lyC]);refine sS 7 ?_;(try simp only [Act.put,lyA,lyB,lyC]);refine sS 8 ?_;(try simp only [Act.put,lyA,lyB,lyC]);refine sS 9 ?_;(try simp only [Act.put,lyA,lyB,lyC]);refine sS 10 ?_;(try simp only [Act.put,lyA,lyB,lyC]);refine sS 11 ?_;(try simp only [Act.put,lyA,lyB,lyC]);refine tS 12 ?_;(try simp only [Act.put,lyA,lyB,lyC]);clear hHeld;refine oS 13 (fun K hK=>?_);refine yE HHd.out ze rfl rfl rfl 2 rfl rfl (Nat.le_of_ble_eq_true rfl) rfl ?_;intro w9 hh9;have HH:=hiD hh9;clear hh9 HHd;refine hK.out _ _ (HH.out.pair 0 1 rfl rfl rfl) (fun hHeld=>?_);clear hK K;(try simp only [Act.put,lyA,lyB,lyC]);refine tS 14 ?_;(try simp only [Act.put,lyA,lyB,lyC]);refine wpAnyH_done (by kernel_rfl) ?_ _;go_wp2_with fail;refine yD ze (by kernel_rfl) HH.out rfl rfl rfl 2 rfl rfl rfl ?_
      rw [HF.out,HB2.out]
      exact⟨⟨k,⟨#[]⟩,0,0,none,0,0, [],0,0,⟨#[]⟩,sa,sb,sc,sd⟩,rfl,rfl,rfl,fun h=>absurd rfl h,HH.out.ext⟩
    | true=>
      cases hE:(SE == 0)with
      | false=>
        rw [hE]at HB2
        have HHd:=hiD HH.out.drew;clear HH;refine qe (fun k=>(Nat.blt 0 k && Nat.blt k 7) || (Nat.blt 9 k && Nat.blt k 12)) (S:=Heap w [_,_]) (by kernel_rfl) (HHd.out.pair 0 2 rfl rfl rfl) (fun hHeld=>?_);generalize World.drew _=wd at *;refine yL 0 (v:=?_) rfl (by kernel_rfl) (by kernel_rfl) (by kernel_rfl) (by kernel_rfl) (fun _ _ _ h=>h) (by kernel_rfl) ?_ (fun _=>by assumption) ?_;rotate_left;(focus(intro w;go_simp <;> with_reducible rfl));(try simp only [Act.put,lyA,lyB,lyC]);refine mG 1 rfl (fun wT hST=>zj hST qw (by kernel_rfl) rfl rfl 0 rfl (Nat.le_of_ble_eq_true rfl)) hHeld ?_;(try simp only [Act.put,lyA,lyB,lyC]);refine mS 2 ?_;(try simp only [Act.put,lyA,lyB,lyC]);refine mS 3 ?_;(try simp only [Act.put,lyA,lyB,lyC]);refine mS 4 ?_;(try simp only [Act.put,lyA,lyB,lyC]);refine mG 5 rfl (fun wT hST=>zk hST rfl rfl 1 rfl rfl (by kernel_rfl)) hHeld ?_;(try simp only [Act.put,lyA,lyB,lyC]);refine mS 6 ?_;(try simp only [Act.put,lyA,lyB,lyC])
        refine yL 7 (v:=?_) rfl (by kernel_rfl) (by kernel_rfl) (by kernel_rfl) (by kernel_rfl) (fun _ _ _ h=>h) (by kernel_rfl) ?_ (fun _=>by assumption) ?_;rotate_left;(focus(intro w;go_simp <;> with_reducible rfl));(try simp only [Act.put,lyA,lyB,lyC])
        refine yL 8 (v:=?_) rfl (by kernel_rfl) (by kernel_rfl) (by kernel_rfl) (by kernel_rfl) (fun _ _ _ h=>h) (by kernel_rfl) ?_ (fun _=>by assumption) ?_;rotate_left;(focus(intro w;go_simp <;> with_reducible rfl));(try simp only [Act.put,lyA,lyB,lyC])
        refine yL 9 (v:=?_) rfl (by kernel_rfl) (by kernel_rfl) (by kernel_rfl) (by kernel_rfl) (fun _ _ _ h=>h) (by kernel_rfl) ?_ (fun _=>by assumption) ?_;rotate_left;(focus(intro w;go_simp <;> with_reducible rfl));(try simp only [Act.put,lyA,lyB,lyC]);refine mS 10 ?_;(try simp only [Act.put,lyA,lyB,lyC]);clear hHeld;refine adJ 11 rfl (by kernel_rfl) (by kernel_rfl) (fun K hK=>?_);refine yE HHd.out qw rfl rfl rfl 1 rfl rfl (Nat.le_of_ble_eq_true rfl) rfl ?_;intro w7 hh7;have HH7:=hiD hh7;clear hh7 HHd;refine hK.out _ _ (HH7.out.pair 0 2 rfl rfl rfl) (fun hHeld=>?_);clear hK K;(try simp only [Act.put,lyA,lyB,lyC]);refine yL 12 (v:=?_) rfl (by kernel_rfl) (by kernel_rfl) (by kernel_rfl) (by kernel_rfl) (fun _ _ _ h=>h) (by kernel_rfl) ?_ (fun _=>by assumption) ?_;rotate_left;(focus(intro w;go_simp <;> with_reducible rfl));(try simp only [Act.put,lyA,lyB,lyC]);refine yL 13 (v:=?_) rfl (by kernel_rfl) (by kernel_rfl) (by kernel_rfl) (by kernel_rfl) (fun _ _ _ h=>h) (by kernel_rfl) ?_ (fun _=>by assumption) ?_;rotate_left;(focus(intro w;go_simp <;> with_reducible rfl));(try simp only [Act.put,lyA,lyB,lyC]);refine afr 14 rfl (by kernel_rfl) (by kernel_rfl) (by kernel_rfl) (fun K hK=>?_);refine z8 HH7.out rfl rfl rfl 2 rfl (Nat.le_of_ble_eq_true rfl) rfl (by kernel_rfl) ?_;intro w8 h8;refine hK.out _ _ ?_;clear hK K hHeld;(try simp only [Act.put,lyA,lyB,lyC]);refine xD (by kernel_rfl) ?_;have HH:=hiD h8.tail;clear HH7 h8
        go_upto_region 14 with fail
        have HHd:=hiD HH.out.drew;clear HH;refine wp_region_held_drew (S:=Heap w [_,_]) (by kernel_rfl) (HHd.out.pair 0 1 rfl rfl rfl) (fun hHeld=>?_);generalize World.drew _=wd at *;refine tG 0 rfl (fun wT hST=>zj hST ze (by kernel_rfl) rfl rfl 0 rfl (Nat.le_of_ble_eq_true rfl)) hHeld ?_;(try simp only [Act.put,lyA,lyB,lyC]);refine tS 1 ?_;(try simp only [Act.put,lyA,lyB,lyC]);refine tS 2 ?_;(try simp only [Act.put,lyA,lyB,lyC]);refine tS 3 ?_;(try simp only [Act.put,lyA,lyB,lyC]);refine tG 4 rfl (fun wT hST=>zk hST rfl rfl 1 rfl rfl (by kernel_rfl)) hHeld ?_;(try simp only [Act.put,lyA,lyB,lyC]);refine tS 5 ?_;(try simp only [Act.put,lyA,lyB,lyC]);refine sS 6 ?_;(try simp only [Act.put,lyA,lyB,lyC]);refine sS 7 ?_;(try simp only [Act.put,lyA,lyB,lyC]);refine sS 8 ?_;(try simp only [Act.put,lyA,lyB,lyC]);refine sS 9 ?_;(try simp only [Act.put,lyA,lyB,lyC]);refine sS 10 ?_;(try simp only [Act.put,lyA,lyB,lyC]);refine sS 11 ?_;(try simp only [Act.put,lyA,lyB,lyC]);refine tS 12 ?_;(try simp only [Act.put,lyA,lyB,lyC]);clear hHeld;refine oS 13 (fun K hK=>?_);refine yE HHd.out ze rfl rfl rfl 2 rfl rfl (Nat.le_of_ble_eq_true rfl) rfl ?_;intro w9 hh9;have HH:=hiD hh9;clear hh9 HHd;refine hK.out _ _ (HH.out.pair 0 1 rfl rfl rfl) (fun hHeld=>?_);clear hK K;(try simp only [Act.put,lyA,lyB,lyC]);refine tS 14 ?_;(try simp only [Act.put,lyA,lyB,lyC]);refine wpAnyH_done (by kernel_rfl) ?_ _;go_wp2_with fail;refine yD ze (by kernel_rfl) HH.out rfl rfl rfl 2 rfl rfl rfl ?_
        rw [HF.out,HB2.out]
        exact⟨⟨k,⟨#[]⟩,0,0,none,0,0, [],0,0,⟨#[]⟩,sa,sb,sc,sd⟩,rfl,rfl,rfl,fun h=>absurd rfl h,HH.out.ext⟩
      | true=>
        rw [hE]at HB2
        have HHd:=hiD HH.out.drew;clear HH;refine qe (fun k=>(Nat.blt 0 k && Nat.blt k 7) || (Nat.blt 9 k && Nat.blt k 12)) (S:=Heap w [_,_]) (by kernel_rfl) (HHd.out.pair 0 2 rfl rfl rfl) (fun hHeld=>?_);generalize World.drew _=wd at *;refine yL 0 (v:=?_) rfl (by kernel_rfl) (by kernel_rfl) (by kernel_rfl) (by kernel_rfl) (fun _ _ _ h=>h) (by kernel_rfl) ?_ (fun _=>by assumption) ?_;rotate_left;(focus(intro w;go_simp <;> with_reducible rfl));(try simp only [Act.put,lyA,lyB,lyC]);refine mG 1 rfl (fun wT hST=>zj hST qw (by kernel_rfl) rfl rfl 0 rfl (Nat.le_of_ble_eq_true rfl)) hHeld ?_;(try simp only [Act.put,lyA,lyB,lyC]);refine mS 2 ?_;(try simp only [Act.put,lyA,lyB,lyC]);refine mS 3 ?_;(try simp only [Act.put,lyA,lyB,lyC]);refine mS 4 ?_;(try simp only [Act.put,lyA,lyB,lyC]);refine mG 5 rfl (fun wT hST=>zk hST rfl rfl 1 rfl rfl (by kernel_rfl)) hHeld ?_;(try simp only [Act.put,lyA,lyB,lyC]);refine mS 6 ?_;(try simp only [Act.put,lyA,lyB,lyC])
        refine yL 7 (v:=?_) rfl (by kernel_rfl) (by kernel_rfl) (by kernel_rfl) (by kernel_rfl) (fun _ _ _ h=>h) (by kernel_rfl) ?_ (fun _=>by assumption) ?_;rotate_left;(focus(intro w;go_simp <;> with_reducible rfl));(try simp only [Act.put,lyA,lyB,lyC])
        refine yL 8 (v:=?_) rfl (by kernel_rfl) (by kernel_rfl) (by kernel_rfl) (by kernel_rfl) (fun _ _ _ h=>h) (by kernel_rfl) ?_ (fun _=>by assumption) ?_;rotate_left;(focus(intro w;go_simp <;> with_reducible rfl));(try simp only [Act.put,lyA,lyB,lyC])
        refine yL 9 (v:=?_) rfl (by kernel_rfl) (by kernel_rfl) (by kernel_rfl) (by kernel_rfl) (fun _ _ _ h=>h) (by kernel_rfl) ?_ (fun _=>by assumption) ?_;rotate_left;(focus(intro w;go_simp <;> with_reducible rfl));(try simp only [Act.put,lyA,lyB,lyC]);refine mS 10 ?_;(try simp only [Act.put,lyA,lyB,lyC]);clear hHeld;refine adJ 11 rfl (by kernel_rfl) (by kernel_rfl) (fun K hK=>?_);refine yE HHd.out qw rfl rfl rfl 1 rfl rfl (Nat.le_of_ble_eq_true rfl) rfl ?_;intro w7 hh7;have HH7:=hiD hh7;clear hh7 HHd;refine hK.out _ _ (HH7.out.pair 0 2 rfl rfl rfl) (fun hHeld=>?_);clear hK K;(try simp only [Act.put,lyA,lyB,lyC]);refine yL 12 (v:=?_) rfl (by kernel_rfl) (by kernel_rfl) (by kernel_rfl) (by kernel_rfl) (fun _ _ _ h=>h) (by kernel_rfl) ?_ (fun _=>by assumption) ?_;rotate_left;(focus(intro w;go_simp <;> with_reducible rfl));(try simp only [Act.put,lyA,lyB,lyC]);refine yL 13 (v:=?_) rfl (by kernel_rfl) (by kernel_rfl) (by kernel_rfl) (by kernel_rfl) (fun _ _ _ h=>h) (by kernel_rfl) ?_ (fun _=>by assumption) ?_;rotate_left;(focus(intro w;go_simp <;> with_reducible rfl));(try simp only [Act.put,lyA,lyB,lyC]);refine afr 14 rfl (by kernel_rfl) (by kernel_rfl) (by kernel_rfl) (fun K hK=>?_);refine z8 HH7.out rfl rfl rfl 2 rfl (Nat.le_of_ble_eq_true rfl) rfl (by kernel_rfl) ?_;intro w8 h8;refine hK.out _ _ ?_;clear hK K hHeld;(try simp only [Act.put,lyA,lyB,lyC]);refine xD (by kernel_rfl) ?_;have HH:=hiD h8.tail;clear HH7 h8
        go_upto_region 14 with fail
        cases hl:((ts2.length:Int) == 0)with
        | false=>
          have hl2:xE ts2=false:=by rw [xE,beq_eq_false_iff_ne];simpa using hl
          rw [hl2]at HB2
          have HHd:=hiD HH.out.drew;clear HH;refine wp_region_held_drew (S:=Heap w [_,_]) (by kernel_rfl) (HHd.out.pair 0 1 rfl rfl rfl) (fun hHeld=>?_);generalize World.drew _=wd at *;refine tG 0 rfl (fun wT hST=>zj hST ze (by kernel_rfl) rfl rfl 0 rfl (Nat.le_of_ble_eq_true rfl)) hHeld ?_;(try simp only [Act.put,lyA,lyB,lyC]);refine tS 1 ?_;(try simp only [Act.put,lyA,lyB,lyC]);refine tS 2 ?_;(try simp only [Act.put,lyA,lyB,lyC]);refine tS 3 ?_;(try simp only [Act.put,lyA,lyB,lyC]);refine tG 4 rfl (fun wT hST=>zk hST rfl rfl 1 rfl rfl (by kernel_rfl)) hHeld ?_;(try simp only [Act.put,lyA,lyB,lyC]);refine tS 5 ?_;(try simp only [Act.put,lyA,lyB,lyC]);refine tS 6 ?_;(try simp only [Act.put,lyA,lyB,lyC]);refine tS 7 ?_;(try simp only [Act.put,lyA,lyB,lyC]);refine tS 8 ?_;(try simp only [Act.put,lyA,lyB,lyC]);refine tG 9 rfl (fun wT hST=>zk hST rfl rfl 1 rfl rfl (by kernel_rfl)) hHeld ?_;(try simp only [Act.put,lyA,lyB,lyC]);refine tS 10 ?_;(try simp only [Act.put,lyA,lyB,lyC]);refine tS 11 ?_;(try simp only [Act.put,lyA,lyB,lyC]);refine tS 12 ?_;(try simp only [Act.put,lyA,lyB,lyC]);clear hHeld;refine oS 13 (fun K hK=>?_);refine yE HHd.out ze rfl rfl rfl 2 rfl rfl (Nat.le_of_ble_eq_true rfl) rfl ?_;intro w9 hh9;have HH:=hiD hh9;clear hh9 HHd;refine hK.out _ _ (HH.out.pair 0 1 rfl rfl rfl) (fun hHeld=>?_);clear hK K;(try simp only [Act.put,lyA,lyB,lyC]);refine tS 14 ?_;(try simp only [Act.put,lyA,lyB,lyC]);refine wpAnyH_done (by kernel_rfl) ?_ _;go_wp2_with fail;refine yD ze (by kernel_rfl) HH.out rfl rfl rfl 2 rfl rfl rfl ?_
          rw [HF.out,HB2.out]
          exact⟨⟨k,⟨#[]⟩,0,0,none,0,0, [],0,0,⟨#[]⟩,sa,sb,sc,sd⟩,rfl,rfl,rfl,fun h=>absurd rfl h,HH.out.ext⟩
        | true=>
          have hl2:xE ts2=true:=by rw [xE,beq_iff_eq];simpa using hl
          rw [hl2]at HB2
          have HHd:=hiD HH.out.drew;clear HH;refine wp_region_held_drew (S:=Heap w [_,_]) (by kernel_rfl) (HHd.out.pair 0 1 rfl rfl rfl) (fun hHeld=>?_);generalize World.drew _=wd at *;refine tG 0 rfl (fun wT hST=>zj hST ze (by kernel_rfl) rfl rfl 0 rfl (Nat.le_of_ble_eq_true rfl)) hHeld ?_;(try simp only [Act.put,lyA,lyB,lyC]);refine tS 1 ?_;(try simp only [Act.put,lyA,lyB,lyC]);refine tS 2 ?_;(try simp only [Act.put,lyA,lyB,lyC]);refine tS 3 ?_;(try simp only [Act.put,lyA,lyB,lyC]);refine tG 4 rfl (fun wT hST=>zk hST rfl rfl 1 rfl rfl (by kernel_rfl)) hHeld ?_;(try simp only [Act.put,lyA,lyB,lyC]);refine tS 5 ?_;(try simp only [Act.put,lyA,lyB,lyC]);refine tS 6 ?_;(try simp only [Act.put,lyA,lyB,lyC]);refine tS 7 ?_;(try simp only [Act.put,lyA,lyB,lyC]);refine tS 8 ?_;(try simp only [Act.put,lyA,lyB,lyC]);refine tG 9 rfl (fun wT hST=>zk hST rfl rfl 1 rfl rfl (by kernel_rfl)) hHeld ?_;(try simp only [Act.put,lyA,lyB,lyC]);refine tS 10 ?_;(try simp only [Act.put,lyA,lyB,lyC]);refine tS 11 ?_;(try simp only [Act.put,lyA,lyB,lyC]);refine tS 12 ?_;(try simp only [Act.put,lyA,lyB,lyC]);clear hHeld;refine oS 13 (fun K hK=>?_);refine yE HHd.out ze rfl rfl rfl 2 rfl rfl (Nat.le_of_ble_eq_true rfl) rfl ?_;intro w9 hh9;have HH:=hiD hh9;clear hh9 HHd;refine hK.out _ _ (HH.out.pair 0 1 rfl rfl rfl) (fun hHeld=>?_);clear hK K;(try simp only [Act.put,lyA,lyB,lyC]);refine tS 14 ?_;(try simp only [Act.put,lyA,lyB,lyC]);refine wpAnyH_done (by kernel_rfl) ?_ _;go_wp2_with fail;refine yD ze (by kernel_rfl) HH.out rfl rfl rfl 2 rfl rfl rfl ?_
          rw [HF.out,HB2.out]
          exact⟨⟨k,⟨#[]⟩,0,0,none,0,0, [],0,0,⟨#[]⟩,sa,sb,sc,sd⟩,rfl,rfl,rfl,fun h=>absurd rfl h,HH.out.ext⟩
end Go.Proofs.YtckaneapjpiocaaGreatDoor
