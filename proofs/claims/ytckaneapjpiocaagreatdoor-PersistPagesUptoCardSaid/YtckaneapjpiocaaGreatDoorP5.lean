/- The texts Obd, Cat, Suo, Nm, Nam, Prp, Rec in one file. -/
import Derived.Test.YtckaneapjpiocaaGreatDoorP3
import Derived.Test.YtckaneapjpiocaaGreatDoorP4
import Derived.Sort.OwnSortedInts
import Derived.Lib.AppendZeros
set_option linter.unusedVariables false
set_option linter.unusedSimpArgs false
set_option maxHeartbeats 4000000
set_option maxRecDepth 100000
namespace Go.Proofs.YtckaneapjpiocaaGreatDoor
open Go.RowKit Go.Maps Go.Sort Go.Shelf
theorem abZ{w:World}{lo hi:Nat}{A:Option Addr}{l:List Int}(h:Rd w lo hi A (ints l)){k:Nat}(hk:k < l.length):
 ∃b o,A=some ⟨b,o,none⟩∧b < hi∧w.cell? ⟨b,o+k,none⟩=some (.int .i64 l[k]):=by
 obtain⟨b,o,h1,h2,h3,h4⟩:=h (fun e=>by have:=congrArg List.length e;simp [ints]at this;subst this;simp at hk)
 exact⟨b,o,h1,h3,h4 k _ (by simp [ints,hk])⟩
def ahp(x:Int):List Value:= [.int .i64 x]
theorem acn(l:List Int):l.flatMap ahp=ints l:=by
 induction l with
 | nil=>rfl
 | cons b l ih=>rw [List.flatMap_cons,ih];rfl
abbrev Loc:=Sl Int
abbrev Loc.At(w:World)(lo hi:Nat)(s:Loc):Prop:=Sl.At w lo hi ahp (fun y=>(Lit.int .i64 y).wf=true) s
structure Ob where
 key:ByteArray
 data:Oct
 locs:Loc
def Ob.cells(x:Ob):List Value:= [.string x.key,x.data.val,x.locs.val]
structure Ob.At (w:World) (lo hi:Nat) (x:Ob):Prop where
 key:x.key.size≤maxLen
 data:Oct.At w lo hi x.data
 locs:Loc.At w lo hi x.locs
section
variable {w w':World} {lo hi lo' hi':Nat}
theorem Loc.At.imp{s:Loc}(h:Loc.At w lo hi s)(hr: ∀A cs,Rd w lo hi A cs→Rd w' lo' hi' A cs):Loc.At w' lo' hi' s:=Sl.At.imp h (hr _ _) (fun _ h=>h)
theorem Ob.At.imp{s:Ob}(h:Ob.At w lo hi s)(hr: ∀A cs,Rd w lo hi A cs→Rd w' lo' hi' A cs):Ob.At w' lo' hi' s:=⟨h.key,Oct.At.imp h.data hr,Loc.At.imp h.locs hr⟩
theorem Ob.At.on{s:Ob}(h:Ob.At w lo hi s)(e:Ext w w')(hh:hi≤w.heap.size):Ob.At w' lo w'.heap.size s:=h.imp (qv e hh)
theorem Loc.At.on{s:Loc}(h:Loc.At w lo hi s)(e:Ext w w')(hh:hi≤w.heap.size):Loc.At w' lo w'.heap.size s:=h.imp (qv e hh)
theorem Loc.At.rdi{s:Loc}(h:Loc.At w lo hi s):Rd w lo hi s.A (ints s.xs):=by rw [←acn];exact h.rd
end
def zN(n:Nat):Nat:=(n+51) / 52
theorem af6{n:Nat}(h:0 < n):zN n=(n - 1) / 52+1:=by unfold zN;omega
theorem acd(w:World)(n:Nat)(hn:n≤9223372036854775807):Calls Tryz.prog 41 #[.int .i64 n] w fun e w'=>e= .returned (.int .i64 (zN n))∧Ext w w':=by
 rcases Nat.eq_zero_or_pos n with h0 | h0
 ·subst h0
  go_enter Tryz.func41,Tryz.ntmps41
  go_wp2_with fail
  go_ret
  exact⟨rfl,Ext.refl _⟩
 ·have hv:=Lib.hid (show((zN n:Nat):Int)=((n:Int) - 1) / 52+1 by rw [af6 h0];omega)
  have hp:(0:Int) < (n:Int):=by omega
  generalize zN n=v at *
  go_enter Tryz.func41,Tryz.ntmps41
  go_wp2_with fail
  go_ret
  exact⟨ab1 (by rw [hv.out]),Ext.refl _⟩
theorem agw{w:World}{lo hi:Nat}{A:Option Addr}{xs:List Ob}(h:Rd w lo hi A (xs.flatMap Ob.cells)){k:Nat}(hk:k < xs.length):
 ∃b o,A=some ⟨b,o,none⟩∧b < hi∧w.cell? ⟨b,o+k * 3,none⟩=some (.string xs[k].key)∧w.cell? ⟨b,o+k * 3+1,none⟩=some xs[k].data.val∧w.cell? ⟨b,o+k * 3+2,none⟩=some xs[k].locs.val:=by
 obtain⟨b,o,h1,_,h3,G⟩:=zk (size:=3) (fun _=>rfl) (by omega) h hk
 exact⟨b,o,h1,h3,G 0 _ rfl,G 1 _ rfl,G 2 _ rfl⟩
theorem qI{w:World}{base:Nat}{e:TypeId}{size n:Nat}{A:Option Addr}{c:Nat}{xs:List Value}(h:w.ownsRow base e size (.slice A n c) n xs):n≤c∧c≤maxLen:=by
 obtain⟨A',c',he,h1,h2,_⟩:=zo h
 cases he
 exact⟨h1,h2⟩
structure Sb where
 A:Option Addr
 n:Nat
 c:Nat
 l:List UInt8
def Sb.val(x:Sb):Value:= .slice x.A x.n x.c
def sbs(xs:List Sb):List Value:=xs.map Sb.val
def Sb.ok(w:World)(x:Sb):Prop:=x.n=x.l.length∧Rd w 0 w.heap.size x.A (bytes x.l)
theorem Sb.ok.ext{w w':World}{x:Sb}(h:x.ok w)(e:Ext w w'):x.ok w':=⟨h.1,Rd.at h.2 e (Nat.le_refl _)⟩
def zI(xs:List Sb):List UInt8:=xs.flatMap Sb.l
theorem aah(xs:List Sb)(k:Nat)(h:k < xs.length):zI (xs.take (k+1))=zI (xs.take k)++xs[k].l:=by
 rw [List.take_succ_eq_append_getElem h,zI,List.flatMap_append];simp [zI]
theorem abW(xs:List Sb)(k:Nat):(zI (xs.take k)).length≤(zI xs).length:=by
 have:zI xs=zI (xs.take k)++zI (xs.drop k):=by rw [zI,zI,zI,←List.flatMap_append,List.take_append_drop]
 rw [this,List.length_append];omega
theorem aet{w:World}{lo h:Nat}{A:Option Addr}{xs:List Sb}(hr:Rd w lo h A (sbs xs)){k:Nat}(hk:k < xs.length):
 ∃b o,A=some ⟨b,o,none⟩∧w.cell? ⟨b,o+k,none⟩=some (.slice xs[k].A xs[k].n xs[k].c):=by
 obtain⟨b,o,h1,h2,h3,h4⟩:=hr (fun e=>by have:(sbs xs).length=xs.length:=by simp [sbs]
                                        rw [e]at this;simp at this;omega)
 exact⟨b,o,h1,h4 k _ (by simp [sbs,List.getElem?_eq_getElem hk,Sb.val])⟩
theorem afa(w:World)(m:Nat)(hm:m≤100000000000):
 Calls Tryz.prog 218 #[.slice none 0 0,.int .i64 m] w fun e w'=> ∃v,e= .returned v∧w'.ownsRow w.heap.size 5 1 v 0 []∧Ext w w':=by
 obtain⟨i0,hi0,hz0,hz1,hz2⟩:=info_parts aa6
 rcases Nat.eq_zero_or_pos m with h0 | h0
 ·subst h0
  rw [show((0:Nat):Int)=0 from rfl]
  go_enter Tryz.func218,Tryz.ntmps218
  go_wp2_with fail
  go_ret
  exact⟨_,rfl,World.ownsRow_nil _ _ _ _,Ext.refl _⟩
 ·have hrun: ∀ty,(Builtin.append_ #[53,3] ty #[.slice none 0 0,.int .i64 (m:Int)]).run Tryz.prog w=_:=fun ty=>
   Lib.run_append_nil_zeros (P:=Tryz.prog) w 53 3 ty 5 i0 _ .i64 .i64 Tryz.underlying53 Tryz.underlying3 hi0 hz0 m h0 (by rw [hz1];omega) (by omega) (by rw [hz2];omega)
  have hG1:m≤grownCap w m 0 5:=grownCap_ge w _ _ _
  have hG2:grownCap w m 0 5≤maxLen:=grownCap_le_maxLen w m 0 5 (by simp only [maxLen];omega)
  generalize grownCap w m 0 5=G at *
  obtain⟨ROW,hROW⟩: ∃ROW:Array Value,ROW=Builtin.zeroCells (Value.int .u8 0).cells m++Builtin.zeroCells (Value.int .u8 0).cells (G - m):=⟨_,rfl⟩
  rw [←hROW]at hrun
  have hsz:ROW.size=G:=by
   rw [hROW]
   simp only [Builtin.zeroCells,Array.size_append,Array.size_map,Array.size_range,Value.cells,List.size_toArray,List.length_cons,List.length_nil]
   omega
  obtain⟨w1,hw1⟩: ∃w1,w1=w.drew.alloc (.cells ROW 5):=⟨_,rfl⟩
  rw [←hw1]at hrun
  have hown:w1.ownsRow w.heap.size 5 1 (.slice (some ⟨w.heap.size,0,none⟩) 0 G) 0 []:=by
   rw [hw1]
   exact⟨rfl,.inr ⟨w.heap.size,G,ROW,rfl,Nat.le_refl _,heap_alloc_new w.drew _,Nat.zero_le _,hG2,by omega,by simp⟩⟩
  have e1:Ext w w1:=by rw [hw1];exact((Ext.refl w).drew).alloc _
  have HOwn:=Lib.hid hown
  have HRun:=Lib.hid hrun
  have hmp:(0:Int) < m:=by omega
  simp only [maxLen]at hG2
  clear hw1 hROW hsz hrun hown
  go_enter Tryz.func218,Tryz.ntmps218
  go_wp2_with (at_builtin;refine Lib.wpList_append_run _ rfl (.tmp 20) (.tmp 21) _ _ rfl _ _ rfl rfl _ _ (HRun.out _) ?_)
  go_ret
  exact⟨_,rfl,HOwn.out,e1⟩
theorem ad2(w:World)(A:Option Addr)(n c:Nat)(xs:List Sb)(hn:n=xs.length)(hr:Rd w 0 w.heap.size A (sbs xs))(hok: ∀x∈xs,x.ok w)(hN:n≤100000000000)(hT:(zI xs).length≤100000000000):
 Calls Tryz.prog 189 #[.slice A n c] w fun e w'=> ∃v,e= .returned v∧w'.ownsRow w.heap.size 5 1 v (zI xs).length (bytes (zI xs))∧Ext w w':=by
 obtain⟨i0,hi0,hz0,hz1,hz2⟩:=info_parts aa6
 have Hn:=Lib.hid hn
 have HR:=Lib.hid hr
 have HO:=Lib.hid hok
 have HT:=Lib.hid hT
 clear hn hr hok
 go_enter Tryz.func189,Tryz.ntmps189
 go_wp2_with fail
 go_loop [3,11] (fun s i=> ∃k:Nat,k≤n∧i= .int .i64 (k:Int)∧s= .int .i64 ((zI (xs.take k)).length:Int)) (fun _ i=>n - (intOf i).toNat)
 case atStart=>exact⟨0,Nat.zero_le _,rfl,rfl⟩
 case round=>
  obtain⟨k,hk,rfl,rfl⟩:=hrel
  have hle:=abW xs k
  by_cases hlt:k < n
  ·have hl:k < xs.length:=by rw [←Hn.out];exact hlt
   obtain⟨b1,o1,rfl,f0⟩:=aet HR.out hl
   have HU:=Lib.hid (aah xs k hl)
   have hle2:=abW xs (k+1)
   have hx:=(HO.out _ (List.getElem_mem hl)).1
   have hlen:(zI (xs.take (k+1))).length=(zI (xs.take k)).length+xs[k].n:=by rw [aah xs k hl,List.length_append,hx]
   generalize xs[k].A=xA at *
   generalize xs[k].c=xc at *
   generalize xs[k].n=xn at *
   generalize (zI (xs.take k)).length=q at *
   have HL:=Lib.hid hlen
   have hq:q+xn≤100000000000:=by have:=HT.out;omega
   clear hx hlen hle hle2
   go_wp2_with fail
   go_round
   case rel=>exact⟨k+1,by omega,by go_num,by rw [HL.out];go_num⟩
   case measure=>simp [intOf];omega
  ·obtain rfl:k=n:=by omega
   have hall:(zI (xs.take k)).length=(zI xs).length:=by rw [List.take_of_length_le (by rw [←Hn.out];exact Nat.le_refl _)]
   rw [hall]
   clear hall hle hlt
   generalize hm:(zI xs).length=m at *
   have HM:=Lib.hid hm
   clear hm
   go_wp2_with fail
   refine(afa w m hT).mono ?_
   rintro e w2 ⟨v2,rfl,hown2,e2⟩
   have HOwn2:=Lib.hid hown2
   clear hown2
   go_wp2_with fail
   go_loopw [6,27] (fun v i wr=> ∃j:Nat,j≤k∧i= .int .i64 (j:Int)∧Hid (wr.ownsRow w.heap.size 5 1 v (zI (xs.take j)).length (bytes (zI (xs.take j))))∧Ext w wr) (fun _ i _=>k - (intOf i).toNat)
   case atStart=>exact⟨0,Nat.zero_le _,rfl,HOwn2,e2⟩
   case round=>
    clear HOwn2 e2
    obtain⟨j,hj,rfl,hown,e1⟩:=hrel
    by_cases hlt:j < k
    ·have hl:j < xs.length:=by rw [←Hn.out];exact hlt
     obtain⟨b1,o1,rfl,f0⟩:=aet (HR.out.at e1 (Nat.le_refl _)) hl
     have HU:=Lib.hid (aah xs j hl)
     have hle2:=abW xs (j+1)
     have hx:=HO.out _ (List.getElem_mem hl)
     have hlen:(zI (xs.take (j+1))).length=(zI (xs.take j)).length+xs[j].n:=by rw [aah xs j hl,List.length_append,hx.1]
     have HX:=Lib.hid hx
     have HL:=Lib.hid hlen
     have hq:(zI (xs.take j)).length+xs[j].n≤100000000000:=by have:=HM.out;omega
     clear hx hlen hle2
     generalize xs[j]=x at *
     obtain⟨xA,xn,xc,xl⟩:=x
     dsimp only at f0 HU HX HL hq
     go_wp2_with
      (at_builtin
       refine qk _ rfl (.tmp 31) (.tmp 32) _ rfl 5 i0 _ 1 1 Tryz.underlying53 hi0 hz0 hz1 hz2 rfl (by omega) w.heap.size _ _ _ rfl hown.out 0 _ xA xn xc (bytes xl) rfl (by rw [xB,Nat.mul_one];exact HX.out.1.symm) (Rd.at HX.out.2 e1 (Nat.le_refl _)) (aa2 _) (by simp only [maxLen];omega) (by omega) e1.size ?_
       intro v3 w3 hown3 he3 _ _
       have e3:Ext w w3:=he3 _ e1 (Nat.le_refl _)
       have HOwn3:=Lib.hid hown3
       clear he3 hown3)
     go_roundw
     case rel=>exact⟨j+1,by omega,by go_num,Lib.hid (by rw [HL.out,HU.out,x8];exact HOwn3.out),e3⟩
     case measure=>simp [intOf];omega
    ·obtain rfl:j=k:=by omega
     have hall:zI (xs.take j)=zI xs:=by rw [List.take_of_length_le (by rw [←Hn.out];exact Nat.le_refl _)]
     have HAll:=Lib.hid hall
     clear hall
     go_wp2_with fail
     go_ret
     refine⟨_,rfl,?_,e1⟩
     have:=hown.out
     rw [HAll.out]at this
     rw [HM.out]at this
     rw [HM.out]
     exact this
theorem qZ(w:World)(A:Option Addr)(n c:Nat)(xs:List Sb)(hn:n=xs.length)(hr:Rd w 0 w.heap.size A (sbs xs))(hok: ∀x∈xs,x.ok w)(hN:n≤100000000000)(hT:(zI xs).length≤100000000000):
 Calls Tryz.prog 146 #[.slice A n c] w fun e w'=> ∃v,e= .returned v∧w'.ownsRow w.heap.size 5 1 v (zI xs).length (bytes (zI xs))∧Ext w w':=by
 have HC:=Lib.hid (ad2 w A n c xs hn hr hok hN hT)
 clear hn hr hok hT
 go_enter Tryz.func146,Tryz.ntmps146
 go_wp2_with fail
 refine HC.out.mono ?_
 rintro e w2 ⟨v2,rfl,hown2,e2⟩
 have H:=Lib.hid hown2
 clear hown2
 go_wp2_with fail
 go_ret
 exact⟨_,rfl,H.out,e2⟩
structure Su where
 a:Int
 b:Int
 c:Int
 d:Int
def Su.cells(s:Su):List Value:= [.int .u64 s.a,.int .u64 s.b,.int .u64 s.c,.int .u64 s.d]
def Su.zero:Su:=⟨0,0,0,0⟩
theorem ae7:(Tryz.prog.info? 44).map (·.size)=some 4:=by kernel_rfl
def qM(s:Su):List UInt8:=zB s.a 8++zB s.b 8++zB s.c 8++zB s.d 8
theorem xS(s:Su):(qM s).length=32:=by simp [qM,zm]
theorem ahd(x:Int)(j:Nat)(hj:j < 8):bt (IntKind.i64.wrap x) j=bt x j:=by
 unfold bt
 congr 2
 rw [IntKind.wrap_i64]
 rcases(show j=0∨j=1∨j=2∨j=3∨j=4∨j=5∨j=6∨j=7 by omega)with rfl | rfl | rfl | rfl | rfl | rfl | rfl | rfl <;> simp <;> omega
theorem aay(x:Int):zB (IntKind.i64.wrap x) 8=zB x 8:=by
 unfold zB
 refine List.map_congr_left fun j hj=>?_
 rw [List.mem_range]at hj
 exact ahd x _ (by omega)
def Su.wf(s:Su):Prop:=(0≤s.a∧s.a≤18446744073709551615)∧(0≤s.b∧s.b≤18446744073709551615)∧(0≤s.c∧s.c≤18446744073709551615)∧(0≤s.d∧s.d≤18446744073709551615)
theorem abC(s:Su)(w:World)(hs:s.wf):
 Calls Tryz.prog 93 #[.agg s.cells.toArray] w fun e w'=> ∃v,e= .returned v∧w'.ownsRow w.heap.size 5 1 v 32 (bytes (qM s))∧Ext w w':=by
 obtain⟨sa,sb,sc,sd⟩:=s
 have HE:=Lib.hid (show qM ⟨sa,sb,sc,sd⟩=zB sa 8++zB sb 8++zB sc 8++zB sd 8 from rfl)
 have hb: ∀x:Int,-9223372036854775808≤IntKind.i64.wrap x∧IntKind.i64.wrap x≤9223372036854775807:=fun x=>by rw [IntKind.wrap_i64];omega
 have HA:=Lib.hid (hb sa)
 have HB:=Lib.hid (hb sb)
 have HC:=Lib.hid (hb sc)
 have HD:=Lib.hid (hb sd)
 have PA:=Lib.hid (aay sa)
 have PB:=Lib.hid (aay sb)
 have PC:=Lib.hid (aay sc)
 have PD:=Lib.hid (aay sd)
 clear hb
 simp only [Su.cells]
 go_enter Tryz.func93,Tryz.ntmps93
 go_wp2_with fail
 generalize hwH:World.alloc w _=w1;have HH:=Lib.hid (Heap.one hwH);clear hwH
 have HH0:=Lib.hid HH.out.drew
 clear HH
 refine wp_region_held_drew (S:=Heap w [.box w.heap.size [.int .u64 sa,.int .u64 sb,.int .u64 sc,.int .u64 sd]]) (by kernel_rfl) HH0.out (fun hHeld=>?_)
 refine tW 0 1 ?_
 refine tG 1 rfl (fun wT hST=>za hST rfl rfl 0 rfl rfl (by kernel_rfl)) hHeld ?_;(try simp only [Act.put,lyA,lyB,lyC])
 refine tW 2 1 ?_
 refine tW 4 1 ?_
 refine tG 5 rfl (fun wT hST=>za hST rfl rfl 0 rfl rfl (by kernel_rfl)) hHeld ?_;(try simp only [Act.put,lyA,lyB,lyC])
 refine tW 6 1 ?_
 refine tW 8 1 ?_
 refine tG 9 rfl (fun wT hST=>za hST rfl rfl 0 rfl rfl (by kernel_rfl)) hHeld ?_;(try simp only [Act.put,lyA,lyB,lyC])
 refine tW 10 1 ?_
 refine tW 12 1 ?_
 refine tG 13 rfl (fun wT hST=>za hST rfl rfl 0 rfl rfl (by kernel_rfl)) hHeld ?_;(try simp only [Act.put,lyA,lyB,lyC])
 refine tW 14 1 ?_
 generalize IntKind.i64.wrap sa=ya at *
 generalize IntKind.i64.wrap sb=yb at *
 generalize IntKind.i64.wrap sc=yc at *
 generalize IntKind.i64.wrap sd=yd at *
 clear hHeld
 refine oS 3 (fun K hK=>?_);go_simp;refine(yX ya _ 8 (by omega) rfl _ HA.out.1 HA.out.2).mono ?_;rintro e w2 ⟨vw2,rfl,hownw2,ew2⟩;obtain⟨Aw2,cw2,rfl,_,_,_⟩:=zo hownw2;have HH2:=Lib.hid ((HH0).out.addRow ew2 hownw2);clear HH0 hownw2 ew2;go_wp2_with fail
 refine hK.out _ _ HH2.out.tail (fun hHeld=>?_);clear hK K;(try simp only [Act.put,lyA,lyB,lyC])
 clear hHeld
 refine oS 7 (fun K hK=>?_);go_simp;refine(yX yb _ 8 (by omega) rfl _ HB.out.1 HB.out.2).mono ?_;rintro e w3 ⟨vw3,rfl,hownw3,ew3⟩;obtain⟨Aw3,cw3,rfl,_,_,_⟩:=zo hownw3;have HH3:=Lib.hid ((HH2).out.addRow ew3 hownw3);clear HH2 hownw3 ew3;go_wp2_with fail
 refine hK.out _ _ HH3.out.tail.tail (fun hHeld=>?_);clear hK K;(try simp only [Act.put,lyA,lyB,lyC])
 clear hHeld
 refine oS 11 (fun K hK=>?_);go_simp;refine(yX yc _ 8 (by omega) rfl _ HC.out.1 HC.out.2).mono ?_;rintro e w4 ⟨vw4,rfl,hownw4,ew4⟩;obtain⟨Aw4,cw4,rfl,_,_,_⟩:=zo hownw4;have HH4:=Lib.hid ((HH3).out.addRow ew4 hownw4);clear HH3 hownw4 ew4;go_wp2_with fail
 refine hK.out _ _ HH4.out.tail.tail.tail (fun hHeld=>?_);clear hK K;(try simp only [Act.put,lyA,lyB,lyC])
 clear hHeld
 refine oS 15 (fun K hK=>?_);go_simp;refine(yX yd _ 8 (by omega) rfl _ HD.out.1 HD.out.2).mono ?_;rintro e w5 ⟨vw5,rfl,hownw5,ew5⟩;obtain⟨Aw5,cw5,rfl,_,_,_⟩:=zo hownw5;have HH5:=Lib.hid ((HH4).out.addRow ew5 hownw5);clear HH4 hownw5 ew5;go_wp2_with fail
 refine hK.out _ _ HH5.out.tail.tail.tail.tail (fun hHeld=>?_);clear hK K;(try simp only [Act.put,lyA,lyB,lyC])
 clear hHeld
 refine oS 16 (fun K hK=>?_)
 go_simp
 generalize hwA:World.alloc w5 _=w6
 have HH6:=Lib.hid (HH5.out.allocE hwA)
 clear hwA HH5
 refine hK.out _ _ HH6.out.tail.tail.tail.tail.tail (fun hHeld=>?_);clear hK K;(try simp only [Act.put,lyA,lyB,lyC])
 clear hHeld
 refine oS 17 (fun K hK=>?_)
 go_simp
 refine(qZ w6 _ 4 4 [⟨Aw2,8,cw2,zB ya 8⟩,⟨Aw3,8,cw3,zB yb 8⟩,⟨Aw4,8,cw4,zB yc 8⟩,⟨Aw5,8,cw5,zB yd 8⟩] rfl
  (fun _=>⟨_,0,rfl,Nat.zero_le _,(HH6.out.boxAt 0 rfl).lt,fun j u hu=>by rw [Nat.zero_add];exact(HH6.out.boxAt 0 rfl).cell j u hu⟩)
  (fun x hx=>by
    simp only [List.mem_cons,List.not_mem_nil,or_false]at hx
    rcases hx with rfl | rfl | rfl | rfl
    ·exact⟨(zm _ _).symm,(Rd.of_own (HH6.out.rowAt 4 rfl)).m0⟩
    ·exact⟨(zm _ _).symm,(Rd.of_own (HH6.out.rowAt 3 rfl)).m0⟩
    ·exact⟨(zm _ _).symm,(Rd.of_own (HH6.out.rowAt 2 rfl)).m0⟩
    ·exact⟨(zm _ _).symm,(Rd.of_own (HH6.out.rowAt 1 rfl)).m0⟩)
  (by omega) (by simp [zI,zm])).mono ?_
 rintro e w7 ⟨v7,rfl,hown7,e7⟩
 have HO:=Lib.hid (yo hown7 HH6.out.ext.size)
 have HX:=Lib.hid (HH6.out.ext.trans e7)
 have HS7:=Lib.hid (HH6.out.later e7)
 clear hown7 e7
 go_wp2_with fail
 refine hK.out _ _ HS7.out.tail.tail.tail.tail.tail (fun hHeld=>?_);clear hK K;(try simp only [Act.put,lyA,lyB,lyC])
 refine tW 18 1 ?_
 refine wpAnyH_done (by kernel_rfl) ?_ _
 go_wp2_with fail
 go_ret
 refine⟨_,rfl,?_,HX.out⟩
 have h:=HO.out
 have hc:zI [⟨Aw2,8,cw2,zB ya 8⟩,⟨Aw3,8,cw3,zB yb 8⟩,⟨Aw4,8,cw4,zB yc 8⟩,⟨Aw5,8,cw5,zB yd 8⟩]=qM ⟨sa,sb,sc,sd⟩:=by
  rw [HE.out,←PA.out,←PB.out,←PC.out,←PD.out]
  simp [zI,List.append_assoc]
 rw [hc,xS]at h
 exact h
def ab3(z:Int):Bool:=(decide (z < 97) || decide (122 < z)) && (decide (z < 48) || decide (57 < z)) && (z != 45) && (z != 95)
def abV(z:Int):Bool:=decide (z < 32) || decide (126 < z)
def xN(c:UInt8):Bool:=ab3 c.toNat
def xR(c:UInt8):Bool:=abV c.toNat
theorem ago(c:UInt8)(w:World):Calls Tryz.prog 99 #[.int .u8 (c.toNat:Int)] w fun e w'=>e= .returned (.bool (xN c))∧Ext w w':=by
 unfold xN
 generalize (c.toNat:Int)=z
 go_enter Tryz.func99,Tryz.ntmps99
 go_wp2_with fail
 all_goals (
  go_ret
  refine⟨?_,Ext.refl _⟩
  first | (simp [ab3];done) | (simp_all [ab3];done) | (simp_all [ab3];omega))
theorem afS(c:UInt8)(w:World):Calls Tryz.prog 197 #[.int .u8 (c.toNat:Int)] w fun e w'=>e= .returned (.bool (xR c))∧Ext w w':=by
 unfold xR
 generalize (c.toNat:Int)=z
 go_enter Tryz.func197,Tryz.ntmps197
 go_wp2_with fail
 all_goals (
  go_ret
  refine⟨?_,Ext.refl _⟩
  first | (simp [abV];done) | (simp_all [abV];done) | (simp_all [abV];omega))
theorem ady(c:UInt8)(w:World):Calls Tryz.prog 72 #[.int .u8 (c.toNat:Int)] w fun e w'=>e= .returned (.bool (!xN c))∧Ext w w':=by
 unfold xN
 generalize (c.toNat:Int)=z
 go_enter Tryz.func72,Tryz.ntmps72
 go_wp2_with fail
 all_goals (
  go_ret
  refine⟨?_,Ext.refl _⟩
  first | (simp_all [ab3];done) | (refine congrArg (fun b=>Ending.returned (Value.bool b)) ?_;rw [Bool.eq_iff_iff];simp [ab3];omega))
theorem agq(w:World)(A:Option Addr)(n c lo hi:Nat)(l:List UInt8)(hn:n=l.length)(hm:n≤9223372036854775807)(hr:Rd w lo hi A (bytes l))(hh:hi≤w.heap.size):
 Calls Tryz.prog 152 #[.slice A n c,.func (.func 99) #[] #[]] w fun e w'=> ∃r:Int,e= .returned (.int .i64 r)∧l.any xN=decide (0≤r)∧ -1≤r∧Ext w w':=by
 have Hn:=Lib.hid hn
 clear hn
 go_enter Tryz.func152,Tryz.ntmps152
 go_wp2_with fail
 go_loopw [8] (fun i wr=> ∃k:Nat,k≤n∧i= .int .i64 k∧(l.take k).any xN=false∧Ext w wr) (fun i _=>n - (intOf i).toNat)
 case atStart=>exact⟨0,Nat.zero_le _,rfl,rfl,Ext.refl _⟩
 case round=>
  obtain⟨k,hk,rfl,hno,e1⟩:=hrel
  have HK:=Lib.hid hno
  clear hno
  by_cases hlt:k < n
  ·obtain⟨b1,o1,rfl,_,_,f0⟩:=adr (hr.ext e1 hh) (k:=k) (by rw [←Hn.out];omega)
   have hl:k < l.length:=by rw [←Hn.out];omega
   obtain⟨y,hy⟩: ∃y,y=l[k]'hl:=⟨_,rfl⟩
   rw [←hy]at f0
   have HY:=Lib.hid hy
   clear hy
   go_wp2_with fail
   refine(ago y _).mono ?_
   rintro e w2 ⟨rfl,e2⟩
   cases ho:xN y
   ·go_wp2_with fail
    go_roundw
    case rel=>
     refine⟨k+1,by omega,by go_num,?_,blo⟩
     rw [List.take_succ_eq_append_getElem hl,List.any_append,HK.out,←HY.out]
     simp [ho]
    case measure=>simp [intOf];omega
   ·go_wp2_with fail
    go_ret
    refine⟨k,rfl,?_,by omega,blo⟩
    have h1:l.any xN=true:=List.any_eq_true.2 ⟨y,by rw [HY.out];exact List.getElem_mem _,ho⟩
    rw [h1]
    simp
  ·go_wp2_with fail
   go_ret
   obtain rfl:k=n:=by omega
   have h1:=HK.out
   rw [List.take_of_length_le (by rw [←Hn.out];exact Nat.le_refl _)]at h1
   exact⟨-1,rfl,by rw [h1];rfl,by omega,e1⟩
theorem aeI(w:World)(A:Option Addr)(n c lo hi:Nat)(l:List UInt8)(hn:n=l.length)(hm:n≤9223372036854775807)(hr:Rd w lo hi A (bytes l))(hh:hi≤w.heap.size):
 Calls Tryz.prog 98 #[.slice A n c,.func (.func 99) #[] #[]] w fun e w'=>e= .returned (.bool (l.any xN))∧Ext w w':=by
 have Hn:=Lib.hid hn
 clear hn
 go_enter Tryz.func98,Tryz.ntmps98
 go_wp2_with fail
 refine(agq w A n c lo hi l Hn.out hm hr hh).mono ?_
 rintro e w2 ⟨r,rfl,hany,hr1,e2⟩
 have HA:=Lib.hid hany
 clear hany
 go_wp2_with fail
 go_ret
 exact⟨by rw [HA.out];rfl,e2⟩
theorem afI(w:World)(A:Option Addr)(n c lo hi:Nat)(l:List UInt8)(hn:n=l.length)(hm:n≤9223372036854775807)(hr:Rd w lo hi A (bytes l))(hh:hi≤w.heap.size):
 Calls Tryz.prog 152 #[.slice A n c,.func (.func 197) #[] #[]] w fun e w'=> ∃r:Int,e= .returned (.int .i64 r)∧l.any xR=decide (0≤r)∧ -1≤r∧Ext w w':=by
 have Hn:=Lib.hid hn
 clear hn
 go_enter Tryz.func152,Tryz.ntmps152
 go_wp2_with fail
 go_loopw [8] (fun i wr=> ∃k:Nat,k≤n∧i= .int .i64 k∧(l.take k).any xR=false∧Ext w wr) (fun i _=>n - (intOf i).toNat)
 case atStart=>exact⟨0,Nat.zero_le _,rfl,rfl,Ext.refl _⟩
 case round=>
  obtain⟨k,hk,rfl,hno,e1⟩:=hrel
  have HK:=Lib.hid hno
  clear hno
  by_cases hlt:k < n
  ·obtain⟨b1,o1,rfl,_,_,f0⟩:=adr (hr.ext e1 hh) (k:=k) (by rw [←Hn.out];omega)
   have hl:k < l.length:=by rw [←Hn.out];omega
   obtain⟨y,hy⟩: ∃y,y=l[k]'hl:=⟨_,rfl⟩
   rw [←hy]at f0
   have HY:=Lib.hid hy
   clear hy
   go_wp2_with fail
   refine(afS y _).mono ?_
   rintro e w2 ⟨rfl,e2⟩
   cases ho:xR y
   ·go_wp2_with fail
    go_roundw
    case rel=>
     refine⟨k+1,by omega,by go_num,?_,blo⟩
     rw [List.take_succ_eq_append_getElem hl,List.any_append,HK.out,←HY.out]
     simp [ho]
    case measure=>simp [intOf];omega
   ·go_wp2_with fail
    go_ret
    refine⟨k,rfl,?_,by omega,blo⟩
    have h1:l.any xR=true:=List.any_eq_true.2 ⟨y,by rw [HY.out];exact List.getElem_mem _,ho⟩
    rw [h1]
    simp
  ·go_wp2_with fail
   go_ret
   obtain rfl:k=n:=by omega
   have h1:=HK.out
   rw [List.take_of_length_le (by rw [←Hn.out];exact Nat.le_refl _)]at h1
   exact⟨-1,rfl,by rw [h1];rfl,by omega,e1⟩
theorem aer(w:World)(A:Option Addr)(n c lo hi:Nat)(l:List UInt8)(hn:n=l.length)(hm:n≤9223372036854775807)(hr:Rd w lo hi A (bytes l))(hh:hi≤w.heap.size):
 Calls Tryz.prog 98 #[.slice A n c,.func (.func 197) #[] #[]] w fun e w'=>e= .returned (.bool (l.any xR))∧Ext w w':=by
 have Hn:=Lib.hid hn
 clear hn
 go_enter Tryz.func98,Tryz.ntmps98
 go_wp2_with fail
 refine(afI w A n c lo hi l Hn.out hm hr hh).mono ?_
 rintro e w2 ⟨r,rfl,hany,hr1,e2⟩
 have HA:=Lib.hid hany
 clear hany
 go_wp2_with fail
 go_ret
 exact⟨by rw [HA.out];rfl,e2⟩
def zi(s:ByteArray):Bool:=decide (0 < s.size) && decide (s.size≤16) && !(s.data.toList.any xN)
def xP(s:ByteArray):Bool:=decide (s.size≤32) && !(s.data.toList.any xR)
theorem xf(s:ByteArray)(w:World)(hm:s.size≤9223372036854775807):Calls Tryz.prog 44 #[.string s] w fun e w'=>e= .returned (.bool (zi s))∧Ext w w':=by
 by_cases h0:s.size=0
 ·obtain rfl:=y9 s h0
  go_enter Tryz.func44,Tryz.ntmps44
  go_wp2_with fail
  go_ret
  exact⟨rfl,Ext.refl _⟩
 ·have b0:s.toList.isEmpty=false:=by
   rw [ByteArray.toList_eq,List.isEmpty_eq_false_iff]
   intro e
   have:=zz s
   rw [e]at this
   exact h0 this.symm
  by_cases h16:16 < s.size
  ·have hv:Hid (zi s=false):=by simp [Hid,zi];omega
   go_enter Tryz.func44,Tryz.ntmps44
   go_wp2_with fail
   go_ret
   exact⟨by rw [hv.out];rfl,Ext.refl _⟩
  ·have hv:Hid (zi s=!(s.data.toList.any xN)):=by
    have h1:decide (0 < s.size)=true:=by simp;omega
    have h2:decide (s.size≤16)=true:=by simp;omega
    rw [Hid,zi,h1,h2];rfl
   have hcv:=fun W=>run_bytes_of_string (P:=Tryz.prog) W 9 53 5 s Tryz.underlying9 Tryz.underlying53 Tryz.underlying5
   have hrd:=aan w s (grownCap w s.size 0 5) 5 ((bytesRow s (grownCap w s.size 0 5)).size,(bytesRow s (grownCap w s.size 0 5)).size+1)
   have HR:=Lib.hid hrd
   clear hrd
   go_enter Tryz.func44,Tryz.ntmps44
   go_wp2_with fail
   clear hcv
   refine(aeI _ (some ⟨w.heap.size,0,none⟩) s.size _ w.heap.size (w.heap.size+1) s.data.toList (by rw [zz]) hm HR.out.drew (by simp)).mono ?_
   rintro e w2 ⟨rfl,e2⟩
   generalize s.data.toList.any xN=X at *
   go_wp2_with fail
   go_ret
   exact⟨by rw [hv.out];rfl,blo⟩
theorem afn(s:ByteArray)(w:World)(hm:s.size≤9223372036854775807):Calls Tryz.prog 160 #[.string s] w fun e w'=>e= .returned (.bool (xP s))∧Ext w w':=by
 by_cases h16:32 < s.size
 ·have hv:Hid (xP s=false):=by simp [Hid,xP];omega
  go_enter Tryz.func160,Tryz.ntmps160
  go_wp2_with fail
  go_ret
  exact⟨by rw [hv.out];rfl,Ext.refl _⟩
 ·have hv:Hid (xP s=!(s.data.toList.any xR)):=by
   have h2:decide (s.size≤32)=true:=by simp;omega
   rw [Hid,xP,h2];rfl
  have hcv:=fun W=>run_bytes_of_string (P:=Tryz.prog) W 9 53 5 s Tryz.underlying9 Tryz.underlying53 Tryz.underlying5
  have hrd:=aan w s (grownCap w s.size 0 5) 5 ((bytesRow s (grownCap w s.size 0 5)).size,(bytesRow s (grownCap w s.size 0 5)).size+1)
  have HR:=Lib.hid hrd
  clear hrd
  go_enter Tryz.func160,Tryz.ntmps160
  go_wp2_with fail
  clear hcv
  refine(aer _ (some ⟨w.heap.size,0,none⟩) s.size _ w.heap.size (w.heap.size+1) s.data.toList (by rw [zz]) hm HR.out.drew (by simp)).mono ?_
  rintro e w2 ⟨rfl,e2⟩
  generalize s.data.toList.any xR=X at *
  go_wp2_with fail
  go_ret
  exact⟨by rw [hv.out];rfl,blo⟩
theorem y0(s:ByteArray)(w:World)(hm:s.size≤9223372036854775807):Calls Tryz.prog 29 #[.string s] w fun e w'=>e= .returned (.bool (zi s))∧Ext w w':=by
 have HD:=Lib.hid (zz s)
 go_enter Tryz.func29,Tryz.ntmps29
 go_wp2_with fail
 go_loopw [3] (fun i wr=> ∃k:Nat,k≤s.size∧i= .int .i64 k∧Hid ((s.data.toList.take k).any xN=false)∧Ext w wr) (fun i _=>s.size - (intOf i).toNat)
 case atStart=>exact⟨0,Nat.zero_le _,rfl,by rw [Hid];rfl,Ext.refl _⟩
 case round=>
  obtain⟨k,hk,rfl,HK,e1⟩:=hrel
  by_cases hlt:k < s.size
  ·have hl:k < s.data.toList.length:=by rw [HD.out];exact hlt
   obtain⟨y,hy⟩: ∃y,s[k]'hlt=y:=⟨_,rfl⟩
   have HY:Hid (s.data.toList[k]'hl=y):=hy
   go_wp2_with fail
   refine(ady y _).mono ?_
   rintro e w2 ⟨rfl,e2⟩
   cases ho:xN y
   ·go_wp2_with fail
    go_roundw
    case rel=>
     refine⟨k+1,by omega,by go_num,Lib.hid ?_,blo⟩
     rw [List.take_succ_eq_append_getElem hl,List.any_append,HK.out,HY.out]
     simp [ho]
    case measure=>simp [intOf];omega
   ·have hv:Hid (zi s=false):=by
     have h1:s.data.toList.any xN=true:=List.any_eq_true.2 ⟨y,by rw [←HY.out];exact List.getElem_mem _,ho⟩
     rw [Hid,zi,h1]
     simp
    go_wp2_with fail
    go_ret
    exact⟨by rw [hv.out];rfl,blo⟩
  ·obtain rfl:k=s.size:=by omega
   have h1:s.data.toList.any xN=false:=by
    have h1:=HK.out
    rwa [List.take_of_length_le (by rw [HD.out];exact Nat.le_refl _)]at h1
   have hv:Hid (zi s=(decide (0 < s.size) && decide (s.size≤16))):=by rw [Hid,zi,h1];simp
   clear h1
   by_cases hz:s.size=0
   ·have h2:(decide (0 < s.size) && decide (s.size≤16))=false:=by simp;omega
    have t1: ¬(1:Int)≤(s.size:Int):=by omega
    go_wp2_with fail
    go_ret
    exact⟨by rw [hv.out,h2];rfl,e1⟩
   ·have t1:(1:Int)≤(s.size:Int):=by omega
    by_cases h16:16 < s.size
    ·have h2:(decide (0 < s.size) && decide (s.size≤16))=false:=by simp;omega
     have t2: ¬(s.size:Int)≤16:=by omega
     go_wp2_with fail
     go_ret
     exact⟨by rw [hv.out,h2];first | rfl | (simp;omega),e1⟩
    ·have h2:(decide (0 < s.size) && decide (s.size≤16))=true:=by simp;omega
     have t2:(s.size:Int)≤16:=by omega
     go_wp2_with fail
     go_ret
     exact⟨by rw [hv.out,h2];first | rfl | (simp;omega),e1⟩
theorem ad5(s:ByteArray)(w:World)(hm:s.size≤9223372036854775807):Calls Tryz.prog 114 #[.string s] w fun e w'=>e= .returned (.bool (xP s))∧Ext w w':=by
 have HD:=Lib.hid (zz s)
 go_enter Tryz.func114,Tryz.ntmps114
 go_wp2_with fail
 go_loopw [3] (fun i wr=> ∃k:Nat,k≤s.size∧i= .int .i64 k∧Hid ((s.data.toList.take k).any xR=false)∧Ext w wr) (fun i _=>s.size - (intOf i).toNat)
 case atStart=>exact⟨0,Nat.zero_le _,rfl,by rw [Hid];rfl,Ext.refl _⟩
 case round=>
  obtain⟨k,hk,rfl,HK,e1⟩:=hrel
  by_cases hlt:k < s.size
  ·have hl:k < s.data.toList.length:=by rw [HD.out];exact hlt
   obtain⟨y,hy⟩: ∃y,s[k]'hlt=y:=⟨_,rfl⟩
   have HY:Hid (s.data.toList[k]'hl=y):=hy
   cases ho:xR y
   ·obtain⟨t1,t2⟩: ¬(y.toNat:Int) < 32∧ ¬(126:Int) < (y.toNat:Int):=by
     simp only [xR,abV,Bool.or_eq_false_iff,decide_eq_false_iff_not]at ho
     exact ho
    go_wp2_with fail
    go_roundw
    case rel=>
     refine⟨k+1,by omega,by go_num,Lib.hid ?_,blo⟩
     rw [List.take_succ_eq_append_getElem hl,List.any_append,HK.out,HY.out]
     simp [ho]
    case measure=>simp [intOf];omega
   ·have hv:Hid (xP s=false):=by
     have h1:s.data.toList.any xR=true:=List.any_eq_true.2 ⟨y,by rw [←HY.out];exact List.getElem_mem _,ho⟩
     rw [Hid,xP,h1]
     simp
    have ho2:(y.toNat:Int) < 32∨(¬(y.toNat:Int) < 32∧(126:Int) < (y.toNat:Int)):=by
     simp only [xR,abV,Bool.or_eq_true,decide_eq_true_eq]at ho
     omega
    clear ho
    rcases ho2 with t1 | ⟨t1,t2⟩
    ·go_wp2_with fail
     go_ret
     exact⟨by rw [hv.out];rfl,e1⟩
    ·go_wp2_with fail
     go_ret
     exact⟨by rw [hv.out];rfl,e1⟩
  ·obtain rfl:k=s.size:=by omega
   have h1:s.data.toList.any xR=false:=by
    have h1:=HK.out
    rwa [List.take_of_length_le (by rw [HD.out];exact Nat.le_refl _)]at h1
   have hv:Hid (xP s=decide (s.size≤32)):=by rw [Hid,xP,h1];simp
   clear h1
   by_cases h16:32 < s.size
   ·have h2:decide (s.size≤32)=false:=by simp;omega
    have t2: ¬(s.size:Int)≤32:=by omega
    go_wp2_with fail
    go_ret
    exact⟨by rw [hv.out,h2];first | rfl | (simp;omega),e1⟩
   ·have h2:decide (s.size≤32)=true:=by simp;omega
    have t2:(s.size:Int)≤32:=by omega
    go_wp2_with fail
    go_ret
    exact⟨by rw [hv.out,h2];first | rfl | (simp;omega),e1⟩
structure Prp where
 name:ByteArray
 value:ByteArray
def Prp.cells(x:Prp):List Value:= [.string x.name,.string x.value]
def prps(xs:List Prp):List Value:=xs.flatMap Prp.cells
theorem aco(x:Prp)(xs:List Prp):prps (x::xs)=x.cells++prps xs:=by simp [prps]
theorem acY(xs:List Prp):(prps xs).length=xs.length * 2:=by
 induction xs with
 | nil=>rfl
 | cons x xs ih=>rw [aco,List.length_append,ih];simp [Prp.cells];omega
theorem af7(xs:List Prp)(k j:Nat)(hj:j < 2)(hk:k < xs.length):(prps xs)[k * 2+j]?=xs[k].cells[j]?:=by
 induction xs generalizing k with
 | nil=>simp at hk
 | cons x xs ih=>
   rw [aco]
   cases k with
   | zero=>rw [List.getElem?_append_left (by simp [Prp.cells];omega)];simp
   | succ k=>
     rw [List.getElem?_append_right (by simp [Prp.cells];omega)]
     have:(k+1) * 2+j - x.cells.length=k * 2+j:=by simp [Prp.cells];omega
     rw [this,ih k (by simpa using hk)]
     simp
theorem aaL{w:World}{lo hi:Nat}{A:Option Addr}{xs:List Prp}(h:Rd w lo hi A (prps xs)){k:Nat}(hk:k < xs.length):
 ∃b o,A=some ⟨b,o,none⟩∧lo≤b∧b < hi∧w.cell? ⟨b,o+k * 2,none⟩=some (.string xs[k].name)∧w.cell? ⟨b,o+k * 2+1,none⟩=some (.string xs[k].value):=by
 obtain⟨b,o,h1,h2,h3,h4⟩:=h (fun e=>by have:=acY xs;rw [e]at this;simp at this;omega)
 have g: ∀j,j < 2→ ∀u,xs[k].cells[j]?=some u→w.cell? ⟨b,o+k * 2+j,none⟩=some u:=fun j hj u hu=>by
  rw [Nat.add_assoc]
  exact h4 _ u (by rw [af7 xs k j hj hk];exact hu)
 exact⟨b,o,h1,h2,h3,g 0 (by omega) _ rfl,g 1 (by omega) _ rfl⟩
def zd(a b:ByteArray):Bool:=Op.bytesLess a.toList b.toList
theorem aac(x y:List UInt8):(!Op.bytesLess y x)=(Op.bytesLess x y || x == y):=by
 induction x generalizing y with
 | nil=>cases y <;> simp [Op.bytesLess]
 | cons a x ih=>
   cases y with
   | nil=>simp [Op.bytesLess]
   | cons b y=>
     have h:=ih y
     simp only [Op.bytesLess,List.cons_beq_cons]
     by_cases h1:a < b
     ·have h2: ¬b < a:=UInt8.not_lt.2 (UInt8.le_of_lt h1)
      have h3:(b == a)=false:=by rw [beq_eq_false_iff_ne];intro e;subst e;exact absurd h1 (UInt8.lt_irrefl _)
      simp [h1,h2,h3]
     ·by_cases h2:b < a
      ·have h3:(a == b)=false:=by rw [beq_eq_false_iff_ne];intro e;subst e;exact absurd h2 (UInt8.lt_irrefl _)
       simp [h1,h2,h3]
      ·have h3:a=b:=UInt8.le_antisymm (UInt8.not_lt.1 h2) (UInt8.not_lt.1 h1)
       subst h3
       simpa [h1]using h
theorem yq(a b:ByteArray):(zd b a || b.toList == a.toList)=!zd a b:=(aac _ _).symm
def nm(xs:List Prp)(k:Nat):ByteArray:=(xs.map Prp.name).getD k .empty
def vl(xs:List Prp)(k:Nat):ByteArray:=(xs.map Prp.value).getD k .empty
theorem acw(xs:List Prp)(k:Nat)(h:k < xs.length):nm xs k=xs[k].name:=by simp [nm,h]
theorem agv(xs:List Prp)(k:Nat)(h:k < xs.length):vl xs k=xs[k].value:=by simp [vl,h]
def yP(xs:List Prp)(k:Nat):Bool:=!zi (nm xs k) || !xP (vl xs k) || (decide (0 < k) && !zd (nm xs (k - 1)) (nm xs k))
def xH(xs:List Prp)(k:Nat):Bool:=(List.range k).any (yP xs)
theorem aaP(xs:List Prp)(k:Nat):xH xs (k+1)=(xH xs k || yP xs k):=by simp [xH,List.range_succ]
theorem aaD(xs:List Prp)(k n:Nat)(h:k < n)(hb:yP xs k=true):xH xs n=true:=List.any_eq_true.2 ⟨k,List.mem_range.2 h,hb⟩
def prE(xs:List Prp):Int:=if 8 < xs.length then 9 else if xH xs xs.length then 9 else 0
set_option linter.unusedSimpArgs false in
theorem qe(w:World)(A:Option Addr)(n c:Nat)(xs:List Prp)(hn:n=xs.length)(hm:n≤9223372036854775807)(hr:Rd w 0 w.heap.size A (prps xs))(hwf: ∀x∈xs,x.name.size≤9223372036854775807∧x.value.size≤9223372036854775807):
 Calls Tryz.prog 117 #[.slice A n c] w fun e w'=>e= .returned (.int .i64 (prE xs))∧Ext w w':=by
 have Hn:=Lib.hid hn
 have HW:=Lib.hid hwf
 by_cases h8:8 < n
 ·have hv:Hid (prE xs=9):=by rw [Hid,prE,if_pos (by omega)]
  clear hn hwf
  go_enter Tryz.func117,Tryz.ntmps117
  go_wp2_with fail
  go_ret
  exact⟨by rw [hv.out];rfl,Ext.refl _⟩
 ·clear hn hwf
  go_enter Tryz.func117,Tryz.ntmps117
  go_wp2_with fail
  go_loopw [10] (fun i wr=> ∃k:Nat,k≤n∧i= .int .i64 k∧Hid (xH xs k=false)∧Ext w wr) (fun i _=>n - (intOf i).toNat)
  case atStart=>exact⟨0,Nat.zero_le _,rfl,by rw [Hid];rfl,Ext.refl _⟩
  case round=>
   obtain⟨k,hk,rfl,HK,e1⟩:=hrel
   by_cases hlt:k < n
   ·have hl:k < xs.length:=by rw [←Hn.out];omega
    have hmem:=HW.out xs[k] (List.getElem_mem _)
    obtain⟨b1,o1,rfl,_,hb1,f0,f1⟩:=aaL hr hl
    have hba:Hid (yP xs k=(!zi xs[k].name || !xP xs[k].value || (decide (0 < k) && !zd (nm xs (k - 1)) xs[k].name))):=by rw [Hid,yP,acw xs k hl,agv xs k hl]
    have hbs:=Lib.hid (aaP xs k)
    have hba2:=Lib.hid (aaD xs k xs.length hl)
    generalize xs[k]=y at *
    have g0:wr.cell? ⟨b1,o1+k * 2,none⟩=some (.string y.name):=by rw [Below.cell e1 hb1];exact f0
    have g1:wr.cell? ⟨b1,o1+k * 2+1,none⟩=some (.string y.value):=by rw [Below.cell e1 hb1];exact f1
    go_wp2_with fail
    generalize hw1:World.alloc wr _=w1;obtain⟨ew1,zw1,Gw1⟩:=aag hw1;have gw1_0:=Gw1 0 _ rfl;have gw1_1:=Gw1 1 _ rfl;have Zw1:=Lib.hid zw1;clear zw1 hw1 Gw1;have rw1:=Ext.refl w1
    have hle: ¬8 < xs.length:=by rw [←Hn.out];exact h8
    have hv:Hid (yP xs k=true→prE xs=9):=Lib.hid fun h=>by rw [prE,if_neg hle,if_pos (hba2.out h)]
    have E1:Ext w w1:=e1.trans ew1
    refine wp_region_held_drew (S:=fun w'=>Ext w1 w') (by kernel_rfl) blo (fun hHeld=>?_)
    refine tW 0 2 ?_
    refine oS 2 (fun K hK=>?_);go_simp
    refine(xf y.name _ hmem.1).mono ?_
    rintro e wa ⟨rfl,ea⟩
    go_wp2_with fail;refine hK.out _ _ blo (fun hHeld=>?_);clear hK K;(try simp only [Act.put,lyA,lyB,lyC])
    cases ho:zi y.name
    ·have hv:=Lib.hid (hv.out (by rw [hba.out,ho];rfl))
     refine tW 3 2 ?_
     refine sW 5 4 ?_
     refine tW 9 2 ?_
     refine sW 11 13 ?_
     refine tW 24 1 ?_
     refine wpAnyH_done (by kernel_rfl) ?_ _
     go_wp2_with fail
     go_ret
     exact⟨by rw [hv.out];rfl,blo⟩
    ·refine tS 3 ?_;(try simp only [Act.put,lyA,lyB,lyC])
     refine tW 4 3 ?_
     refine oS 7 (fun K hK=>?_);go_simp
     refine(afn y.value _ hmem.2).mono ?_
     rintro e wb ⟨rfl,eb⟩
     go_wp2_with fail;refine hK.out _ _ blo (fun hHeld=>?_);clear hK K;(try simp only [Act.put,lyA,lyB,lyC])
     cases hp:xP y.value
     ·have hv:=Lib.hid (hv.out (by rw [hba.out,ho,hp];rfl))
      refine tW 8 3 ?_
      refine sW 11 13 ?_
      refine tW 24 1 ?_
      refine wpAnyH_done (by kernel_rfl) ?_ _
      go_wp2_with fail
      go_ret
      exact⟨by rw [hv.out];rfl,blo⟩
     ·refine tS 8 ?_;(try simp only [Act.put,lyA,lyB,lyC])
      refine tW 9 2 ?_
      cases k with
      | zero=>
        have hbf:Hid (yP xs 0=false):=by rw [hba.out,ho,hp];rfl
        refine tW 11 3 ?_
        refine sW 14 9 ?_
        refine tW 23 2 ?_
        refine wpAnyH_done (by kernel_rfl) ?_ _
        go_wp2_with fail
        go_roundw
        case rel=>
         refine⟨1,by omega,by go_num,Lib.hid (by rw [hbs.out,HK.out,hbf.out];rfl),blo⟩
        case measure=>(first | (simp [intOf];done) | (simp [intOf];omega))
      | succ j=>
        obtain⟨b2,o2,hbo,_,_,f2,_⟩:=aaL hr (k:=j) (by omega)
        obtain⟨rfl,rfl⟩:b1=b2∧o1=o2:=by simpa using hbo
        rw [←acw xs j (by omega)]at f2
        have f3: ∀w',Ext w1 w'→w'.cell? ⟨b1,o1+j * 2,none⟩=some (.string (nm xs j)):=fun w' h=>by rw [Below.cell (E1.trans h) hb1];exact f2
        have hd:decide (0 < j+1)=true:=by simp
        have hba:=Lib.hid hba.out
        have hba:Hid (yP xs (j+1)=!zd (nm xs j) y.name):=by
         have h:=hba.out
         rw [Nat.add_sub_cancel,ho,hp,hd]at h
         exact h
        clear f2 hbo hd
        have hjn:(j:Int) < (n:Int):=by omega
        have hs0:IntKind.i64.wrap (j:Int)=(j:Int):=IntWalk.i64_in _ (by omega)
        generalize nm xs j=z at *
        refine tW 11 11 ?_
        cases hq:zd z y.name
        ·have hv:=Lib.hid (hv.out (by rw [hba.out,hq];rfl))
         have hq2:Op.bytesLess z.toList y.name.toList=false:=hq
         refine tW 22 3 ?_
         refine wpAnyH_done (by kernel_rfl) ?_ _
         go_wp2_with fail
         go_ret
         exact⟨by rw [hv.out];rfl,blo⟩
        ·have hbf:Hid (yP xs (j+1)=false):=by rw [Hid,hba.out,hq];rfl
         have hq2:Op.bytesLess z.toList y.name.toList=true:=hq
         refine tW 22 3 ?_
         refine wpAnyH_done (by kernel_rfl) ?_ _
         go_wp2_with fail
         go_roundw
         case rel=>
          refine⟨j+2,by omega,by go_num,Lib.hid (by rw [hbs.out,HK.out,hbf.out];rfl),blo⟩
         case measure=>(first | (simp [intOf];done) | (simp [intOf];omega))
   ·obtain rfl:k=n:=by omega
    have hv:Hid (prE xs=0):=by
     have h1:=HK.out
     rw [Hn.out]at h1 h8
     rw [Hid,prE,if_neg h8,h1]
     rfl
    go_wp2_with fail
    go_ret
    exact⟨by rw [hv.out];rfl,e1⟩
structure Rec where
 kind:Int
 name:ByteArray
 frm:Int
 guid:Int
 oA:Option Addr
 on:Nat
 oc:Nat
 own:List Prp
 index:Int
 count:Int
 data:ByteArray
 s0:Int
 s1:Int
 s2:Int
 s3:Int
def Rec.cells(x:Rec):List Value:= [.int .i64 x.kind,.string x.name,.int .i64 x.frm,.int .i64 x.guid,.slice x.oA x.on x.oc,.int .i64 x.index,.int .i64 x.count,.string x.data,.int .u64 x.s0,.int .u64 x.s1,.int .u64 x.s2,.int .u64 x.s3]
theorem agT(w:World)(A:Option Addr)(n c:Nat)(hm:n≤9223372036854775807):
 Calls Tryz.prog 242 #[.slice A n c,.slice none 0 0] w fun e w'=>e= .returned (.bool (decide (n=0)))∧Ext w w':=by
 by_cases h0:n=0
 ·subst h0
  go_enter Tryz.func242,Tryz.ntmps242
  go_wp2_with fail
  go_loopw [13] (fun i wr=>i= .int .i64 0∧wr=w) (fun _ _=>0)
  case atStart=>exact⟨rfl,rfl⟩
  case round=>
   obtain⟨rfl,rfl⟩:=hrel
   go_wp2_with fail
   go_ret
   exact⟨rfl,Ext.refl _⟩
 ·have h1:decide (n=0)=false:=by simpa using h0
  have h2:((n:Int) == 0)=false:=by rw [beq_eq_false_iff_ne];omega
  have h3:((n:Int) != 0)=true:=by rw [bne_iff_ne];omega
  go_enter Tryz.func242,Tryz.ntmps242
  go_wp2_with fail
  go_ret
  exact⟨by rw [h1];rfl,Ext.refl _⟩
theorem afm(w:World)(A:Option Addr)(n c:Nat)(hm:n≤9223372036854775807):
 Calls Tryz.prog 235 #[.slice A n c,.slice none 0 0] w fun e w'=>e= .returned (.bool (decide (n=0)))∧Ext w w':=by
 go_enter Tryz.func235,Tryz.ntmps235
 go_wp2_with ((with_reducible refine(agT _ A n c hm).mono ?_);rintro e w1 ⟨rfl,h1⟩)
 go_ret
 exact⟨rfl,h1⟩
def xz(x y:Rec):Bool:=
 x.kind == y.kind && x.name.toList == y.name.toList && x.frm == y.frm && x.guid == y.guid && x.index == y.index && x.count == y.count && x.data.toList == y.data.toList &&
  (x.s0 == y.s0 && x.s1 == y.s1 && x.s2 == y.s2 && x.s3 == y.s3) && decide (x.on=0)
theorem qt(w:World)(x y:Rec)(hm:x.on≤9223372036854775807)(h0:y.oA=none)(h1:y.on=0)(h2:y.oc=0):
 Calls Tryz.prog 220 #[.agg x.cells.toArray,.agg y.cells.toArray] w fun e w'=>e= .returned (.bool (xz x y))∧Ext w w':=by
 obtain⟨k,n,f,g,oA,on,oc,own,i,c,d,s0,s1,s2,s3⟩:=x
 obtain⟨k',n',f',g',oA',on',oc',own',i',c',d',s0',s1',s2',s3'⟩:=y
 simp only at h0 h1 h2 hm
 subst h0 h1 h2
 have HS:=Lib.hid (show xz ⟨k,n,f,g,oA,on,oc,own,i,c,d,s0,s1,s2,s3⟩ ⟨k',n',f',g',none,0,0,own',i',c',d',s0',s1',s2',s3'⟩=
  (k == k' && n.toList == n'.toList && f == f' && g == g' && i == i' && c == c' && d.toList == d'.toList && (s0 == s0' && s1 == s1' && s2 == s2' && s3 == s3') && decide (on=0))from rfl)
 generalize xz _ _=b at HS
 simp only [Rec.cells]
 go_enter Tryz.func220,Tryz.ntmps220
 go_wp2_with ((with_reducible refine(afm _ oA on oc hm).mono ?_);rintro e w1 ⟨rfl,e1⟩)
 all_goals (go_ret;exact⟨by rw [HS.out];(first | (simp [*];done) | trace_state),blo⟩)
end Go.Proofs.YtckaneapjpiocaaGreatDoor
