/- The texts Hpk, Swp, Wri in one file. -/
import Derived.Test.YtckaneapjpiocaaGreatDoorP10
set_option linter.unusedVariables false
set_option linter.unusedSimpArgs false
set_option maxHeartbeats 4000000
set_option maxRecDepth 100000
namespace Go.Proofs.YtckaneapjpiocaaGreatDoor
open Go.RowKit
theorem Heap.sub'{w0 w:World}{its its':List It}(H:Heap w0 its w)(f:Nat→Nat)(hf: ∀i j,f i=f j→i=j)(h: ∀i x,its'[i]?=some x→its[f i]?=some x):Heap w0 its' w:=
 ⟨H.ext,fun i x hx=>H.all (f i) x (h i x hx),fun i j x y k hij hx hy=>H.apart (f i) (f j) x y k (fun e=>hij (hf i j e)) (h i x hx) (h j y hy)⟩
theorem Heap.pick{w0 w:World}{its its':List It}(H:Heap w0 its w)(p:List Nat)(hp:p.Nodup)(hv:p.all (fun i=>decide (i < its.length))=true)(h:its'=p.filterMap fun i=>its[i]?):Heap w0 its' w:=by
 have hv': ∀i∈p,i < its.length:=fun i hi=>by simpa using List.all_eq_true.1 hv i hi
 have hl: ∀(p:List Nat),(∀i∈p,i < its.length)→ ∀i:Nat,(p.filterMap fun i=>its[i]?)[i]?=p[i]?.bind fun j=>its[j]?:=by
  intro p
  induction p with
  | nil=>intro _ i;simp
  | cons a p ih=>
    intro hq i
    have ha:=hq a (List.mem_cons_self ..)
    rw [List.filterMap_cons,List.getElem?_eq_getElem ha]
    cases i with
    | zero=>simp [List.getElem?_eq_getElem ha]
    | succ i=>simpa using ih (fun j hj=>hq j (List.mem_cons_of_mem _ hj)) i
 subst h
 refine H.sub' (fun i=>match p[i]? with | some j=>j | none=>its.length+i) (fun i j e=>?_) fun i x hx=>?_
 ·(try dsimp only at e)
  cases hi:p[i]? with
  | none=>
    cases hj:p[j]? with
    | none=>rw [hi,hj]at e;dsimp only at e;omega
    | some b=>rw [hi,hj]at e;dsimp only at e;have:=hv' b (List.mem_of_getElem? hj);omega
  | some a=>
    cases hj:p[j]? with
    | none=>rw [hi,hj]at e;dsimp only at e;have:=hv' a (List.mem_of_getElem? hi);omega
    | some b=>
      rw [hi,hj]at e
      dsimp only at e
      subst e
      obtain⟨h1,h2⟩:=List.getElem?_eq_some_iff.1 hi
      obtain⟨h3,h4⟩:=List.getElem?_eq_some_iff.1 hj
      rcases Nat.lt_trichotomy i j with h5 | h5 | h5
      ·exact absurd (h2.trans h4.symm) (List.pairwise_iff_getElem.1 hp i j h1 h3 h5)
      ·exact h5
      ·exact absurd (h4.trans h2.symm) (List.pairwise_iff_getElem.1 hp j i h3 h1 h5)
 ·rw [hl p hv']at hx
  cases hi:p[i]? with
  | none=>rw [hi]at hx;cases hx
  | some a=>rw [hi]at hx;exact hx
theorem Heap.mid{w0 w:World}{x:It}{a b:List It}(H:Heap w0 (x::(a++b)) w):Heap w0 (a++x::b) w:=by
 refine H.sub' (fun i=>if i < a.length then i+1 else if i=a.length then 0 else i) (fun i j e=>?_) fun i y hy=>?_
 ·split at e <;> split at e <;> (try split at e) <;> (try split at e) <;> omega
 ·by_cases h1:i < a.length
  ·rw [if_pos h1,List.getElem?_cons_succ,List.getElem?_append_left h1]
   rwa [List.getElem?_append_left h1]at hy
  ·rw [if_neg h1]
   by_cases h2:i=a.length
   ·subst h2
    rw [if_pos rfl]
    rw [List.getElem?_append_right (Nat.le_refl _),Nat.sub_self]at hy
    simpa using hy
   ·rw [if_neg h2]
    rw [List.getElem?_append_right (by omega)]at hy
    obtain⟨k,hk⟩: ∃k,i=a.length+1+k:=⟨i - a.length - 1,by omega⟩
    subst hk
    rw [show a.length+1+k - a.length=k+1 by omega,List.getElem?_cons_succ]at hy
    rw [show a.length+1+k=(a.length+k)+1 by omega,List.getElem?_cons_succ,List.getElem?_append_right (by omega),show a.length+k - a.length=k by omega]
    exact hy
theorem Heap.back{w0 w:World}{x:It}{a:List It}(H:Heap w0 (x::a) w):Heap w0 (a++ [x]) w:=Heap.mid (b:= []) (by simpa using H)
theorem It.lower{x:It}{base base':Nat}{w:World}(h:x.holds base w)(hb:base'≤base):x.holds base' w:=by
 cases x with
 | box b vs=>exact⟨Nat.le_trans hb h.1,h.2⟩
 | row e size v n xs=>exact yo h hb
 | rd A cs=>
   intro hn
   obtain⟨b,o,he,h1,h2,h3⟩:=h hn
   exact⟨b,o,he,h1,Nat.le_trans hb h2,h3⟩
 | any S p lt keep=>exact⟨fun k hk=>Nat.le_trans hb (h.1 k hk),h.2⟩
theorem It.at_ge{x:It}{base k:Nat}{w:World}(h:x.holds base w)(ha:x.at' k):base≤k:=by
 cases x with
 | box b vs=>cases ha;exact h.1
 | row e size v n xs=>exact(World.ownsRow.lt h k ha).1
 | rd A cs=>
   obtain⟨hn,a,rfl,rfl⟩:=ha
   obtain⟨b,o,he,h1,h2,h3⟩:=h hn
   cases he
   exact h2
 | any S p lt keep=>exact h.1 k ha
theorem Heap.joinR{w0 w w':World}{its its2:List It}(H:Heap w0 its w)(H2:Heap w its2 w'):Heap w0 (its++its2) w':=by
 have hl:=H.later H2.ext
 refine⟨hl.ext,fun i x hx=>?_,fun i j x y k hij hx hy ho ha=>?_⟩
 ·by_cases h1:i < its.length
  ·rw [List.getElem?_append_left h1]at hx
   exact hl.all _ x hx
  ·rw [List.getElem?_append_right (by omega)]at hx
   exact It.lower (H2.all _ x hx) H.ext.size
 ·by_cases h1:i < its.length
  ·rw [List.getElem?_append_left h1]at hx
   by_cases h2:j < its.length
   ·rw [List.getElem?_append_left h2]at hy
    exact H.apart i j x y k hij hx hy ho ha
   ·rw [List.getElem?_append_right (by omega)]at hy
    have a1:=It.at_ge (H2.all _ y hy) ha
    have a2:=It.at_lt (H.all _ x hx) (It.own_at ho)
    omega
  ·rw [List.getElem?_append_right (by omega)]at hx
   by_cases h2:j < its.length
   ·rw [List.getElem?_append_left h2]at hy
    have a1:=It.at_ge (H2.all _ x hx) (It.own_at ho)
    have a2:=It.at_lt (H.all _ y hy) ha
    omega
   ·rw [List.getElem?_append_right (by omega)]at hy
    exact H2.apart _ _ x y k (fun e=>hij (by omega)) hx hy ho ha
theorem Heap.swap{w0 w:World}{a b:List It}(H:Heap w0 (a++b) w):Heap w0 (b++a) w:=by
 have e: ∀i y,(b++a)[i]?=some y→i < b.length+a.length:=fun i y h=>by
  have:=(List.getElem?_eq_some_iff.1 h).1
  rwa [List.length_append]at this
 refine H.sub' (fun i=>if i < b.length then i+a.length else if i < b.length+a.length then i - b.length else i) (fun i j h=>?_) fun i y hy=>?_
 ·(try dsimp only at h)
  split at h <;> split at h <;> (try split at h) <;> (try split at h) <;> omega
 ·have h9:=e i y hy
  by_cases h1:i < b.length
  ·rw [if_pos h1,List.getElem?_append_right (by omega),Nat.add_sub_cancel]
   rwa [List.getElem?_append_left h1]at hy
  ·rw [if_neg h1,if_pos h9,List.getElem?_append_left (by omega)]
   rwa [List.getElem?_append_right (by omega)]at hy
open Go.Maps Go.Sort Go.Shelf
abbrev wri(b:Nat)(v:Value)(n:Nat)(xs:List ByteArray)(its:List It):List It:= .box b [v]:: .row 9 1 v n (xs.map Value.string)::its
theorem aak{w0 w:World}{its:List It}(b:Nat)(v:Value)(n:Nat)(xs ys:List ByteArray)(H:Heap w0 (wri b v n xs its) w)(A:Option Addr)(m c:Nat)(hm:m=ys.length)(hr:Rd w 0 w.heap.size A (ys.map Value.string))(hN:n+m≤100000000):
 Calls Tryz.prog 87 #[.pointer (some ⟨b,0,none⟩),.slice A m c] w fun e w'=> ∃v',e= .returned (.tuple #[])∧Heap w0 (wri b v' (n+m) (xs++ys) its) w':=by
 obtain⟨i0,hi0,hz0,hz1,hz2⟩:=info_parts abO
 have HH:=Lib.hid H
 have HR:=Lib.hid hr
 have Hm:=Lib.hid hm
 have HO:=Lib.hid (show∀u∈ys.map Value.string,u.oneCell'=true from fun u hu=>by obtain⟨y,_,rfl⟩:=List.mem_map.1 hu;rfl)
 clear H hr hm
 go_enter Tryz.func87,Tryz.ntmps87
 go_wp2_with (first | (refine zc HH.out rfl rfl rfl 0 rfl rfl (by decide+kernel) ?_) | (refine xI (e:=9) (size:=1) (bytes:=16) (news:=ys.map Value.string) (lo:=0) (.tmp 8) (.tmp 9) _ rfl rfl Tryz.underlying109 hi0 hz0 hz1 hz2 rfl (by omega) HH.out 1 rfl rfl (m:=m) rfl (by rw [Nat.mul_one,List.length_map];exact Hm.out.symm) HR.out HO.out (by simp only [maxLen];omega) (by omega) ?_;intro v7 w7 hh7 h7;clear HH;obtain⟨A7,c7,rfl⟩:=h7;have HH:=Lib.hid hh7;clear hh7) | (refine qa HH.out rfl rfl rfl rfl 0 rfl rfl rfl (by kernel_rfl) ?_;clear HH;intro wS HHS;have HH:=Lib.hid HHS;clear HHS))
 go_end0
 refine⟨rfl,.slice A7 (n+m) c7,?_⟩
 have h:=HH.out
 rw [wri,List.map_append]
 exact h
theorem abe{w0 w:World}{its:List It}(b:Nat)(v:Value)(n:Nat)(xs:List ByteArray)(H:Heap w0 (wri b v n xs its) w)(A:Option Addr)(m c:Nat)(zs:List Int)(hm:m=zs.length)(hr:Rd w 0 w.heap.size A (ints zs))(hN:n+m≤100000000)(hwf: ∀z∈zs,-9223372036854775808≤z∧z≤9223372036854775807):
 Calls Tryz.prog 86 #[.pointer (some ⟨b,0,none⟩),.slice A m c] w fun e w'=> ∃v',e= .returned (.tuple #[])∧Heap w0 (wri b v' (n+m) (xs++zs.map zl) its) w':=by
 have HH:=Lib.hid H
 have HNu:=Lib.hid (zu w A m c zs hm hr (by omega) hwf)
 have Hm:=Lib.hid (show m=(zs.map zl).length by rw [List.length_map];exact hm)
 have HE:=Lib.hid (show xi zs=(zs.map zl).map Value.string by rw [List.map_map];rfl)
 clear H hr hwf hm
 go_enter Tryz.func86,Tryz.ntmps86
 go_wp2_with fail
 refine HNu.out.mono ?_
 rintro e w2 ⟨v2,rfl,hown,e2⟩
 obtain⟨A2,c2,rfl,k1,k2,_⟩:=zo hown
 have HR2:=Lib.hid (show Rd w2 0 w2.heap.size A2 ((zs.map zl).map Value.string)by rw [←HE.out];exact(Rd.of_own hown).m0)
 have HH2:=Lib.hid (HH.out.later e2)
 clear HH hown e2
 go_wp2_with fail
 refine(aak b v n xs (zs.map zl) HH2.out A2 m c2 Hm.out HR2.out hN).mono ?_
 rintro e w3 ⟨v3,rfl,h3⟩
 have HH3:=Lib.hid h3
 clear h3 HH2 HR2
 go_wp2_with fail
 go_end0
 first | exact⟨v3,rfl,HH3.out⟩ | exact⟨rfl,v3,HH3.out⟩
theorem abH(w:World)(q:Int):Calls Tryz.prog 46 #[.bool true,.int .i64 q] w fun e w'=>e= .returned (.tuple #[])∧w'=w:=by
 go_enter Tryz.func46,Tryz.ntmps46
 go_wp2_with fail
 go_end0
 exact⟨rfl,rfl⟩
theorem ac6{w0 w:World}{its:List It}(b:Nat)(v:Value)(n:Nat)(xs:List ByteArray)(H:Heap w0 (wri b v n xs its) w)(A:Option Addr)(m c:Nat)(bs:List UInt8)(hm:m=bs.length)(hM:m≤100000000)(hr:Rd w 0 w.heap.size A (bytes bs))(hN:n+1≤100000000):
 Calls Tryz.prog 90 #[.pointer (some ⟨b,0,none⟩),.slice A m c,.int .i64 0] w fun e w'=> ∃v',e= .returned (.tuple #[])∧Heap w0 (wri b v' (n+1) (xs++ [qr bs]) its) w':=by
 have HH:=Lib.hid H
 have HC:=Lib.hid (fun W (hW:Ext w W)=>qh (P:=Tryz.prog) W 53 9 5 Tryz.underlying53 Tryz.underlying5 Tryz.underlying9 _ _ A m c bs hm (Rd.at hr hW (Nat.le_refl _)))
 have Hm:=Lib.hid hm
 clear H hr hm
 go_enter Tryz.func90,Tryz.ntmps90
 go_wp2_with fail
 refine(abH w 0).mono ?_
 rintro e w1 ⟨rfl,rfl⟩
 have hcv:=HC.out w1 (Ext.refl _)
 clear HC
 go_wp2_with fail
 generalize hwA:World.alloc w1 _=w2
 have HH2:=Lib.hid (HH.out.allocE hwA)
 clear hwA HH hcv
 have HR2:=Lib.hid (show Rd w2 0 w2.heap.size (some ⟨w1.heap.size,0,none⟩) ([qr bs].map Value.string)from(HH2.out.boxRd 0 rfl).m0)
 refine(aak b v n xs [qr bs] HH2.out.tail _ 1 1 rfl HR2.out hN).mono ?_
 rintro e w3 ⟨v3,rfl,h3⟩
 have HH3:=Lib.hid h3
 clear h3 HH2 HR2
 go_wp2_with fail
 go_end0
 first | exact⟨v3,rfl,HH3.out⟩ | exact⟨rfl,v3,HH3.out⟩
theorem afN{w0 w:World}{its:List It}(b:Nat)(v:Value)(n:Nat)(xs:List ByteArray)(H:Heap w0 (wri b v n xs its) w)(A:Option Addr)(m c:Nat)(ps:List Prp)(hm:m=ps.length)(hM:m≤10000000)(hr:Rd w0 0 w0.heap.size A (prps ps))(hN:n≤10000000):
 Calls Tryz.prog 89 #[.pointer (some ⟨b,0,none⟩),.slice A m c] w fun e w'=> ∃v',e= .returned (.tuple #[])∧Heap w0 (wri b v' (n+(1+m * 2)) (xs++yC ps) its) w':=by
 have HH:=Lib.hid H
 have HT:=Lib.hid (fun W (hW:Ext w0 W)=>aaU W A m c ps hm (by omega) (Rd.at hr hW (Nat.le_refl _)))
 have Hm:=Lib.hid hm
 clear H hr hm
 go_enter Tryz.func89,Tryz.ntmps89
 go_wp2_with fail
 generalize hwA:World.alloc w _=w2
 have HH2:=Lib.hid (HH.out.allocE hwA)
 clear hwA HH
 refine(abe b v n xs HH2.out.tail _ 1 1 [(m:Int)] rfl ((HH2.out.boxRd 0 rfl).m0) (by omega) (by intro z hz;simp only [List.mem_singleton]at hz;subst hz;omega)).mono ?_
 rintro e w3 ⟨v3,rfl,h3⟩
 have HH3:=Lib.hid h3
 clear h3 HH2
 go_wp2_with fail
 refine(HT.out w3 HH3.out.ext).mono ?_
 rintro e w4 ⟨v4,rfl,hown,e4⟩
 obtain⟨A4,c4,rfl,k1,k2,_⟩:=zo hown
 have HR4:=Lib.hid (show Rd w4 0 w4.heap.size A4 ((yf ps).map Value.string)from(Rd.of_own hown).m0)
 have HH4:=Lib.hid (HH3.out.later e4)
 have HX:=Lib.hid (show yC ps= [zl (m:Int)]++yf ps by rw [yC,Hm.out];rfl)
 clear HH3 hown e4 HT
 go_wp2_with fail
 refine(aak b v3 (n+1) _ (yf ps) HH4.out A4 (m * 2) c4 (by rw [yK,Hm.out]) HR4.out (by omega)).mono ?_
 rintro e w5 ⟨v5,rfl,h5⟩
 have HH5:=Lib.hid h5
 clear h5 HH4 HR4
 go_wp2_with fail
 go_end0
 have h:Heap w0 (wri b v5 (n+(1+m * 2)) (xs++yC ps) its) w5:=by
  rw [HX.out,←List.append_assoc,←Nat.add_assoc]
  exact HH5.out
 first | exact⟨v5,rfl,h⟩ | exact⟨rfl,v5,h⟩
theorem aeL(w:World)(A:Option Addr)(n c:Nat)(ks:List ByteArray)(hn:n=ks.length)(hc:n≤c)(hN:n≤1000)(hl:(zF ks).size≤100000000)(hr:Rd w 0 w.heap.size A (ks.map Value.string)):
 Calls Tryz.prog 145 #[.slice A n c,.string ⟨#[47]⟩] w fun e w'=>e= .returned (.string (zF ks))∧Ext w w':=by
 subst hn
 by_cases h0:ks= []
 ·subst h0
  refine(Tryz.strings_Join_none A c ⟨#[47]⟩ w).mono ?_
  rintro e w' ⟨rfl,rfl⟩
  exact⟨rfl,Ext.refl _⟩
 ·obtain⟨b,o,rfl,_,hb,hcl⟩:=hr (by simpa using h0)
  exact Tryz.strings_Join b o c ks ⟨#[47]⟩ w (fun j x hx=>hcl j _ (by rw [List.getElem?_map,hx];rfl)) hb (by omega) hc (by
   have e:(zF ks).size=(Go.Lib.join (ks.map (·.data.toList)) [47]).length:=List.size_toArray
   rw [e]at hl
   exact Nat.le_trans hl (by decide))
theorem xZ:(Tryz.prog.info? 56).map (·.size)=some 3:=by kernel_rfl
def aaj(w w':World)(k:ByteArray)(bs:List UInt8)(e:Ending):Prop:=
 ∃A m c,e= .returned (.agg #[.string k,.slice A m c,.slice none 0 0])∧w'.ownsRow w.heap.size 5 1 (.slice A m c) m (bytes bs)∧m=bs.length∧Ext w w'
theorem ac3{w0 w:World}{its:List It}(b:Nat)(A0:Option Addr)(c0 n:Nat)(xs:List ByteArray)(H:Heap w0 (wri b (.slice A0 n c0) n xs its) w)(A:Option Addr)(m c:Nat)(ks:List ByteArray)(hm:m=ks.length)(hc:m≤c)(hM:m≤1000)(hr:Rd w 0 w.heap.size A (ks.map Value.string))(hx:n=xs.length)(hN:n≤10000000)(hE:wE xs=0)(hl:(zF ks).size≤100000000):
 Calls Tryz.prog 88 #[.pointer (some ⟨b,0,none⟩),.slice A m c] w fun e w'=>aaj w w' (zF ks) (zM xs) e:=by
 have HH:=Lib.hid H
 have HW:=Lib.hid (fun W (hW:Ext w W)=>show Calls Tryz.prog 97 #[.slice A0 n c0] W fun e w'=> ∃v,e= .returned (.tuple #[v,.int .i64 0])∧w'.ownsRow W.heap.size 5 1 v (zM xs).length (bytes (zM xs))∧Ext W w' from(aal W A0 n c0 xs hx (by omega) (Rd.at ((Rd.of_own (H.rowAt 1 rfl)).m0) hW (Nat.le_refl _))).mono (fun e w' h=>by
  obtain⟨v,h1,h2,h3⟩:=h
  rw [hE]at h1
  rw [show wB xs=zM xs by rw [wB,if_pos hE]]at h2
  exact⟨v,h1,h2,h3⟩))
 have HJ:=Lib.hid (fun W (hW:Ext w W)=>aeL W A m c ks hm hc hM hl (Rd.at hr hW (Nat.le_refl _)))
 have HG:=Lib.hid (show w.cell? ⟨b,0,none⟩=some (.slice A0 n c0)from(H.boxAt 0 rfl).cell 0 _ rfl)
 clear H hr hm hE hx hl hc hN hM
 go_enter Tryz.func88,Tryz.ntmps88
 go_upto_region 1 with fail
 generalize hwH:World.alloc w _=w1;have HH:=Lib.hid (Heap.one hwH);clear hwH
 have g0:w1.cell? ⟨b,0,none⟩=some (.slice A0 n c0):=(Below.cell HH.out.ext (World.block_lt_of_cell? w _ HG.out)).trans HG.out
 clear HG
 go_wp2_with fail
 clear g0
 refine(HW.out _ HH.out.ext).mono ?_
 rintro e w2 ⟨v2,rfl,hown,e2⟩
 obtain⟨A2,c2,rfl,k1,k2,_⟩:=zo hown
 have HH2:=Lib.hid (HH.out.addRow e2 hown)
 clear HH hown e2
 go_wp2_with fail
 refine(abH w2 0).mono ?_
 rintro e w3 ⟨rfl,rfl⟩
 go_wp2_with fail
 refine(HJ.out w3 HH2.out.ext).mono ?_
 rintro e w4 ⟨rfl,e4⟩
 have HH:=Lib.hid (HH2.out.later e4)
 clear HH2 e4
 go_wp2_with (refine zt HH.out xZ rfl rfl rfl rfl 1 rfl rfl rfl rfl ?_;clear HH;intro wS HHS;have HH:=Lib.hid HHS;clear HHS)
 refine aaB xZ (by kernel_rfl) HH.out rfl rfl 1 rfl rfl rfl ?_
 exact⟨A2,_,c2,rfl,HH.out.rowAt 0 rfl,rfl,HH.out.ext⟩
theorem zD(l:List Prp):(yC l).length=1+l.length * 2:=by rw [yC,List.length_cons,yK];omega
theorem agW{α:Type}(f:α→List ByteArray)(l:List α)(k:Nat)(h:k < l.length):((l.take k).flatMap f).length+(f l[k]).length≤(l.flatMap f).length:=by
 have e:l=l.take k++l[k]::l.drop (k+1):=by simp
 have:(l.flatMap f).length=((l.take k++l[k]::l.drop (k+1)).flatMap f).length:=by rw [←e]
 rw [this,List.flatMap_append,List.flatMap_cons,List.length_append,List.length_append];omega
theorem ahu{l:List ByteArray}(h:wE l=0):l.length≤1024:=by
 have: ¬1024 < l.length:=fun h'=>by rw [wE,if_pos h']at h;cases h
 omega
abbrev wtr(b:Nat)(A:Option Addr)(c:Nat)(xs:List ByteArray)(its:List It):List It:=wri b (.slice A xs.length c) xs.length xs its
theorem acv{w0 w:World}{its:List It}{b n:Nat}{v:Value}{xs:List ByteArray}(H:Heap w0 (wri b v n xs its) w): ∃A c,Heap w0 (wtr b A c xs its) w:=by
 have hr:=H.rowAt 1 rfl
 obtain⟨A,c,rfl,_,_,_⟩:=zo hr
 have hn:xs.length=n:=by have:=hr.1;rw [List.length_map,Nat.mul_one]at this;exact this
 subst hn
 exact⟨A,c,H⟩
theorem afB{w0 w:World}{its:List It}{b:Nat}(H:Heap w0 (.box b [.slice none 0 0]::its) w):Heap w0 (wtr b none 0 [] its) w:=by
 have h:=H.row0 (e:=9) (size:=1)
 exact(show Heap w0 (.row 9 1 (.slice none 0 0) 0 []::([.box b [.slice none 0 0]]++its)) w from h).mid
theorem abl{w0 w:World}{x:It}{its:List It}{b:Nat}{A:Option Addr}{c:Nat}{xs:List ByteArray}(H:Heap w0 (x::wtr b A c xs its) w):Heap w0 (wtr b A c xs (x::its)) w:=
 (show Heap w0 (x::([.box b [.slice A xs.length c],.row 9 1 (.slice A xs.length c) xs.length (xs.map Value.string)]++its)) w from H).mid
theorem abi{w0 w:World}{x:It}{its:List It}{b:Nat}{A:Option Addr}{c:Nat}{xs:List ByteArray}(H:Heap w0 (wtr b A c xs (x::its)) w):Heap w0 (wtr b A c xs its) w:=by
 refine H.sub' (fun i=>if i < 2 then i else i+1) (fun i j e=>?_) fun i y hy=>?_
 ·split at e <;> split at e <;> omega
 ·match i with
  | 0=>exact hy
  | 1=>exact hy
  | i+2=>
    rw [if_neg (by omega)]
    exact hy
theorem aaj.lower{w0 w w':World}{k:ByteArray}{bs:List UInt8}{e:Ending}(h:aaj w w' k bs e)(e0:Ext w0 w):aaj w0 w' k bs e:=by
 obtain⟨A,m,c,h1,h2,h3,h4⟩:=h
 exact⟨A,m,c,h1,yo h2 e0.size,h3,e0.trans h4⟩
section
variable {w0 w:World} {its:List It} (b:Nat) (A0:Option Addr) (c0:Nat) (xs:List ByteArray)
theorem qU(ys:List ByteArray)(H:Heap w0 (wtr b A0 c0 xs its) w)(A:Option Addr)(m c:Nat)(hm:m=ys.length)(hr:Rd w 0 w.heap.size A (ys.map Value.string))(hN:xs.length+m≤100000000):
 Calls Tryz.prog 87 #[.pointer (some ⟨b,0,none⟩),.slice A m c] w fun e w'=>e= .returned (.tuple #[])∧ ∃A' c',Heap w0 (wtr b A' c' (xs++ys) its) w':=
 (aak b _ _ xs ys H A m c hm hr hN).mono fun e w' h=>by
   obtain⟨v,h1,h2⟩:=h
   exact⟨h1,acv h2⟩
theorem yF(zs:List Int)(H:Heap w0 (wtr b A0 c0 xs its) w)(A:Option Addr)(m c:Nat)(hm:m=zs.length)(hr:Rd w 0 w.heap.size A (ints zs))(hN:xs.length+m≤100000000)(hwf: ∀z∈zs,-9223372036854775808≤z∧z≤9223372036854775807):
 Calls Tryz.prog 86 #[.pointer (some ⟨b,0,none⟩),.slice A m c] w fun e w'=>e= .returned (.tuple #[])∧ ∃A' c',Heap w0 (wtr b A' c' (xs++zs.map zl) its) w':=
 (abe b _ _ xs H A m c zs hm hr hN hwf).mono fun e w' h=>by
   obtain⟨v,h1,h2⟩:=h
   exact⟨h1,acv h2⟩
theorem qF(bs:List UInt8)(H:Heap w0 (wtr b A0 c0 xs its) w)(A:Option Addr)(m c:Nat)(hm:m=bs.length)(hM:m≤100000000)(hr:Rd w 0 w.heap.size A (bytes bs))(hN:xs.length+1≤100000000):
 Calls Tryz.prog 90 #[.pointer (some ⟨b,0,none⟩),.slice A m c,.int .i64 0] w fun e w'=>e= .returned (.tuple #[])∧ ∃A' c',Heap w0 (wtr b A' c' (xs++ [qr bs]) its) w':=
 (ac6 b _ _ xs H A m c bs hm hM hr hN).mono fun e w' h=>by
   obtain⟨v,h1,h2⟩:=h
   exact⟨h1,acv h2⟩
theorem aft(ps:List Prp)(H:Heap w0 (wtr b A0 c0 xs its) w)(A:Option Addr)(m c:Nat)(hm:m=ps.length)(hM:m≤10000000)(hr:Rd w0 0 w0.heap.size A (prps ps))(hN:xs.length≤10000000):
 Calls Tryz.prog 89 #[.pointer (some ⟨b,0,none⟩),.slice A m c] w fun e w'=>e= .returned (.tuple #[])∧ ∃A' c',Heap w0 (wtr b A' c' (xs++yC ps) its) w':=
 (afN b _ _ xs H A m c ps hm hM hr hN).mono fun e w' h=>by
   obtain⟨v,h1,h2⟩:=h
   exact⟨h1,acv h2⟩
theorem aaQ(ks:List ByteArray)(H:Heap w0 (wtr b A0 c0 xs its) w)(A:Option Addr)(m c:Nat)(hm:m=ks.length)(hc:m≤c)(hM:m≤1000)(hr:Rd w 0 w.heap.size A (ks.map Value.string))(hE:wE xs=0)(hl:(zF ks).size≤100000000):
 Calls Tryz.prog 88 #[.pointer (some ⟨b,0,none⟩),.slice A m c] w fun e w'=>aaj w w' (zF ks) (zM xs) e:=
 ac3 b A0 c0 _ xs H A m c ks hm hc hM hr rfl (by
  have: ¬1024 < xs.length:=fun h=>by rw [wE,if_pos h]at hE;cases hE
  omega) hE hl
end
end Go.Proofs.YtckaneapjpiocaaGreatDoor
