/- The texts Cnk, Cns, Ipr, Rr2, Rr3, Rr4 in one file. -/
import Derived.Test.YtckaneapjpiocaaGreatDoorQ14
set_option linter.unusedVariables false
set_option linter.unusedSimpArgs false
set_option maxHeartbeats 8000000
set_option maxRecDepth 100000
namespace Go.Proofs.YtckaneapjpiocaaGreatDoor
open Go.RowKit Go.Shelf
attribute [local go_sem] Oper.semAt_some
def chV(A:Option Addr)(m n k:Nat):Value:= .slice (A.map (·.add (k * m))) (min m (n - k * m)) (min m (n - k * m))
def chN(m n:Nat):Nat:=(n+m - 1) / m
theorem afk{m n k:Nat}(hm:1≤m):k < chN m n↔k * m < n:=by
 unfold chN
 rw [Nat.lt_div_iff_mul_lt hm]
 omega
theorem aff{P:Program}(w:World)(t e:TypeId)(inf:TypeInfo)(ht:P.underlying t=some (.slice e))(hi:P.info? e=some inf)(hs:inf.size=1)(A:Option Addr)(n c i j:Nat)(I J:Int)(hI:I=(i:Int))(hJ:J=(j:Int))(hij:i < j)(hj:j≤c):
 (Instr.slice t (.slice A n c) (some (.int .i64 I)) (some (.int .i64 J)) (some (.int .i64 J))).run P w= .ok (.slice (A.map (·.add i)) (j - i) (j - i)) w:=by
 subst hI
 subst hJ
 have hb:(Instr.sliceBounds true n c (some (.int .i64 (i:Int))) (some (.int .i64 (j:Int))) (some (.int .i64 (j:Int)))).run P w= .ok (i,j,j) w:=by
  simp [Instr.sliceBounds,run_sliceBound (P:=P) w .i64 (j:Int) c .slice3Acap (by omega) (by omega),run_sliceBound (P:=P) w .i64 (j:Int) j .slice3B (by omega) (by omega),run_sliceBound (P:=P) w .i64 (i:Int) j .slice3C (by omega) (by omega)]
 have hne: ¬j=i:=by omega
 simp [Instr.slice,run_underlying ht,hb,sizeOf,typeInfo,hi,hs,hne]
theorem ajk(l bs bm:Nat)(A:Option Addr)(n c m:Nat)(hm:1≤m)(hM:m≤1000000)(hN:n≤100000000000)(hnc:n≤c)(J:List Nat→World→Prop)
 (hJ: ∀pre W,J pre W→W.cell? ⟨bs,0,none⟩=some (.slice A n c)∧W.cell? ⟨bm,0,none⟩=some (.int .i64 (m:Int)))
 (hJd: ∀pre W,J pre W→J pre W.drew)
 (hY: ∀pre x W1,J pre W1→pre.length < chN m n→x=pre.length→YieldAt Fence.wide 0 Tryz.prog l #[chV A m n x] W1 fun e W'=>e= .returned (.bool true)∧J (pre++ [x]) W')
 (W:World) (h0:J [] W):
 Calls Tryz.prog 221 #[.func (.yield l) #[] #[],.pointer (some ⟨bs,0,none⟩),.pointer (some ⟨bm,0,none⟩)] W fun e W'=>(∃v,e= .returned v)∧ ∃xs,xs=List.range (chN m n)∧J xs W':=by
 obtain⟨i0,hi0,hz0,hz1,hz2⟩:=info_parts aaT
 have HY:=hiD hY
 have HJ:=hiD hJ
 have HD:=hiD hJd
 clear hY hJ hJd
 refine(callsIn_wide (n:=1)).1 (callsIn_of_wp Tryz.func221 rfl trivial ?_ rfl)
 simp only [Tryz.ntmps221,List.size_toArray,List.length_cons,List.length_nil,Nat.reduceAdd,Nat.reduceSub,Array.replicate_succ,Array.replicate_zero,List.push_toArray,List.append_toArray,List.nil_append,List.cons_append]
 gi_wp2
 gi_loopw [4] (fun i wr=> ∃k:Nat,k≤chN m n∧i= .int .i64 ((k * m:Nat):Int)∧J (List.range k) wr) (fun i _=>(chN m n) * m - (intOf i).toNat)
 case atStart=>exact⟨0,Nat.zero_le _,by simp,h0⟩
 case round=>
  obtain⟨k,hk,rfl,hJs⟩:=hrel
  obtain⟨c1,c2⟩:=HJ.out _ _ hJs
  by_cases hlt:k < chN m n
  ·have hlt2:=(afk (n:=n) hm).1 hlt
   obtain⟨fn,tmps,assign,body,hy,hR⟩:=HY.out _ k wr.drew (HD.out _ _ hJs) (by simpa using hlt) (by simp)
   have hs1:=fun W=>yC (P:=Tryz.prog) W 53 5 i0 1 Tryz.underlying53 hi0 hz1 A n c (k * m) _ rfl (by omega)
   have hmin:=hiD (show(if n - k * m < m then((n - k * m:Nat):Int)else(m:Int))=((min m (n - k * m):Nat):Int)by
    split <;> omega)
   have hminb:=hiD (show min (m:Int) ((n - k * m:Nat):Int)=((min m (n - k * m):Nat):Int)by omega)
   simp only [chV]at hy
   have hq1:1≤min m (n - k * m):=by omega
   have hq2:min m (n - k * m)≤n - k * m:=Nat.min_le_right _ _
   have hq3:min m (n - k * m)≤m:=Nat.min_le_left _ _
   have hle:k * m+m≤chN m n * m:=by
    have:(k+1) * m≤chN m n * m:=Nat.mul_le_mul_right _ hlt
    rw [Nat.succ_mul]at this
    exact this
   have hchN:chN m n * m≤n+m:=by
    have h1:=Nat.div_mul_le_self (n+m - 1) m
    show(n+m - 1) / m * m≤n+m
    omega
   gi_wp2
   gi_region
   (try simp only [hmin.out])
   (try simp only [hminb.out])
   generalize hq:min m (n - k * m)=q at *
   clear hmin hminb hq hs1
   have hs3:=fun W=>aff (P:=Tryz.prog) W 53 5 i0 Tryz.underlying53 hi0 hz1 A n c (k * m) (k * m+q) ((k * m:Nat):Int) (((k * m:Nat):Int)+(q:Int)) rfl (by omega) (by omega) (by omega)
   rw [show k * m+q - k * m=q by omega]at hs3
   generalize hkm:k * m=km at *
   have c1':wr.drew.cell? { block:=bs,off:=0 }=some (Value.slice A n c):=c1
   have c2':wr.drew.cell? { block:=bm,off:=0 }=some (Value.int IntKind.i64 ↑m):=c2
   gi_wp2
   refine hR.mono ?_
   rintro e W3 ⟨rfl,hJ3⟩
   obtain⟨d1,d2⟩:=HJ.out _ _ hJ3
   gi_wp2
   go_roundw
   case rel=>exact⟨k+1,by omega,by rw [←hkm];congr 1;rw [Nat.succ_mul];omega,by rw [List.range_succ];exact hJ3⟩
   case measure=>simp [intOf];omega
  ·obtain rfl:k=chN m n:=by omega
   have hge:n≤chN m n * m:=by
    rcases Nat.lt_or_ge (chN m n * m) n with h | h
    ·exact absurd ((afk hm).2 h) (by omega)
    ·exact h
   gi_wp2
   go_end0
   exact⟨⟨_,rfl⟩,_,rfl,hJs⟩
theorem akF(w:World)(A:Option Addr)(n c m:Nat)(hm:1≤m)(hM:m≤1000000):
 Calls Tryz.prog 193 #[.slice A n c,.int .i64 (m:Int)] w fun e w'=>e= .returned (.func (.func 221) #[] #[.pointer (some ⟨w.heap.size,0,none⟩),.pointer (some ⟨w.heap.size+1,0,none⟩)])∧w'=(w.alloc (.cells #[.slice A n c] 53)).alloc (.cells #[.int .i64 (m:Int)] 3):=by
 go_enter Tryz.func193,Tryz.ntmps193
 go_wp2_with fail
 go_ret
 exact⟨rfl,rfl⟩
theorem alr{w0 w:World}{R:List Nat→List It→Prop}{A:Option Addr}{n c m bs bm:Nat}(hm:1≤m)(hM:m≤1000000)(hN:n≤100000000000)(hnc:n≤c)
 (hcells: ∀pre L,R pre L→ ∀W x y,Heap w0 (x::y::L) W→W.cell? ⟨bs,0,none⟩=some (.slice A n c)∧W.cell? ⟨bm,0,none⟩=some (.int .i64 (m:Int))):
 ∀(l:Nat) (J:List Nat→World→Prop) (W:World),Ext w W→(∀pre W,J pre W→ ∃x y L,R pre L∧Heap w0 (x::y::L) W)→(∀pre W,J pre W→J pre W.drew)→(false=true→AbidesFrom W.heap.size J)→
  (∀pre x W1,J pre W1→pre.length < chN m n→x=pre.length→YieldAt Fence.wide 0 Tryz.prog l #[chV A m n x] W1 fun e W'=>e= .returned (.bool true)∧J (pre++ [x]) W'∧(false=true→aiP w0.heap.size W.heap.size W1 W'))→J [] W→
  Calls Tryz.prog 221 (#[.func (.yield l) #[] #[]]++ #[.pointer (some ⟨bs,0,none⟩),.pointer (some ⟨bm,0,none⟩)]) W fun e W'=>(∃v,e= .returned v)∧ ∃xs,xs=List.range (chN m n)∧J xs W':=
 fun l J W _ hJ hJd _ hY h0=>ajk l bs bm A n c m hm hM hN hnc J (fun pre W h=>by
  obtain⟨x,y,L,hL,H⟩:=hJ pre W h
  exact hcells pre L hL W x y H) hJd (fun pre x W1 h1 h2 h3=>(hY pre x W1 h1 h2 h3).mono fun e W' h=>⟨h.1,h.2.1⟩) W h0
attribute [local go_sem] Oper.semAt_some
theorem aiE(l bs bm:Nat)(A:Option Addr)(n c m:Nat)(hm:1≤m)(hM:m≤1000000)(hN:n≤100000000000)(hnc:n≤c)(J:List Nat→World→Prop)
 (hJ: ∀pre W,J pre W→W.cell? ⟨bs,0,none⟩=some (.slice A n c)∧W.cell? ⟨bm,0,none⟩=some (.int .i64 (m:Int)))
 (hJd: ∀pre W,J pre W→J pre W.drew)
 (hY: ∀pre x W1,J pre W1→pre.length < chN m n→x=pre.length→YieldAt Fence.wide 0 Tryz.prog l #[chV A m n x] W1 fun e W'=>e= .returned (.bool true)∧J (pre++ [x]) W')
 (W:World) (h0:J [] W):
 Calls Tryz.prog 208 #[.func (.yield l) #[] #[],.pointer (some ⟨bs,0,none⟩),.pointer (some ⟨bm,0,none⟩)] W fun e W'=>(∃v,e= .returned v)∧ ∃xs,xs=List.range (chN m n)∧J xs W':=by
 obtain⟨i0,hi0,hz0,hz1,hz2⟩:=info_parts abd
 have HY:=hiD hY
 have HJ:=hiD hJ
 have HD:=hiD hJd
 clear hY hJ hJd
 refine(callsIn_wide (n:=1)).1 (callsIn_of_wp Tryz.func208 rfl trivial ?_ rfl)
 simp only [Tryz.ntmps208,List.size_toArray,List.length_cons,List.length_nil,Nat.reduceAdd,Nat.reduceSub,Array.replicate_succ,Array.replicate_zero,List.push_toArray,List.append_toArray,List.nil_append,List.cons_append]
 gi_wp2
 gi_loopw [4] (fun i wr=> ∃k:Nat,k≤chN m n∧i= .int .i64 ((k * m:Nat):Int)∧J (List.range k) wr) (fun i _=>(chN m n) * m - (intOf i).toNat)
 case atStart=>exact⟨0,Nat.zero_le _,by simp,h0⟩
 case round=>
  obtain⟨k,hk,rfl,hJs⟩:=hrel
  obtain⟨c1,c2⟩:=HJ.out _ _ hJs
  by_cases hlt:k < chN m n
  ·have hlt2:=(afk (n:=n) hm).1 hlt
   obtain⟨fn,tmps,assign,body,hy,hR⟩:=HY.out _ k wr.drew (HD.out _ _ hJs) (by simpa using hlt) (by simp)
   have hs1:=fun W=>yC (P:=Tryz.prog) W 109 9 i0 1 Tryz.underlying109 hi0 hz1 A n c (k * m) _ rfl (by omega)
   have hmin:=hiD (show(if n - k * m < m then((n - k * m:Nat):Int)else(m:Int))=((min m (n - k * m):Nat):Int)by
    split <;> omega)
   have hminb:=hiD (show min (m:Int) ((n - k * m:Nat):Int)=((min m (n - k * m):Nat):Int)by omega)
   simp only [chV]at hy
   have hq1:1≤min m (n - k * m):=by omega
   have hq2:min m (n - k * m)≤n - k * m:=Nat.min_le_right _ _
   have hq3:min m (n - k * m)≤m:=Nat.min_le_left _ _
   have hle:k * m+m≤chN m n * m:=by
    have:(k+1) * m≤chN m n * m:=Nat.mul_le_mul_right _ hlt
    rw [Nat.succ_mul]at this
    exact this
   have hchN:chN m n * m≤n+m:=by
    have h1:=Nat.div_mul_le_self (n+m - 1) m
    show(n+m - 1) / m * m≤n+m
    omega
   gi_wp2
   gi_region
   (try simp only [hmin.out])
   (try simp only [hminb.out])
   generalize hq:min m (n - k * m)=q at *
   clear hmin hminb hq hs1
   have hs3:=fun W=>aff (P:=Tryz.prog) W 109 9 i0 Tryz.underlying109 hi0 hz1 A n c (k * m) (k * m+q) ((k * m:Nat):Int) (((k * m:Nat):Int)+(q:Int)) rfl (by omega) (by omega) (by omega)
   rw [show k * m+q - k * m=q by omega]at hs3
   generalize hkm:k * m=km at *
   have c1':wr.drew.cell? { block:=bs,off:=0 }=some (Value.slice A n c):=c1
   have c2':wr.drew.cell? { block:=bm,off:=0 }=some (Value.int IntKind.i64 ↑m):=c2
   gi_wp2
   refine hR.mono ?_
   rintro e W3 ⟨rfl,hJ3⟩
   obtain⟨d1,d2⟩:=HJ.out _ _ hJ3
   gi_wp2
   go_roundw
   case rel=>exact⟨k+1,by omega,by rw [←hkm];congr 1;rw [Nat.succ_mul];omega,by rw [List.range_succ];exact hJ3⟩
   case measure=>simp [intOf];omega
  ·obtain rfl:k=chN m n:=by omega
   have hge:n≤chN m n * m:=by
    rcases Nat.lt_or_ge (chN m n * m) n with h | h
    ·exact absurd ((afk hm).2 h) (by omega)
    ·exact h
   gi_wp2
   go_end0
   exact⟨⟨_,rfl⟩,_,rfl,hJs⟩
theorem alF(w:World)(A:Option Addr)(n c m:Nat)(hm:1≤m)(hM:m≤1000000):
 Calls Tryz.prog 174 #[.slice A n c,.int .i64 (m:Int)] w fun e w'=>e= .returned (.func (.func 208) #[] #[.pointer (some ⟨w.heap.size,0,none⟩),.pointer (some ⟨w.heap.size+1,0,none⟩)])∧w'=(w.alloc (.cells #[.slice A n c] 109)).alloc (.cells #[.int .i64 (m:Int)] 3):=by
 go_enter Tryz.func174,Tryz.ntmps174
 go_wp2_with fail
 go_ret
 exact⟨rfl,rfl⟩
theorem ajy{w0 w:World}{R:List Nat→List It→Prop}{A:Option Addr}{n c m bs bm:Nat}(hm:1≤m)(hM:m≤1000000)(hN:n≤100000000000)(hnc:n≤c)
 (hcells: ∀pre L,R pre L→ ∀W x y,Heap w0 (x::y::L) W→W.cell? ⟨bs,0,none⟩=some (.slice A n c)∧W.cell? ⟨bm,0,none⟩=some (.int .i64 (m:Int))):
 ∀(l:Nat) (J:List Nat→World→Prop) (W:World),Ext w W→(∀pre W,J pre W→ ∃x y L,R pre L∧Heap w0 (x::y::L) W)→(∀pre W,J pre W→J pre W.drew)→(false=true→AbidesFrom W.heap.size J)→
  (∀pre x W1,J pre W1→pre.length < chN m n→x=pre.length→YieldAt Fence.wide 0 Tryz.prog l #[chV A m n x] W1 fun e W'=>e= .returned (.bool true)∧J (pre++ [x]) W'∧(false=true→aiP w0.heap.size W.heap.size W1 W'))→J [] W→
  Calls Tryz.prog 208 (#[.func (.yield l) #[] #[]]++ #[.pointer (some ⟨bs,0,none⟩),.pointer (some ⟨bm,0,none⟩)]) W fun e W'=>(∃v,e= .returned v)∧ ∃xs,xs=List.range (chN m n)∧J xs W':=
 fun l J W _ hJ hJd _ hY h0=>aiE l bs bm A n c m hm hM hN hnc J (fun pre W h=>by
  obtain⟨x,y,L,hL,H⟩:=hJ pre W h
  exact hcells pre L hL W x y H) hJd (fun pre x W1 h1 h2 h3=>(hY pre x W1 h1 h2 h3).mono fun e W' h=>⟨h.1,h.2.1⟩) W h0
theorem anj:(Tryz.prog.info? 160).map (fun i=>(i.zero,i.size,i.bytes))=some (some (.agg #[.string .empty,.string .empty]),2,32):=by kernel_rfl
open Go.Maps Go.Sort
attribute [local go_sem] Oper.semAt_some
def prO:List ByteArray→List Prp
 | a::b::l=>⟨a,b⟩::prO l
 | _=> []
theorem acW: ∀l:List ByteArray,(prO l).length=l.length / 2
 | []=>rfl
 | [_]=>by simp [prO]
 | a::b::l=>by rw [prO,List.length_cons,acW l,List.length_cons,List.length_cons];omega
theorem akh: ∀(l:List ByteArray) (k:Nat) (h:2 * k+1 < l.length),(prO l)[k]?=some ⟨l[2 * k],l[2 * k+1]⟩
 | a::b::l,0,_=>rfl
 | a::b::l,k+1,h=>by
   rw [prO,List.getElem?_cons_succ,akh l k (by simp only [List.length_cons]at h;omega)]
   rfl
 | [],k,h=>by simp at h
 | [_],k,h=>by simp at h
theorem aii: ∀(l:List ByteArray) (x:Prp),x∈prO l→x.name∈l∧x.value∈l
 | a::b::l,x,h=>by
   rw [prO,List.mem_cons]at h
   rcases h with rfl | h
   ·exact⟨by simp,by simp⟩
   ·obtain⟨h1,h2⟩:=aii l x h
    exact⟨by simp [h1],by simp [h2]⟩
 | [],x,h=>by cases h
 | [_],x,h=>by cases h
theorem alR(l:List ByteArray)(k:Nat)(h:2 * k+1 < l.length):(prO l).take (k+1)=(prO l).take k++ [⟨l[2 * k],l[2 * k+1]⟩]:=by
 rw [List.take_add_one,akh l k h];rfl
theorem akj(l:List Prp)(x:Prp):prps (l++ [x])=prps l++x.cells:=by simp [prps]
def amZ(w:World)(ts:List ByteArray)(e:Ending)(w':World):Prop:=Ext w w'∧((prE (prO ts)=0∧ ∃A' c',e= .returned (.tuple #[.slice A' (prO ts).length c',.int .i64 0])∧w'.ownsRow w.heap.size 160 2 (.slice A' (prO ts).length c') (prO ts).length (prps (prO ts)))∨
 (prE (prO ts)≠0∧e= .returned (.tuple #[.slice none 0 0,.int .i64 (prE (prO ts))])))
theorem af3(w:World)(A:Option Addr)(n c:Nat)(ts:List ByteArray)(hn:n=ts.length)(hev:n % 2=0)(hnc:n≤c)(hr:Rd w 0 w.heap.size A (strV ts))(hN:n≤100000)(hs: ∀s∈ts,s.size≤65536):
 Calls Tryz.prog 128 #[.slice A n c] w (amZ w ts):=by
 obtain⟨i0,hi0,hz0,hz1,hz2⟩:=info_parts anj
 have HR:=hiD hr
 have Hn:=hiD hn
 have HS:=hiD hs
 have he:((n:Int) % 2 == 1)=false:=by
  have:(n:Int) % 2=0:=by omega
  rw [this];rfl
 have hN2:=hiD (show chN 2 n=n / 2 by rw [chN];omega)
 have HC:=hiD (fun W (A':Option Addr) (m c':Nat) (hm:m=(prO ts).length) (h:Rd W 0 W.heap.size A' (prps (prO ts)))=>aaH W A' m c' (prO ts) hm (by rw [hm,acW];omega) h (fun x hx=>by
  obtain⟨h1,h2⟩:=aii ts x hx
  have:=hs _ h1
  have:=hs _ h2
  omega))
 clear hr hs hn
 refine(callsIn_wide (n:=1)).1 (callsIn_of_wp_marks Tryz.func128 rfl trivial ?_ rfl)
 simp only [Tryz.ntmps128,List.size_toArray,List.length_cons,List.length_nil,Nat.reduceAdd,Nat.reduceSub,Array.replicate_succ,Array.replicate_zero,List.push_toArray,List.append_toArray,List.nil_append,List.cons_append]
 refine wpIn_wide.2 ?_
 go_upto_region 4 with fail
 generalize hwH:World.alloc w _=w1
 have HH:=hiD (((Heap.start w).row0 (e:=160) (size:=2)).allocE hwH)
 clear hwH
 obtain⟨tb,htb⟩: ∃b,b=w.heap.size:=⟨_,rfl⟩
 rw [←htb]at HH ⊢
 clear htb he
 go_wp2_with fail
 refine(alF _ A n c 2 (by decide) (by decide)).mono ?_
 rintro e w2 ⟨rfl,rfl⟩
 generalize hwH:World.alloc (World.alloc w1 _) _=w2
 replace HH:=hiD ((HH.out.alloc _ _).allocE hwH)
 clear hwH
 simp only [World.size_alloc]at HH
 obtain⟨bs,hbs⟩: ∃b,b=w1.heap.size:=⟨_,rfl⟩
 obtain⟨bm,hbm⟩: ∃b,b=w1.heap.size+1:=⟨_,rfl⟩
 rw [←hbm,←hbs]at HH ⊢
 clear hbs hbm
 go_wp2_with fail
 refine aj0 (P:=Tryz.prog) (α:=Nat) (N:=chN 2 n) (w0:=w) (gf:=208) (lb:= #[.pointer (some ⟨bs,0,none⟩),.pointer (some ⟨bm,0,none⟩)]) (encs:=fun k=> #[chV A 2 n k]) (ok:=fun pre k=>k=pre.length) (S:=fun xs=>xs=List.range (chN 2 n))
  (fun pre L=> ∃(A':Option Addr) (c':Nat),L= [.box bm [.int .i64 2],.box bs [.slice A n c],.box tb [.slice A' pre.length c'],.row 160 2 (.slice A' pre.length c') pre.length (prps ((prO ts).take pre.length))]) false rfl
  (enters_of Tryz.func208 (by kernel_rfl) rfl) (fun _=>rfl) (fun h=>by cases h) (ajy (by decide) (by decide) (by omega) hnc ?cells) ⟨none,0,rfl⟩ HH.out ?a1 ?assign ?body ?done
 case cells=>
  rintro pre L ⟨A',c',rfl⟩ W x y HW
  exact⟨(HW.boxAt 3 rfl).cell 0 _ rfl,(HW.boxAt 2 rfl).cell 0 _ rfl⟩
 case assign=>
  intro l k W K hK
  simp only [chV]
  gi_wp2
  exact hK
 case body=>
  clear HH
  rintro l pre k y1 y2 y3 L W hlen hk ⟨A',c',rfl⟩ H
  have HKp:=hiD (show(pre++ [k]).length=k+1 by rw [List.length_append,←hk];rfl)
  rw [←hk]at hlen H
  clear hk
  rw [hN2.out]at hlen
  have HH:=hiD H
  clear H
  have hk2:2 * k+1 < ts.length:=by rw [←Hn.out];omega
  have HT:=hiD (alR ts k hk2)
  have hx0:(strV ts)[2 * k]?=some (.string ts[2 * k]):=by rw [List.getElem?_map,List.getElem?_eq_getElem (show 2 * k < ts.length by omega)];rfl
  have hx1:(strV ts)[2 * k+1]?=some (.string ts[2 * k+1]):=by rw [List.getElem?_map,List.getElem?_eq_getElem hk2];rfl
  obtain⟨gb,go,hA,_,hgb,hcl⟩:=HR.out (fun e=>by rw [e]at hx0;cases hx0)
  subst hA
  have e0:=hcl _ _ hx0
  have e1:=hcl _ _ hx1
  have HTc:=hiD (fun(W:World) (hW:Ext w W)=>show W.cell? ⟨gb,go+k * 2,none⟩=some (.string ts[2 * k])∧W.cell? ⟨gb,go+k * 2+1,none⟩=some (.string ts[2 * k+1])from
   ⟨by rw [show go+k * 2=go+2 * k by omega];exact(Below.cell (p:=⟨gb,go+2 * k,none⟩) hW hgb).trans e0,by rw [show go+k * 2+1=go+(2 * k+1)by omega];exact(Below.cell (p:=⟨gb,go+(2 * k+1),none⟩) hW hgb).trans e1⟩)
  have hmn:min 2 (n - k * 2)=2:=by have:=Hn.out;omega
  clear hx0 hx1 hcl e0 e1
  generalize ts[2 * k]=s0 at *
  generalize ts[2 * k+1]=s1 at *
  rw [hmn,show((some ⟨gb,go,none⟩:Option Addr).map (·.add (k * 2)))=some ⟨gb,go+k * 2,none⟩by show some (Addr.add ⟨gb,go,none⟩ (k * 2))=_;rw [xS]]
  clear hmn
  refine wpIn_block ?_
  have HHd:=hiD HH.out.drew
  clear HH
  refine ajz (fun z=>Nat.blt z 10) (S:=fun W=>W.cell? ⟨tb,0,none⟩=some (.slice A' k c')∧W.cell? ⟨gb,go+k * 2,none⟩=some (.string s0)∧W.cell? ⟨gb,go+k * 2+1,none⟩=some (.string s1)) (by rintro⟨_,_,h⟩;cases h.1) rfl (by kernel_rfl) ⟨(HHd.out.boxAt 5 rfl).cell 0 _ rfl,HTc.out _ HHd.out.ext⟩ (fun hHeld=>?_)
  generalize World.drew _=wd at *
  refine tM 0 8 ?_
  clear hHeld
  refine oMX 8 (fun K hK=>?_)
  go_simp
  generalize hwA:World.alloc _ _=w6
  have HH6:=hiD (HHd.out.allocE hwA)
  clear hwA HHd
  refine hK.out _ _ ⟨(HH6.out.boxAt 6 rfl).cell 0 _ rfl,HTc.out _ HH6.out.ext⟩ (fun hHeld=>?_)
  clear hK K hHeld
  refine lyX ?_
  refine oMX 9 (fun K hK=>?_)
  refine zO (.tmp 14) (.tmp 22) _ rfl Tryz.underlying41 hi0 hz0 hz1 hz2 rfl (by omega) HH6.out 7 rfl rfl (m:=1) rfl rfl (HH6.out.boxRd 0 rfl) (by simp [Value.oneCell']) (by simp only [maxLen];omega) (by omega) ?_
  rintro v7 w7 hh7 ⟨A7,c7,rfl⟩
  have HH7:=hiD hh7.tail
  clear hh7 HH6
  refine hK.out _ _ ⟨(HH7.out.boxAt 5 rfl).cell 0 _ rfl,HTc.out _ HH7.out.ext⟩ (fun hHeld=>?_)
  clear hK K hHeld
  refine lyX ?_
  refine fMX 10 (fun K hK=>?_)
  refine z8 HH7.out rfl rfl rfl 5 rfl (Nat.le_of_ble_eq_true rfl) rfl (by kernel_rfl) ?_
  intro w8 hh8
  refine hK.out _ _ ?_;clear hK K;refine lyX ?_
  refine xD (by kernel_rfl) ?_
  refine⟨rfl,_,⟨A7,c7,rfl⟩,?_⟩
  rw [HKp.out,HT.out,akj]
  exact hh8
 case done=>
  rintro D y xs L W rfl ⟨A',c',rfl⟩ H
  clear HH
  have HH:=hiD H
  clear H
  rw [List.length_range,hN2.out]at HH
  have hpl:(prO ts).length=n / 2:=by rw [acW,Hn.out]
  rw [List.take_of_length_le (by omega)]at HH
  have HP:=hiD (HC.out W A' (n / 2) c' hpl.symm (HH.out.rowRd 5 rfl |>.m0))
  have HL:=hiD hpl
  clear HC hpl
  (try simp only [Exit.inBlock,Exit.then])
  go_wp2_with (first | (refine l1X HH 4 ?_))
  refine HP.out.mono ?_
  rintro e w2 ⟨rfl,e2⟩
  replace HH:=hiD (HH.out.later e2)
  clear e2 HP
  by_cases hE:prE (prO ts)=0
  ·have HE:=hiD hE
   rw [hE]
   clear hE
   go_wp2_with (first | (refine l1X HH 4 ?_))
   refine⟨by simp,.inl ⟨_,_,rfl,run_takeDeferred (HH.out.objAt 1 rfl),?_⟩⟩
   have H2:=HH.out.putObj 1 rfl (.deferred none)
   refine⟨_,results_tmp2 rfl _ _ _,H2.ext,.inl ⟨HE.out,A',c',?_⟩⟩
   rw [HL.out]
   exact⟨rfl,H2.rowAt 5 rfl⟩
  ·have hd:(prE (prO ts) != 0)=true:=by simpa using hE
   have HE:=hiD hE
   clear hE
   go_wp2_with fail
   refine⟨by simp,.inl ⟨_,_,rfl,run_takeDeferred (HH.out.objAt 1 rfl),?_⟩⟩
   exact⟨_,results_tmp2 rfl _ _ _,(HH.out.putObj 1 rfl (.deferred none)).ext,.inr ⟨HE.out,rfl⟩⟩
attribute [local go_sem] Oper.semAt_some
theorem aoK:(Tryz.prog.info? 183).map (fun i=>(i.zero,i.size,i.bytes))=some (some (.agg #[.int .i64 0,.string .empty]),2,24):=by kernel_rfl
def acm(p:List UInt8):Blk:=⟨yK (p.take 2),⟨(p.drop 2).toArray⟩⟩
def abf(l:List UInt8)(k:Nat):List UInt8:=(l.drop (k * 18)).take 18
def yZ(l:List UInt8):List Blk:=(List.range (l.length / 18)).map fun k=>acm (abf l k)
theorem agO(l:List UInt8):(yZ l).length=l.length / 18:=by simp [yZ]
theorem akC(l:List UInt8)(k:Nat)(h:k < l.length / 18):(yZ l).take (k+1)=(yZ l).take k++ [acm (abf l k)]:=by
 rw [List.take_add_one]
 have:(yZ l)[k]?=some (acm (abf l k)):=by simp [yZ,h]
 rw [this];rfl
theorem aio(l:List UInt8):0≤yK l∧yK l≤4611686018427387903:=by
 unfold yK
 split
 ·omega
 ·split
  ·omega
  ·split <;> omega
theorem ans(p:List UInt8)(h:p.length≤1000):(acm p).wf:=by
 have h1:=aio (p.take 2)
 refine⟨by show _≤yK _;omega,by show yK _≤_;omega,?_⟩
 show(p.drop 2).toArray.size≤_
 simp;omega
theorem ame(l:List UInt8)(k:Nat):(abf l k).length≤18:=by rw [abf,List.length_take];omega
theorem ahQ(l:List UInt8): ∀x∈yZ l,x.wf:=by
 intro x hx
 simp only [yZ,List.mem_map]at hx
 obtain⟨k,_,rfl⟩:=hx
 exact ans _ (by have:=ame l k;omega)
def aby(l:List UInt8):Bool:=decide (l.length % 18=0) && decide (bkE (yZ l)=0)
def api(w:World)(l:List UInt8)(e:Ending)(w':World):Prop:=Ext w w'∧((aby l=true∧ ∃A' c',e= .returned (.tuple #[.slice A' (yZ l).length c',.int .i64 0])∧w'.ownsRow w.heap.size 183 2 (.slice A' (yZ l).length c') (yZ l).length (blks (yZ l)))∨
 (aby l=false∧ ∃E,e= .returned (.tuple #[.slice none 0 0,.int .i64 E])∧E≠0))
theorem akv(w:World)(A:Option Addr)(n c:Nat)(l:List UInt8)(hn:n=l.length)(hnc:n≤c)(hr:Rd w 0 w.heap.size A (bytes l))(hN:n≤100000):
 Calls Tryz.prog 155 #[.slice A n c] w (api w l):=by
 obtain⟨i0,hi0,hz0,hz1,hz2⟩:=info_parts aoK
 obtain⟨i1,hi1,hx0,hx1,hx2⟩:=info_parts aaT
 have Hn:=hiD hn
 by_cases he:n % 18=0
 ·have HR:=hiD hr
  have hd:((n:Int) % 18 != 0)=false:=by simp;omega
  have hN2:=hiD (show chN 18 n=n / 18 by rw [chN];omega)
  have HC:=hiD (fun W (A':Option Addr) (m c':Nat) (hm:m=(yZ l).length) (h:Rd W 0 W.heap.size A' (blks (yZ l)))=>abh W A' m c' (yZ l) hm (by rw [hm,agO];omega) h (ahQ l))
  have HM:=hiD (show l.length % 18=0 by rw [←hn];exact he)
  clear hr hn he
  refine(callsIn_wide (n:=1)).1 (callsIn_of_wp_marks Tryz.func155 rfl trivial ?_ rfl)
  simp only [Tryz.ntmps155,List.size_toArray,List.length_cons,List.length_nil,Nat.reduceAdd,Nat.reduceSub,Array.replicate_succ,Array.replicate_zero,List.push_toArray,List.append_toArray,List.nil_append,List.cons_append]
  refine wpIn_wide.2 ?_
  go_upto_region 4 with fail
  generalize hwH:World.alloc w _=w1
  have HH:=hiD (((Heap.start w).row0 (e:=183) (size:=2)).allocE hwH)
  clear hwH
  obtain⟨tb,htb⟩: ∃b,b=w.heap.size:=⟨_,rfl⟩
  rw [←htb]at HH ⊢
  clear htb hd
  go_wp2_with fail
  refine(akF _ A n c 18 (by decide) (by decide)).mono ?_
  rintro e w2 ⟨rfl,rfl⟩
  generalize hwH:World.alloc (World.alloc w1 _) _=w2
  replace HH:=hiD ((HH.out.alloc _ _).allocE hwH)
  clear hwH
  simp only [World.size_alloc]at HH
  obtain⟨bs,hbs⟩: ∃b,b=w1.heap.size:=⟨_,rfl⟩
  obtain⟨bm,hbm⟩: ∃b,b=w1.heap.size+1:=⟨_,rfl⟩
  rw [←hbm,←hbs]at HH ⊢
  clear hbs hbm
  go_wp2_with fail
  refine aj0 (P:=Tryz.prog) (α:=Nat) (N:=chN 18 n) (w0:=w) (gf:=221) (lb:= #[.pointer (some ⟨bs,0,none⟩),.pointer (some ⟨bm,0,none⟩)]) (encs:=fun k=> #[chV A 18 n k]) (ok:=fun pre k=>k=pre.length) (S:=fun xs=>xs=List.range (chN 18 n))
   (fun pre L=> ∃(A':Option Addr) (c':Nat),L= [.box bm [.int .i64 18],.box bs [.slice A n c],.box tb [.slice A' pre.length c'],.row 183 2 (.slice A' pre.length c') pre.length (blks ((yZ l).take pre.length))]) false rfl
   (enters_of Tryz.func221 (by kernel_rfl) rfl) (fun _=>rfl) (fun h=>by cases h) (alr (by decide) (by decide) (by omega) hnc ?cells) ⟨none,0,rfl⟩ HH.out ?a1 ?assign ?body ?done
  case cells=>
   rintro pre L ⟨A',c',rfl⟩ W x y HW
   exact⟨(HW.boxAt 3 rfl).cell 0 _ rfl,(HW.boxAt 2 rfl).cell 0 _ rfl⟩
  case assign=>
   intro l k W K hK
   simp only [chV]
   gi_wp2
   exact hK
  case body=>
   clear HH
   rintro q pre k y1 y2 y3 L W hlen hk ⟨A',c',rfl⟩ H
   have HKp:=hiD (show(pre++ [k]).length=k+1 by rw [List.length_append,←hk];rfl)
   rw [←hk]at hlen H
   clear hk
   rw [hN2.out]at hlen
   have HH:=hiD H
   clear H
   have hkl:k < l.length / 18:=by rw [←Hn.out];exact hlen
   have HT:=hiD (akC l k hkl)
   have hpl:(abf l k).length=18:=by rw [abf,List.length_take,List.length_drop];have:=HM.out;omega
   have hmn:min 18 (n - k * 18)=18:=by have:=Hn.out;have:=HM.out;omega
   have hpr:Rd W 0 W.heap.size (A.map (·.add (k * 18))) (bytes (abf l k)):=by
    rw [abf,←aaC,←abj]
    exact((HH.out.old HR.out).drop _).take _
   rw [hmn]
   generalize A.map (·.add (k * 18))=Ak at *
   clear hmn
   generalize hP:abf l k=P at *
   clear hP
   have hs2:=fun W=>ahD (P:=Tryz.prog) W 53 5 i1 Tryz.underlying53 hi1 hx1 Ak 18 18 2 2 rfl (by decide)
   have hs3: ∀W,(Instr.slice 53 (.slice Ak 18 18) (some (.int .i64 2)) none none).run Tryz.prog W= .ok (.slice (zy Ak 18 2 1) 16 16) W:=fun W=>yC (P:=Tryz.prog) W 53 5 i1 1 Tryz.underlying53 hi1 hx1 Ak 18 18 2 2 rfl (by decide)
   have HNu:=hiD (fun W (e:Ext w W) (h:Rd W 0 W.heap.size Ak (bytes P))=>aaI W Ak 2 18 0 W.heap.size (P.take 2) (by rw [List.length_take];omega) (by decide) (by rw [←aaC];exact h.take 2) (Nat.le_refl _))
   have HCv:=hiD (fun W' (e:Ext W W')=>qB (P:=Tryz.prog) W' 53 9 5 Tryz.underlying53 Tryz.underlying5 Tryz.underlying9 0 W'.heap.size (zy Ak 18 2 1) 16 16 (P.drop 2) (by rw [List.length_drop];omega) (by
    have hl1:(bytes P).length=18 * 1:=by rw [yS];omega
    have h1:=(Rd.at hpr e (Nat.le_refl _)).from_ hl1 (c:=18) (k:=2) (by omega) (by omega)
    rwa [Nat.mul_one,abj]at h1))
   have HNu2:=hiD (aaI W Ak 2 18 0 W.heap.size (P.take 2) (by rw [List.length_take];omega) (by decide) (by rw [←aaC];exact hpr.take 2) (Nat.le_refl _))
   clear HNu hpr
   have HBp:=hiD (show acm P=⟨yK (P.take 2),⟨(P.drop 2).toArray⟩⟩from rfl)
   generalize yK (P.take 2)=nv at *
   generalize qX (P.take 2)=ne at *
   refine wpIn_block ?_
   refine wpIn_seq ?_
   refine amn (by rintro⟨_,_,h⟩;cases h.1) rfl ?_
   go_wp2_with fail
   refine HNu2.out.mono ?_
   rintro e w4 ⟨rfl,e4⟩
   replace HH:=hiD (HH.out.later e4)
   replace HCv:=hiD (fun W' (e:Ext w4 W')=>HCv.out W' (e4.trans e))
   clear HNu2 e4
   go_wp2_with fail
   (try simp only [Exit.then])
   have HHd:=hiD HH.out.drew
   replace HCv:=hiD (fun W' (e:Ext w4.drew W')=>HCv.out W' ((Ext.drew (Ext.refl _)).trans e))
   clear HH hs2
   refine ajz (fun z=>Nat.blt z 8) (S:=fun W=>W.cell? ⟨tb,0,none⟩=some (.slice A' k c')∧(convert 53 9 (.slice (zy Ak 18 2 1) 16 16)).run Tryz.prog W= .ok (.string ⟨(P.drop 2).toArray⟩) W) (by rintro⟨_,_,h⟩;cases h.1) rfl (by kernel_rfl) ⟨(HHd.out.boxAt 5 rfl).cell 0 _ rfl,HCv.out _ (Ext.refl _)⟩ (fun hHeld=>?_)
   generalize World.drew _=wd at *
   refine tM 0 6 ?_
   clear hHeld
   refine oMX 6 (fun K hK=>?_)
   go_simp
   generalize hwA:World.alloc _ _=w6
   have HH6:=hiD (HHd.out.allocE hwA)
   replace HCv:=hiD (HCv.out w6 (by rw [←hwA];exact(Ext.refl _).alloc _))
   clear hwA HHd
   refine hK.out _ _ ⟨(HH6.out.boxAt 6 rfl).cell 0 _ rfl,HCv.out⟩ (fun hHeld=>?_)
   clear hK K hHeld
   refine lyX ?_
   refine fMX 7 (fun K hK=>?_)
   refine zO (.tmp 22) (.tmp 28) _ rfl Tryz.underlying47 hi0 hz0 hz1 hz2 rfl (by omega) HH6.out 7 rfl rfl (m:=1) rfl rfl (HH6.out.boxRd 0 rfl) (by simp [Value.oneCell']) (by simp only [maxLen];omega) (by omega) ?_
   rintro v7 w7 hh7 ⟨A7,c7,rfl⟩
   have HH7:=hiD hh7.tail
   clear hh7 HH6
   refine hK.out _ _ ?_;clear hK K;refine lyX ?_
   refine fMX 8 (fun K hK=>?_)
   refine z8 HH7.out rfl rfl rfl 5 rfl (Nat.le_of_ble_eq_true rfl) rfl (by kernel_rfl) ?_
   intro w8 hh8
   refine hK.out _ _ ?_;clear hK K;refine lyX ?_
   refine xD (by kernel_rfl) ?_
   refine⟨rfl,_,⟨A7,c7,rfl⟩,?_⟩
   rw [HKp.out,HT.out,ahN,HBp.out]
   exact hh8
  case done=>
   rintro D y xs L W rfl ⟨A',c',rfl⟩ H
   clear HH
   have HH:=hiD H
   clear H
   rw [List.length_range,hN2.out]at HH
   have hpl:(yZ l).length=n / 18:=by rw [agO,Hn.out]
   rw [List.take_of_length_le (by omega)]at HH
   have HP:=hiD (HC.out W A' (n / 18) c' hpl.symm (HH.out.rowRd 5 rfl |>.m0))
   have HL:=hiD hpl
   clear HC hpl
   (try simp only [Exit.inBlock,Exit.then])
   go_wp2_with (first | (refine l1X HH 4 ?_))
   refine HP.out.mono ?_
   rintro e w2 ⟨rfl,e2⟩
   replace HH:=hiD (HH.out.later e2)
   clear e2 HP
   by_cases hE:bkE (yZ l)=0
   ·have HE:=hiD (show aby l=true by rw [aby,HM.out,hE];rfl)
    rw [hE]
    clear hE
    go_wp2_with (first | (refine l1X HH 4 ?_))
    refine⟨by simp,.inl ⟨_,_,rfl,run_takeDeferred (HH.out.objAt 1 rfl),?_⟩⟩
    have H2:=HH.out.putObj 1 rfl (.deferred none)
    refine⟨_,results_tmp2 rfl _ _ _,H2.ext,.inl ⟨HE.out,A',c',?_⟩⟩
    rw [HL.out]
    exact⟨rfl,H2.rowAt 5 rfl⟩
   ·have hd:(bkE (yZ l) != 0)=true:=by simpa using hE
    have HE:=hiD (show aby l=false by rw [aby,decide_eq_false hE,Bool.and_false])
    have HE2:=hiD hE
    clear hE
    go_wp2_with fail
    refine⟨by simp,.inl ⟨_,_,rfl,run_takeDeferred (HH.out.objAt 1 rfl),?_⟩⟩
    exact⟨_,results_tmp2 rfl _ _ _,(HH.out.putObj 1 rfl (.deferred none)).ext,.inr ⟨HE.out,_,rfl,HE2.out⟩⟩
 ·have hd:((n:Int) % 18 != 0)=true:=by simp;omega
  have HB:=hiD (show aby l=false by rw [aby,decide_eq_false (by rw [←hn];exact he)];rfl)
  clear hr hn he
  go_enter Tryz.func155,Tryz.ntmps155
  go_wp2_with fail
  go_ret2
  exact⟨Ext.refl _,.inr ⟨HB.out,_,rfl,by decide⟩⟩
section
variable {w0 w w':World} {b:Nat} {its:List It} {L:RdL} {ts:List ByteArray} {x:It}
theorem RS.drop(h:RS w0 b (x::its) L ts w):RS w0 b its L ts w:=by
 obtain⟨A,c,S,L',h1,h2,h3,h4,h5,h6,H⟩:=h
 refine⟨A,c,S,L',h1,h2,h3,h4,h5,h6,H.sub' (fun i=>if i < 2 then i else i+1) (fun i j e=>?_) fun i y hy=>?_⟩
 ·split at e <;> split at e <;> omega
 ·match i with
  | 0=>exact hy
  | 1=>exact hy
  | i+2=>
    rw [if_neg (by omega)]
    exact hy
theorem RS.small(h:RS w0 b its L ts w):ts.length≤1024∧ ∀s∈ts,s.size≤65536:=by
 obtain⟨A,c,S,L',h1,h2,h3,h4,h5,h6,H⟩:=h
 exact⟨h6,h5⟩
theorem Heap.in2{x a c:It}(H:Heap w0 (x::a::c::its) w):Heap w0 (a::c::x::its) w:=
 H.sub' (fun i=>if i < 2 then i+1 else if i=2 then 0 else i) (fun i j e=>by
  (try dsimp only at e)
  split at e <;> split at e <;> (try split at e) <;> (try split at e) <;> omega) fun i y hy=>by
  match i with
  | 0=>exact hy
  | 1=>exact hy
  | 2=>exact hy
  | i+3=>
    rw [if_neg (by omega),if_neg (by omega)]
    exact hy
theorem RS.open(h:RS w0 b its L ts w): ∃A c S L',(A,strV ts)∈L'∧(∀q∈L,q∈L')∧Heap w0 (.box b [.slice A ts.length c]::It.bag S L'::its) w∧ ∀its9 w9,Heap w0 (.box b [.slice A ts.length c]::It.bag S L'::its9) w9→RS w0 b its9 L ts w9:=by
 obtain⟨A,c,S,L',h1,h2,h3,h4,h5,h6,H⟩:=h
 exact⟨A,c,S,L',h2,h1,H,fun its9 w9 H9=>⟨A,c,S,L',h1,h2,h3,h4,h5,h6,H9⟩⟩
theorem RS.push(h:RS w0 b its L ts w)(k: ∀l,Heap w0 l w→Heap w0 (x::l) w'):RS w0 b (x::its) L ts w':=by
 obtain⟨A,c,S,L',_,_,H,hB⟩:=h.open
 exact hB _ _ (k _ H).in2
end
theorem anb(s:ByteArray):0≤fV s∧fV s≤4611686018427387903:=by
 unfold fV
 split
 ·omega
 ·split
  ·omega
  ·exact aio _
theorem acA{m:Int}{ts:List ByteArray}{v:Int}{us:List ByteArray}(h:rNm m ts=some (v,us)):0≤v∧v≤m∧us.length+1=ts.length∧ ∀s∈us,s∈ts:=by
 cases ts with
 | nil=>cases h
 | cons s l=>
   rw [rNm]at h
   split at h
   ·rename_i h1
    cases h
    exact⟨(anb s).1,h1.2,rfl,fun x hx=>List.mem_cons_of_mem _ hx⟩
   ·cases h
def aac(ts:List ByteArray):Option (List Prp×List ByteArray):=(rNm 8 ts).bind fun p=>
 if p.2.length < 2 * p.1.toNat then none else if prE (prO (p.2.take (2 * p.1.toNat)))=0 then some (prO (p.2.take (2 * p.1.toNat)),p.2.drop (2 * p.1.toNat))else none
theorem am2{w0 w:World}{b:Nat}{its:List It}{L:RdL}{ts:List ByteArray}(HR:RS w0 b its L ts w):
 Calls Tryz.prog 106 #[.pointer (some ⟨b,0,none⟩)] w fun e w'=>match aac ts with
  | none=>e=aao 21∧Heap w0 its w'
  | some (xs,ts')=> ∃A c,e= .returned (.slice A xs.length c)∧xs.length≤c∧c≤maxLen∧RS w0 b its ((A,prps xs)::L) ts' w':=by
 obtain⟨i0,hi0,hz0,hz1,hz2⟩:=info_parts abd
 have HN:=hiD (ae5 HR 8)
 have HS:=hiD HR.small
 clear HR
 cases hn:rNm 8 ts with
 | none=>
   have hO:aac ts=none:=by rw [aac,hn];rfl
   rw [hn]at HN
   simp only [hO]
   clear hO hn
   go_enter Tryz.func106,Tryz.ntmps106
   go_wp2_with fail
   refine HN.out.mono ?_
   rintro e w1 ⟨rfl,h1⟩
   exact⟨rfl,rfl,h1⟩
 | some p=>
   obtain⟨v,us⟩:=p
   obtain⟨v0,v8,hul,hus⟩:=acA hn
   obtain⟨K,rfl⟩: ∃K:Nat,v=(K:Int):=⟨v.toNat,by omega⟩
   have hO:aac ts=if us.length < 2 * K then none else if prE (prO (us.take (2 * K)))=0 then some (prO (us.take (2 * K)),us.drop (2 * K))else none:=by rw [aac,hn];rfl
   rw [hn]at HN
   have HO:=hiD hO
   clear hO hn
   have hK8:K≤8:=by omega
   have HUs:=hiD (show∀s∈us,s.size≤65536 from fun s h=>HS.out.2 s (hus s h))
   have HUl:=hiD (show us.length≤1024 by have:=HS.out.1;omega)
   clear HS hul hus v0 v8
   generalize aac ts=RO at *
   go_enter Tryz.func106,Tryz.ntmps106
   go_wp2_with fail
   refine HN.out.mono ?_
   rintro e w1 ⟨rfl,h1⟩
   have H1:=hiD (h1.push (x:= .row 9 1 (.slice none 0 0) 0 []) fun l h=>h.row0)
   clear h1 HN
   go_wp2_with fail
   go_loopw [3,9] (fun l i wr=> ∃k:Nat,k≤2 * K∧k≤us.length∧i= .int .i64 (k:Int)∧ ∃A c,l= .slice A k c∧Hid (RS w0 b (.row 9 1 (.slice A k c) k (strV (us.take k))::its) L (us.drop k) wr)) (fun _ i _=>2 * K - (intOf i).toNat)
   case atStart=>exact⟨0,Nat.zero_le _,Nat.zero_le _,rfl,_,_,rfl,H1⟩
   case round=>
    clear H1
    obtain⟨k,hk,hkl,rfl,A,c,rfl,HR⟩:=hrel
    by_cases hlt:k < 2 * K
    ·have hkk:(k:Int) < 2 * (K:Int):=by omega
     by_cases hl2:k < us.length
     ·have HT:=hiD (aa3 (show RS w0 b _ L (us[k]::us.drop (k+1)) wr by rw [List.getElem_cons_drop];exact HR.out))
      have HTk:=hiD (show us.take (k+1)=us.take k++ [us[k]]from List.take_succ_eq_append_getElem hl2)
      clear HR
      generalize us[k]=s at *
      go_wp2_with fail
      refine HT.out.mono ?_
      rintro e w2 ⟨rfl,h2⟩
      obtain⟨A',c',S',L',q1,q2,q3,q4,q5,q6,H⟩:=h2
      have HB:=hiD (fun(w9:World) (x:It) (H9:Heap w0 (.box b [.slice A' (us.drop (k+1)).length c']::It.bag S' L'::x::its) w9)=>show RS w0 b (x::its) L (us.drop (k+1)) w9 from⟨A',c',S',L',q1,q2,q3,q4,q5,q6,H9⟩)
      have HH:=hiD H
      clear H q1 q2 q3 q4 q5 q6 HT
      go_wp2_with (at_builtin;refine qk (e:=9) (size:=1) (bytes:=16) (news:= [.string s]) (lo:=0) (.tmp 11) (.tmp 14) _ rfl rfl Tryz.underlying109 hi0 hz0 hz1 hz2 rfl (by omega) (HH.out.alloc _ _) 3 rfl rfl (m:=1) rfl rfl ((HH.out.alloc _ _).boxRd 0 rfl).m0 (by simp [Value.oneCell']) (by simp only [maxLen];omega) (by omega) ?_;intro v7 w7 hh7 h7;obtain⟨A7,c7,rfl⟩:=h7)
      have H7:=hiD (HB.out _ _ hh7.tail)
      clear hh7 HB HH
      go_roundw
      case rel=>exact⟨k+1,by omega,by omega,by go_num,_,_,rfl,by rw [HTk.out,strV,List.map_append];exact H7⟩
      case measure=>simp [intOf];omega
     ·have hN:=HO.out
      rw [if_pos (by omega)]at hN
      subst hN
      have HT:=hiD (aaw (show RS w0 b _ L [] wr by
       have h:=HR.out
       rw [List.drop_of_length_le (by omega)]at h
       exact h))
      go_wp2_with fail
      refine HT.out.mono ?_
      rintro e w2 ⟨rfl,h2⟩
      exact⟨rfl,rfl,h2.tail⟩
    ·obtain rfl:k=2 * K:=by omega
     have hN:=HO.out
     rw [if_neg (by omega)]at hN
     have HN:=hiD hN
     have hlen:(us.take (2 * K)).length=2 * K:=by rw [List.length_take];omega
     have HP:=hiD (show Calls Tryz.prog 128 #[.slice A (2 * K) c] wr (amZ wr (us.take (2 * K)))from by
      obtain⟨A',c',S',L',q1,q2,q3,q4,q5,q6,H⟩:=HR.out
      obtain⟨p1,p2⟩:=z7 (H.rowAt 2 rfl)
      exact af3 wr A (2 * K) c (us.take (2 * K)) hlen.symm (by omega) p1 (H.rowRd 2 rfl).m0 (by omega) (fun s hs=>HUs.out s (List.mem_of_mem_take hs)))
     replace HR:=hiD HR.out.drop
     clear hlen HO hN
     go_wp2_with fail
     refine HP.out.mono ?_
     rintro e w2 ⟨e2,⟨hE,A',c',rfl,hown⟩ | ⟨hE,rfl⟩⟩
     ·have hN:=HN.out
      rw [if_pos hE]at hN
      subst hN
      clear HP HN
      obtain⟨p1,p2⟩:=z7 hown
      replace HR:=hiD (HR.out.more (L2:= [(A',prps (prO (us.take (2 * K))))]) e2 (fun q hq=>by
       obtain rfl:=List.mem_singleton.1 hq
       exact Rd.of_own hown))
      clear hown hE e2
      go_wp2_with fail
      refine(yX _ 21).mono ?_
      rintro e w3 ⟨rfl,rfl⟩
      go_wp2_with fail
      go_ret
      exact⟨_,_,rfl,p1,p2,HR.out⟩
     ·have hN:=HN.out
      rw [if_neg hE]at hN
      subst hN
      clear HP HN
      have hd:(prE (prO (us.take (2 * K))) == 0)=false:=by simpa using hE
      generalize prE (prO (us.take (2 * K)))=E at *
      clear hE
      go_wp2_with fail
      refine(yB _ 21).mono ?_
      rintro e w3 ⟨rfl,rfl⟩
      exact⟨rfl,rfl,HR.out.heap.later e2⟩
theorem acR(W:World)(s:ByteArray)(h:s.size≤1000000): ∃c W',(convert 9 53 (.string s)).run Tryz.prog W= .ok (.slice (some ⟨W.heap.size,0,none⟩) s.size c) W'∧Ext W W'∧Rd W' W.heap.size W'.heap.size (some ⟨W.heap.size,0,none⟩) (bytes s.data.toList)∧s.size≤c∧c≤maxLen:=by
 refine⟨_,_,run_bytes_of_string (P:=Tryz.prog) W 9 53 5 s Tryz.underlying9 Tryz.underlying53 Tryz.underlying5,Ext.alloc (Ext.drew (Ext.refl W)) _,?_,grownCap_ge _ _ _ _,grownCap_le_maxLen _ _ _ _ (by simp only [maxLen];omega)⟩
 have h:=aam W.drew s (grownCap W s.size 0 5) 5 ((bytesRow s (grownCap W s.size 0 5)).size,(bytesRow s (grownCap W s.size 0 5)).size+1)
 exact h.more (Nat.le_refl _) (by simp)
def qS:List ByteArray→Option (List Blk×List ByteArray)
 | []=>none
 | s::l=>if aby s.data.toList=true then some (yZ s.data.toList,l)else none
theorem akg{w0 w:World}{b:Nat}{its:List It}{L:RdL}{ts:List ByteArray}(HR:RS w0 b its L ts w):
 Calls Tryz.prog 107 #[.pointer (some ⟨b,0,none⟩)] w fun e w'=>match qS ts with
  | none=>e=aao 21∧Heap w0 its w'
  | some (xs,ts')=> ∃A c,e= .returned (.slice A xs.length c)∧xs.length≤c∧c≤maxLen∧RS w0 b its ((A,blks xs)::L) ts' w':=by
 cases ts with
 | nil=>
   have HT:=hiD (aaw HR)
   simp only [qS]
   clear HR
   go_enter Tryz.func107,Tryz.ntmps107
   go_wp2_with fail
   refine HT.out.mono ?_
   rintro e w1 ⟨rfl,h1⟩
   exact⟨rfl,rfl,h1⟩
 | cons s ts=>
   have HT:=hiD (aa3 HR)
   have hs:=HR.small.2 s (List.mem_cons_self ..)
   have HO:=hiD (show qS (s::ts)=if aby s.data.toList=true then some (yZ s.data.toList,ts)else none from rfl)
   generalize qS (s::ts)=RO at *
   clear HR
   go_enter Tryz.func107,Tryz.ntmps107
   go_wp2_with fail
   refine HT.out.mono ?_
   rintro e w1 ⟨rfl,h1⟩
   obtain⟨cc,w2,hcv,e2,hr2,hcc,_⟩:=acR w1 s (by omega)
   have H2:=hiD (h1.later e2)
   have hl:s.size=s.data.toList.length:=rfl
   have HB:=hiD (akv w2 _ s.size cc s.data.toList hl hcc hr2.m0 (by omega))
   clear h1 HT hr2 hl
   go_wp2_with fail
   refine HB.out.mono ?_
   rintro e w3 ⟨e3,⟨hE,A',c',rfl,hown⟩ | ⟨hE,E,rfl,hE2⟩⟩
   ·have hN:=HO.out
    rw [if_pos hE]at hN
    subst hN
    clear HB HO
    obtain⟨p1,p2⟩:=z7 hown
    have H3:=hiD (H2.out.more (L2:= [(A',blks (yZ s.data.toList))]) e3 (fun q hq=>by
     obtain rfl:=List.mem_singleton.1 hq
     exact Rd.of_own hown))
    clear hown hE e3 H2
    go_wp2_with fail
    refine(yX _ 21).mono ?_
    rintro e w4 ⟨rfl,rfl⟩
    go_wp2_with fail
    go_ret
    exact⟨_,_,rfl,p1,p2,H3.out⟩
   ·have hN:=HO.out
    rw [if_neg (by rw [hE];decide)]at hN
    subst hN
    clear HB HO hE
    have hd:(E == 0)=false:=by simpa using hE2
    go_wp2_with fail
    refine(yB _ 21).mono ?_
    rintro e w4 ⟨rfl,rfl⟩
    exact⟨rfl,rfl,H2.out.heap.later e3⟩
end Go.Proofs.YtckaneapjpiocaaGreatDoor
