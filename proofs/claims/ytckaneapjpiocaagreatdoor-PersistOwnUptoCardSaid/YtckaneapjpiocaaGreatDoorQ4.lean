/- The texts Shelf, Obd, Cat, Suo, Nm, Nam, Prp, Rec in one file. -/
import Derived.Shelf.Strings.OnBuilder
import Derived.Shelf.Small.Bits
import Derived.Shelf.Small.Wraps
import Derived.Shelf.Utf8.RuneCount
import Derived.Shelf.Strings.Shaped
import Derived.Shelf.Strings.LastIndex
import Derived.Shelf.Strings.SplitShaped
import Derived.Shelf.Strings.Explode
import Derived.Shelf.Unicode.DecodeAny
import Derived.Shelf.Slices.Turned
import Derived.Test.YtckaneapjpiocaaGreatDoorQ3
import Derived.Sort.OwnSortedInts
import Derived.Lib.AppendZeros
set_option linter.unusedVariables false
set_option linter.unusedSimpArgs false
set_option maxHeartbeats 4000000
set_option maxRecDepth 100000
namespace Go.Proofs
open Go.Shelf
def Tryz.lays156_ren:Go.Shelf.Ren:=⟨fun | 156=>145 | 165=>186 | 166=>187 | 169=>188 | 240=>216 | 241=>217 | 276=>233 | 277=>234 | n=>n,fun | 31=>109 | 9=>9 | 3=>3 | 4=>4 | 0=>0 | 20=>20 | 72=>233 | 76=>237 | 70=>231 | 37=>53 | 75=>236 | 127=>268 | 164=>284 | 5=>5 | 80=>148 | n=>n,fun | n=>n⟩
theorem Tryz.lays156:Go.Proofs.Lays.n156 Tryz.prog Tryz.lays156_ren:={
 mixed:=by kernel_rfl
 f156:=Tryz.func145.trans (congrArg some (by kernel_rfl))
 f165:=Tryz.func186.trans (congrArg some (by kernel_rfl))
 f166:=Tryz.func187.trans (congrArg some (by kernel_rfl))
 f169:=Tryz.func188.trans (congrArg some (by kernel_rfl))
 f240:=Tryz.func216.trans (congrArg some (by kernel_rfl))
 f241:=Tryz.func217.trans (congrArg some (by kernel_rfl))
 f276:=Tryz.func233.trans (congrArg some (by kernel_rfl))
 f277:=Tryz.func234.trans (congrArg some (by kernel_rfl))
 t0:=Tryz.underlying0
 a0:=Tryz.isAgg0
 z0:=Tryz.sizeOf0
 v0:=Tryz.zeroValue0
 t3:=Tryz.underlying3
 a3:=Tryz.isAgg3
 z3:=Tryz.sizeOf3
 v3:=Tryz.zeroValue3
 t4:=Tryz.underlying4
 a4:=Tryz.isAgg4
 z4:=Tryz.sizeOf4
 v4:=Tryz.zeroValue4
 t9:=Tryz.underlying9
 a9:=Tryz.isAgg9
 z9:=Tryz.sizeOf9
 v9:=Tryz.zeroValue9
 t20:=Tryz.underlying20
 a20:=Tryz.isAgg20
 z20:=Tryz.sizeOf20
 v20:=Tryz.zeroValue20
 t31:=Tryz.underlying109
 a31:=Tryz.isAgg109
 z31:=Tryz.sizeOf109
 v31:=Tryz.zeroValue109
 t37:=Tryz.underlying53
 a37:=Tryz.isAgg53
 z37:=Tryz.sizeOf53
 v37:=Tryz.zeroValue53
 t70:=Tryz.underlying231
 a70:=Tryz.isAgg231
 z70:=Tryz.sizeOf231
 v70:=Tryz.zeroValue231
 t72:=Tryz.underlying233
 a72:=Tryz.isAgg233
 z72:=Tryz.sizeOf233
 v72:=Tryz.zeroValue233
 t75:=Tryz.underlying236
 a75:=Tryz.isAgg236
 z75:=Tryz.sizeOf236
 v75:=Tryz.zeroValue236
 t76:=Tryz.underlying237
 a76:=Tryz.isAgg237
 z76:=Tryz.sizeOf237
 v76:=Tryz.zeroValue237
 t127:=Tryz.underlying268
 a127:=Tryz.isAgg268
 z127:=Tryz.sizeOf268
 v127:=Tryz.zeroValue268
 t164:=Tryz.underlying284
 a164:=Tryz.isAgg284
 z164:=Tryz.sizeOf284
 v164:=Tryz.zeroValue284 }
theorem Tryz.Builder_Extra_156:Builder.Extra Tryz.prog Tryz.lays156_ren:={
 sizeBuilder:=by kernel_rfl
 liesBuilder:=by kernel_rfl
 t5:=Tryz.underlying5
 a5:=Tryz.isAgg5
 z5:=Tryz.sizeOf5
 v5:=Tryz.zeroValue5
 infoByte:=by kernel_rfl
 cellsByte:=by kernel_rfl
 sizeByte:=by kernel_rfl
 neB5:=by decide }
open Go.RowKit in
theorem Tryz.strings_Join_none(a:Option Addr)(c:Nat)(sep:ByteArray)(w:World):
 Calls Tryz.prog 145 #[.slice a 0 c,.string sep] w fun e w'=>e= .returned (.string ⟨#[]⟩)∧w'=w:=Any.strings_Join_none Tryz.lays156 Tryz.Builder_Extra_156 a c sep w
open Go.RowKit in
theorem Tryz.strings_Join(bk o c:Nat)(xs:List ByteArray)(sep:ByteArray)(w:World)(hcells: ∀(j:Nat) x,xs[j]?=some x→w.cell? ⟨bk,o+j,none⟩=some (.string x))(hbk:bk < w.heap.size)(hN:xs.length≤140737488355328)(hcap:xs.length≤c)(hlen:(Lib.join (xs.map (·.data.toList)) sep.data.toList).length≤140737488355328):
 Calls Tryz.prog 145 #[.slice (some ⟨bk,o,none⟩) xs.length c,.string sep] w fun e w'=>e= .returned (.string ⟨(Lib.join (xs.map (·.data.toList)) sep.data.toList).toArray⟩)∧Below w.heap.size w w':=Any.strings_Join Tryz.lays156 Tryz.Builder_Extra_156 bk o c xs sep w hcells hbk hN hcap hlen
def Tryz.lays145_ren:Go.Shelf.Ren:=⟨fun | 145=>213 | 220=>232 | 219=>241 | 217=>244 | 225=>245 | 224=>246 | 267=>247 | 266=>248 | 314=>249 | n=>n,fun | 9=>9 | 4=>4 | 59=>264 | 3=>3 | 5=>5 | 46=>168 | 146=>296 | 51=>214 | n=>n,fun | 1=>0 | n=>n⟩
theorem Tryz.lays145:Go.Proofs.Lays.n145 Tryz.prog Tryz.lays145_ren:={
 mixed:=by kernel_rfl
 f145:=Tryz.func213.trans (congrArg some (by kernel_rfl))
 f217:=Tryz.func244.trans (congrArg some (by kernel_rfl))
 f219:=Tryz.func241.trans (congrArg some (by kernel_rfl))
 f220:=Tryz.func232.trans (congrArg some (by kernel_rfl))
 f224:=Tryz.func246.trans (congrArg some (by kernel_rfl))
 f225:=Tryz.func245.trans (congrArg some (by kernel_rfl))
 f266:=Tryz.func248.trans (congrArg some (by kernel_rfl))
 f267:=Tryz.func247.trans (congrArg some (by kernel_rfl))
 f314:=Tryz.func249.trans (congrArg some (by kernel_rfl))
 t3:=Tryz.underlying3
 a3:=Tryz.isAgg3
 z3:=Tryz.sizeOf3
 v3:=Tryz.zeroValue3
 t4:=Tryz.underlying4
 a4:=Tryz.isAgg4
 z4:=Tryz.sizeOf4
 v4:=Tryz.zeroValue4
 t5:=Tryz.underlying5
 a5:=Tryz.isAgg5
 z5:=Tryz.sizeOf5
 v5:=Tryz.zeroValue5
 t9:=Tryz.underlying9
 a9:=Tryz.isAgg9
 z9:=Tryz.sizeOf9
 v9:=Tryz.zeroValue9
 t46:=Tryz.underlying168
 a46:=Tryz.isAgg168
 z46:=Tryz.sizeOf168
 v46:=Tryz.zeroValue168
 t51:=Tryz.underlying214
 a51:=Tryz.isAgg214
 z51:=Tryz.sizeOf214
 v51:=Tryz.zeroValue214
 t59:=Tryz.underlying264
 a59:=Tryz.isAgg264
 z59:=Tryz.sizeOf264
 v59:=Tryz.zeroValue264
 t146:=Tryz.underlying296
 a146:=Tryz.isAgg296
 z146:=Tryz.sizeOf296
 v146:=Tryz.zeroValue296
 g1:=by kernel_rfl }
open Go.RowKit Go.Lib in
theorem Tryz.strings_Cut(s sep:ByteArray)(m:Int)(w:World)(hs:s.size < 4294967281)(hm:w.cell? ⟨0,0,none⟩=some (.int .i64 m)):
 Calls Tryz.prog 213 #[.string s,.string sep] w fun e w'=>e= .returned (.tuple #[.string ⟨(Lib.cut s.data.toList sep.data.toList).1.toArray⟩,.string ⟨(Lib.cut s.data.toList sep.data.toList).2.1.toArray⟩,.bool (Lib.cut s.data.toList sep.data.toList).2.2])∧ ∃n,w'=w.drewN n:=Any.strings_Cut Tryz.lays145 s sep m w hs hm
def Tryz.lays149_ren:Go.Shelf.Ren:=⟨fun | 149=>178 | 222=>209 | n=>n,fun | 9=>9 | 5=>5 | 3=>3 | 4=>4 | n=>n,fun | n=>n⟩
theorem Tryz.lays149:Go.Proofs.Lays.n149 Tryz.prog Tryz.lays149_ren:={
 mixed:=by kernel_rfl
 f149:=Tryz.func178.trans (congrArg some (by kernel_rfl))
 f222:=Tryz.func209.trans (congrArg some (by kernel_rfl))
 t3:=Tryz.underlying3
 a3:=Tryz.isAgg3
 z3:=Tryz.sizeOf3
 v3:=Tryz.zeroValue3
 t4:=Tryz.underlying4
 a4:=Tryz.isAgg4
 z4:=Tryz.sizeOf4
 v4:=Tryz.zeroValue4
 t5:=Tryz.underlying5
 a5:=Tryz.isAgg5
 z5:=Tryz.sizeOf5
 v5:=Tryz.zeroValue5
 t9:=Tryz.underlying9
 a9:=Tryz.isAgg9
 z9:=Tryz.sizeOf9
 v9:=Tryz.zeroValue9 }
open Go.RowKit Go.Lib in
theorem Tryz.strings_LastIndexByte(s:ByteArray)(c:Int)(hs:s.size < 4611686018427387904)(w:World):
 Calls Tryz.prog 178 #[.string s,.int .u8 c] w fun e w'=>e= .returned (.int .i64 (Lib.lastIndexByte s c))∧w'=w:=Any.strings_LastIndexByte Tryz.lays149 s c hs w
def Tryz.lays146_ren:Go.Shelf.Ren:=⟨fun | 146=>179 | 221=>210 | 268=>227 | 138=>228 | 143=>229 | 195=>238 | 197=>239 | 218=>240 | 219=>241 | 260=>243 | 217=>244 | 225=>245 | 224=>246 | 267=>247 | 266=>248 | 314=>249 | n=>n,fun | 9=>9 | 31=>109 | 3=>3 | 4=>4 | 0=>0 | 105=>290 | 21=>21 | 5=>5 | 46=>168 | 119=>292 | 139=>295 | 138=>294 | 146=>296 | 51=>214 | n=>n,fun | 1=>0 | 3=>1 | 4=>2 | n=>n⟩
theorem Tryz.lays146:Go.Proofs.Lays.n146 Tryz.prog Tryz.lays146_ren:={
 mixed:=by kernel_rfl
 f138:=Tryz.func228.trans (congrArg some (by kernel_rfl))
 f143:=Tryz.func229.trans (congrArg some (by kernel_rfl))
 f146:=Tryz.func179.trans (congrArg some (by kernel_rfl))
 f195:=Tryz.func238.trans (congrArg some (by kernel_rfl))
 f197:=Tryz.func239.trans (congrArg some (by kernel_rfl))
 f217:=Tryz.func244.trans (congrArg some (by kernel_rfl))
 f218:=Tryz.func240.trans (congrArg some (by kernel_rfl))
 f219:=Tryz.func241.trans (congrArg some (by kernel_rfl))
 f221:=Tryz.func210.trans (congrArg some (by kernel_rfl))
 f224:=Tryz.func246.trans (congrArg some (by kernel_rfl))
 f225:=Tryz.func245.trans (congrArg some (by kernel_rfl))
 f260:=Tryz.func243.trans (congrArg some (by kernel_rfl))
 f266:=Tryz.func248.trans (congrArg some (by kernel_rfl))
 f267:=Tryz.func247.trans (congrArg some (by kernel_rfl))
 f268:=Tryz.func227.trans (congrArg some (by kernel_rfl))
 f314:=Tryz.func249.trans (congrArg some (by kernel_rfl))
 t0:=Tryz.underlying0
 a0:=Tryz.isAgg0
 z0:=Tryz.sizeOf0
 v0:=Tryz.zeroValue0
 t3:=Tryz.underlying3
 a3:=Tryz.isAgg3
 z3:=Tryz.sizeOf3
 v3:=Tryz.zeroValue3
 t4:=Tryz.underlying4
 a4:=Tryz.isAgg4
 z4:=Tryz.sizeOf4
 v4:=Tryz.zeroValue4
 t5:=Tryz.underlying5
 a5:=Tryz.isAgg5
 z5:=Tryz.sizeOf5
 v5:=Tryz.zeroValue5
 t9:=Tryz.underlying9
 a9:=Tryz.isAgg9
 z9:=Tryz.sizeOf9
 v9:=Tryz.zeroValue9
 t21:=Tryz.underlying21
 a21:=Tryz.isAgg21
 z21:=Tryz.sizeOf21
 v21:=Tryz.zeroValue21
 t31:=Tryz.underlying109
 a31:=Tryz.isAgg109
 z31:=Tryz.sizeOf109
 v31:=Tryz.zeroValue109
 t46:=Tryz.underlying168
 a46:=Tryz.isAgg168
 z46:=Tryz.sizeOf168
 v46:=Tryz.zeroValue168
 t51:=Tryz.underlying214
 a51:=Tryz.isAgg214
 z51:=Tryz.sizeOf214
 v51:=Tryz.zeroValue214
 t105:=Tryz.underlying290
 a105:=Tryz.isAgg290
 z105:=Tryz.sizeOf290
 v105:=Tryz.zeroValue290
 t119:=Tryz.underlying292
 a119:=Tryz.isAgg292
 z119:=Tryz.sizeOf292
 t138:=Tryz.underlying294
 a138:=Tryz.isAgg294
 z138:=Tryz.sizeOf294
 v138:=Tryz.zeroValue294
 t139:=Tryz.underlying295
 a139:=Tryz.isAgg295
 z139:=Tryz.sizeOf295
 v139:=Tryz.zeroValue295
 t146:=Tryz.underlying296
 a146:=Tryz.isAgg296
 z146:=Tryz.sizeOf296
 v146:=Tryz.zeroValue296
 g1:=by kernel_rfl
 g3:=by kernel_rfl
 g4:=by kernel_rfl }
open Go.RowKit Go.Lib in
theorem Tryz.strings_Split(s sep:ByteArray)(m:Int)(w:World)(hs:s.size < 4294967281)(hm:w.cell? ⟨0,0,none⟩=some (.int .i64 m))(h1:1≤sep.size):
 Calls Tryz.prog 179 #[.string s,.string sep] w fun e w'=>
  e= .returned (.slice (some ⟨w.heap.size,0,none⟩) (Lib.countB s sep+1) (Lib.countB s sep+1))∧w'=w.alloc (.cells ((Lib.splitB sep 0 (Lib.countB s sep) s).map Value.string).toArray 9):=Any.strings_Split Tryz.lays146 (by kernel_rfl) s sep m w hs hm h1
def Tryz.lays110_ren:Go.Shelf.Ren:=⟨fun | 110=>212 | 109=>231 | n=>n,fun | 31=>109 | 9=>9 | 4=>4 | 3=>3 | 0=>0 | n=>n,fun | n=>n⟩
theorem Tryz.lays110:Go.Proofs.Lays.n110 Tryz.prog Tryz.lays110_ren:={
 mixed:=by kernel_rfl
 f109:=Tryz.func231.trans (congrArg some (by kernel_rfl))
 f110:=Tryz.func212.trans (congrArg some (by kernel_rfl))
 t0:=Tryz.underlying0
 a0:=Tryz.isAgg0
 z0:=Tryz.sizeOf0
 v0:=Tryz.zeroValue0
 t3:=Tryz.underlying3
 a3:=Tryz.isAgg3
 z3:=Tryz.sizeOf3
 v3:=Tryz.zeroValue3
 t4:=Tryz.underlying4
 a4:=Tryz.isAgg4
 z4:=Tryz.sizeOf4
 v4:=Tryz.zeroValue4
 t9:=Tryz.underlying9
 a9:=Tryz.isAgg9
 z9:=Tryz.sizeOf9
 v9:=Tryz.zeroValue9
 t31:=Tryz.underlying109
 a31:=Tryz.isAgg109
 z31:=Tryz.sizeOf109
 v31:=Tryz.zeroValue109 }
open Go.Lib in
theorem Tryz.slices_Contains_string(b off n c:Nat)(zs:List ByteArray)(x:ByteArray)(w:World)(hz:n≤zs.length)(hbig:n≤9223372036854775807)(hc: ∀j,j < zs.length→w.cell? ⟨b,off+j,none⟩=some (.string (zs.getD j ByteArray.empty))):
 Calls Tryz.prog 212 #[.slice (some ⟨b,off,none⟩) n c,.string x] w fun e w'=>e= .returned (.bool (Lib.containsS (zs.take n) x))∧w'=w:=Any.slices_Contains_string Tryz.lays110 b off n c zs x w hz hbig hc
end Go.Proofs
namespace Go.Proofs.YtckaneapjpiocaaGreatDoor
open Go.RowKit Go.Maps Go.Sort Go.Shelf
theorem ah4{w:World}{lo hi:Nat}{A:Option Addr}{l:List Int}(h:Rd w lo hi A (ints l)){k:Nat}(hk:k < l.length):
 ∃b o,A=some ⟨b,o,none⟩∧b < hi∧w.cell? ⟨b,o+k,none⟩=some (.int .i64 l[k]):=by
 obtain⟨b,o,h1,h2,h3,h4⟩:=h (fun e=>by have:=congrArg List.length e;simp [ints]at this;subst this;simp at hk)
 exact⟨b,o,h1,h3,h4 k _ (by simp [ints,hk])⟩
def amh(x:Int):List Value:= [.int .i64 x]
theorem aki(l:List Int):l.flatMap amh=ints l:=by
 induction l with
 | nil=>rfl
 | cons b l ih=>rw [List.flatMap_cons,ih];rfl
abbrev Loc:=Sl Int
abbrev Loc.At(w:World)(lo hi:Nat)(s:Loc):Prop:=Sl.At w lo hi amh (fun y=>(Lit.int .i64 y).wf=true) s
structure Ob where
 key:ByteArray
 data:Oct
 locs:Loc
def Ob.cells(x:Ob):List Value:= [.string x.key,x.data.val,x.locs.val]
structure Ob.At (w:World) (lo hi:Nat) (x:Ob):Prop where
 key:x.key.size≤maxLen
 data:Oct.At w lo hi x.data
 locs:Loc.At w lo hi x.locs
section
variable {w w':World} {lo hi lo' hi':Nat}
theorem Loc.At.imp{s:Loc}(h:Loc.At w lo hi s)(hr: ∀A cs,Rd w lo hi A cs→Rd w' lo' hi' A cs):Loc.At w' lo' hi' s:=Sl.At.imp h (hr _ _) (fun _ h=>h)
theorem Ob.At.imp{s:Ob}(h:Ob.At w lo hi s)(hr: ∀A cs,Rd w lo hi A cs→Rd w' lo' hi' A cs):Ob.At w' lo' hi' s:=⟨h.key,Oct.At.imp h.data hr,Loc.At.imp h.locs hr⟩
theorem Ob.At.on{s:Ob}(h:Ob.At w lo hi s)(e:Ext w w')(hh:hi≤w.heap.size):Ob.At w' lo w'.heap.size s:=h.imp (abF e hh)
theorem Loc.At.on{s:Loc}(h:Loc.At w lo hi s)(e:Ext w w')(hh:hi≤w.heap.size):Loc.At w' lo w'.heap.size s:=h.imp (abF e hh)
end
theorem aaJ{w:World}{lo hi:Nat}{A:Option Addr}{xs:List Ob}(h:Rd w lo hi A (xs.flatMap Ob.cells)){k:Nat}(hk:k < xs.length):
 ∃b o,A=some ⟨b,o,none⟩∧b < hi∧w.cell? ⟨b,o+k * 3,none⟩=some (.string xs[k].key)∧w.cell? ⟨b,o+k * 3+1,none⟩=some xs[k].data.val∧w.cell? ⟨b,o+k * 3+2,none⟩=some xs[k].locs.val:=by
 obtain⟨b,o,h1,_,h3,G⟩:=zh (size:=3) (fun _=>rfl) (by omega) h hk
 exact⟨b,o,h1,h3,G 0 _ rfl,G 1 _ rfl,G 2 _ rfl⟩
theorem z7{w:World}{base:Nat}{e:TypeId}{size n:Nat}{A:Option Addr}{c:Nat}{xs:List Value}(h:w.ownsRow base e size (.slice A n c) n xs):n≤c∧c≤maxLen:=by
 obtain⟨A',c',he,h1,h2,_⟩:=zr h
 cases he
 exact⟨h1,h2⟩
structure Sb where
 A:Option Addr
 n:Nat
 c:Nat
 l:List UInt8
def Sb.val(x:Sb):Value:= .slice x.A x.n x.c
def sbs(xs:List Sb):List Value:=xs.map Sb.val
def Sb.ok(w:World)(x:Sb):Prop:=x.n=x.l.length∧Rd w 0 w.heap.size x.A (bytes x.l)
theorem Sb.ok.ext{w w':World}{x:Sb}(h:x.ok w)(e:Ext w w'):x.ok w':=⟨h.1,Rd.at h.2 e (Nat.le_refl _)⟩
def zV(xs:List Sb):List UInt8:=xs.flatMap Sb.l
theorem acu(xs:List Sb)(k:Nat)(h:k < xs.length):zV (xs.take (k+1))=zV (xs.take k)++xs[k].l:=by
 rw [List.take_succ_eq_append_getElem h,zV,List.flatMap_append];simp [zV]
theorem afB(xs:List Sb)(k:Nat):(zV (xs.take k)).length≤(zV xs).length:=by
 have:zV xs=zV (xs.take k)++zV (xs.drop k):=by rw [zV,zV,zV,←List.flatMap_append,List.take_append_drop]
 rw [this,List.length_append];omega
theorem akn{w:World}{lo h:Nat}{A:Option Addr}{xs:List Sb}(hr:Rd w lo h A (sbs xs)){k:Nat}(hk:k < xs.length):
 ∃b o,A=some ⟨b,o,none⟩∧w.cell? ⟨b,o+k,none⟩=some (.slice xs[k].A xs[k].n xs[k].c):=by
 obtain⟨b,o,h1,h2,h3,h4⟩:=hr (fun e=>by have:(sbs xs).length=xs.length:=by simp [sbs]
                                        rw [e]at this;simp at this;omega)
 exact⟨b,o,h1,h4 k _ (by simp [sbs,List.getElem?_eq_getElem hk,Sb.val])⟩
theorem alu(w:World)(m:Nat)(hm:m≤100000000000):
 Calls Tryz.prog 218 #[.slice none 0 0,.int .i64 m] w fun e w'=> ∃v,e= .returned v∧w'.ownsRow w.heap.size 5 1 v 0 []∧Ext w w':=by
 obtain⟨i0,hi0,hz0,hz1,hz2⟩:=info_parts aaT
 rcases Nat.eq_zero_or_pos m with h0 | h0
 ·subst h0
  rw [show((0:Nat):Int)=0 from rfl]
  go_enter Tryz.func218,Tryz.ntmps218
  go_wp2_with fail
  go_ret
  exact⟨_,rfl,World.ownsRow_nil _ _ _ _,Ext.refl _⟩
 ·have hrun: ∀ty,(Builtin.append_ #[53,3] ty #[.slice none 0 0,.int .i64 (m:Int)]).run Tryz.prog w=_:=fun ty=>
   Lib.run_append_nil_zeros (P:=Tryz.prog) w 53 3 ty 5 i0 _ .i64 .i64 Tryz.underlying53 Tryz.underlying3 hi0 hz0 m h0 (by rw [hz1];omega) (by omega) (by rw [hz2];omega)
  have hG1:m≤grownCap w m 0 5:=grownCap_ge w _ _ _
  have hG2:grownCap w m 0 5≤maxLen:=grownCap_le_maxLen w m 0 5 (by simp only [maxLen];omega)
  generalize grownCap w m 0 5=G at *
  obtain⟨ROW,hROW⟩: ∃ROW:Array Value,ROW=Builtin.zeroCells (Value.int .u8 0).cells m++Builtin.zeroCells (Value.int .u8 0).cells (G - m):=⟨_,rfl⟩
  rw [←hROW]at hrun
  have hsz:ROW.size=G:=by
   rw [hROW]
   simp only [Builtin.zeroCells,Array.size_append,Array.size_map,Array.size_range,Value.cells,List.size_toArray,List.length_cons,List.length_nil]
   omega
  obtain⟨w1,hw1⟩: ∃w1,w1=w.drew.alloc (.cells ROW 5):=⟨_,rfl⟩
  rw [←hw1]at hrun
  have hown:w1.ownsRow w.heap.size 5 1 (.slice (some ⟨w.heap.size,0,none⟩) 0 G) 0 []:=by
   rw [hw1]
   exact⟨rfl,.inr ⟨w.heap.size,G,ROW,rfl,Nat.le_refl _,heap_alloc_new w.drew _,Nat.zero_le _,hG2,by omega,by simp⟩⟩
  have e1:Ext w w1:=by rw [hw1];exact((Ext.refl w).drew).alloc _
  have HOwn:=hiD hown
  have HRun:=hiD hrun
  have hmp:(0:Int) < m:=by omega
  simp only [maxLen]at hG2
  clear hw1 hROW hsz hrun hown
  go_enter Tryz.func218,Tryz.ntmps218
  go_wp2_with (at_builtin;refine Lib.wpList_append_run _ rfl (.tmp 20) (.tmp 21) _ _ rfl _ _ rfl rfl _ _ (HRun.out _) ?_)
  go_ret
  exact⟨_,rfl,HOwn.out,e1⟩
theorem ajm(w:World)(A:Option Addr)(n c:Nat)(xs:List Sb)(hn:n=xs.length)(hr:Rd w 0 w.heap.size A (sbs xs))(hok: ∀x∈xs,x.ok w)(hN:n≤100000000000)(hT:(zV xs).length≤100000000000):
 Calls Tryz.prog 189 #[.slice A n c] w fun e w'=> ∃v,e= .returned v∧w'.ownsRow w.heap.size 5 1 v (zV xs).length (bytes (zV xs))∧Ext w w':=by
 obtain⟨i0,hi0,hz0,hz1,hz2⟩:=info_parts aaT
 have Hn:=hiD hn
 have HR:=hiD hr
 have HO:=hiD hok
 have HT:=hiD hT
 clear hn hr hok
 go_enter Tryz.func189,Tryz.ntmps189
 go_wp2_with fail
 go_loop [3,11] (fun s i=> ∃k:Nat,k≤n∧i= .int .i64 (k:Int)∧s= .int .i64 ((zV (xs.take k)).length:Int)) (fun _ i=>n - (intOf i).toNat)
 case atStart=>exact⟨0,Nat.zero_le _,rfl,rfl⟩
 case round=>
  obtain⟨k,hk,rfl,rfl⟩:=hrel
  have hle:=afB xs k
  by_cases hlt:k < n
  ·have hl:k < xs.length:=by rw [←Hn.out];exact hlt
   obtain⟨b1,o1,rfl,f0⟩:=akn HR.out hl
   have HU:=hiD (acu xs k hl)
   have hle2:=afB xs (k+1)
   have hx:=(HO.out _ (List.getElem_mem hl)).1
   have hlen:(zV (xs.take (k+1))).length=(zV (xs.take k)).length+xs[k].n:=by rw [acu xs k hl,List.length_append,hx]
   generalize xs[k].A=xA at *
   generalize xs[k].c=xc at *
   generalize xs[k].n=xn at *
   generalize (zV (xs.take k)).length=q at *
   have HL:=hiD hlen
   have hq:q+xn≤100000000000:=by have:=HT.out;omega
   clear hx hlen hle hle2
   go_wp2_with fail
   go_round
   case rel=>exact⟨k+1,by omega,by go_num,by rw [HL.out];go_num⟩
   case measure=>simp [intOf];omega
  ·obtain rfl:k=n:=by omega
   have hall:(zV (xs.take k)).length=(zV xs).length:=by rw [List.take_of_length_le (by rw [←Hn.out];exact Nat.le_refl _)]
   rw [hall]
   clear hall hle hlt
   generalize hm:(zV xs).length=m at *
   have HM:=hiD hm
   clear hm
   go_wp2_with fail
   refine(alu w m hT).mono ?_
   rintro e w2 ⟨v2,rfl,hown2,e2⟩
   have HOwn2:=hiD hown2
   clear hown2
   go_wp2_with fail
   go_loopw [6,27] (fun v i wr=> ∃j:Nat,j≤k∧i= .int .i64 (j:Int)∧Hid (wr.ownsRow w.heap.size 5 1 v (zV (xs.take j)).length (bytes (zV (xs.take j))))∧Ext w wr) (fun _ i _=>k - (intOf i).toNat)
   case atStart=>exact⟨0,Nat.zero_le _,rfl,HOwn2,e2⟩
   case round=>
    clear HOwn2 e2
    obtain⟨j,hj,rfl,hown,e1⟩:=hrel
    by_cases hlt:j < k
    ·have hl:j < xs.length:=by rw [←Hn.out];exact hlt
     obtain⟨b1,o1,rfl,f0⟩:=akn (HR.out.at e1 (Nat.le_refl _)) hl
     have HU:=hiD (acu xs j hl)
     have hle2:=afB xs (j+1)
     have hx:=HO.out _ (List.getElem_mem hl)
     have hlen:(zV (xs.take (j+1))).length=(zV (xs.take j)).length+xs[j].n:=by rw [acu xs j hl,List.length_append,hx.1]
     have HX:=hiD hx
     have HL:=hiD hlen
     have hq:(zV (xs.take j)).length+xs[j].n≤100000000000:=by have:=HM.out;omega
     clear hx hlen hle2
     generalize xs[j]=x at *
     obtain⟨xA,xn,xc,xl⟩:=x
     dsimp only at f0 HU HX HL hq
     go_wp2_with
      (at_builtin
       refine qR _ rfl (.tmp 31) (.tmp 32) _ rfl 5 i0 _ 1 1 Tryz.underlying53 hi0 hz0 hz1 hz2 rfl (by omega) w.heap.size _ _ _ rfl hown.out 0 _ xA xn xc (bytes xl) rfl (by rw [yS,Nat.mul_one];exact HX.out.1.symm) (Rd.at HX.out.2 e1 (Nat.le_refl _)) (adI _) (by simp only [maxLen];omega) (by omega) e1.size ?_
       intro v3 w3 hown3 he3 _ _
       have e3:Ext w w3:=he3 _ e1 (Nat.le_refl _)
       have HOwn3:=hiD hown3
       clear he3 hown3)
     go_roundw
     case rel=>exact⟨j+1,by omega,by go_num,hiD (by rw [HL.out,HU.out,acj];exact HOwn3.out),e3⟩
     case measure=>simp [intOf];omega
    ·obtain rfl:j=k:=by omega
     have hall:zV (xs.take j)=zV xs:=by rw [List.take_of_length_le (by rw [←Hn.out];exact Nat.le_refl _)]
     have HAll:=hiD hall
     clear hall
     go_wp2_with fail
     go_ret
     refine⟨_,rfl,?_,e1⟩
     have:=hown.out
     rw [HAll.out]at this
     rw [HM.out]at this
     rw [HM.out]
     exact this
theorem acs(w:World)(A:Option Addr)(n c:Nat)(xs:List Sb)(hn:n=xs.length)(hr:Rd w 0 w.heap.size A (sbs xs))(hok: ∀x∈xs,x.ok w)(hN:n≤100000000000)(hT:(zV xs).length≤100000000000):
 Calls Tryz.prog 146 #[.slice A n c] w fun e w'=> ∃v,e= .returned v∧w'.ownsRow w.heap.size 5 1 v (zV xs).length (bytes (zV xs))∧Ext w w':=by
 have HC:=hiD (ajm w A n c xs hn hr hok hN hT)
 clear hn hr hok hT
 go_enter Tryz.func146,Tryz.ntmps146
 go_wp2_with fail
 refine HC.out.mono ?_
 rintro e w2 ⟨v2,rfl,hown2,e2⟩
 have H:=hiD hown2
 clear hown2
 go_wp2_with fail
 go_ret
 exact⟨_,rfl,H.out,e2⟩
structure Su where
 a:Int
 b:Int
 c:Int
 d:Int
def Su.cells(s:Su):List Value:= [.int .u64 s.a,.int .u64 s.b,.int .u64 s.c,.int .u64 s.d]
def Su.zero:Su:=⟨0,0,0,0⟩
theorem qw:(Tryz.prog.info? 44).map (·.size)=some 4:=by kernel_rfl
def qy(s:Su):List UInt8:=zp s.a 8++zp s.b 8++zp s.c 8++zp s.d 8
theorem aak(s:Su):(qy s).length=32:=by simp [qy,zo]
theorem aop(x:Int)(j:Nat)(hj:j < 8):bt (IntKind.i64.wrap x) j=bt x j:=by
 unfold bt
 congr 2
 rw [IntKind.wrap_i64]
 rcases(show j=0∨j=1∨j=2∨j=3∨j=4∨j=5∨j=6∨j=7 by omega)with rfl | rfl | rfl | rfl | rfl | rfl | rfl | rfl <;> simp <;> omega
theorem adn(x:Int):zp (IntKind.i64.wrap x) 8=zp x 8:=by
 unfold zp
 refine List.map_congr_left fun j hj=>?_
 rw [List.mem_range]at hj
 exact aop x _ (by omega)
def Su.wf(s:Su):Prop:=(0≤s.a∧s.a≤18446744073709551615)∧(0≤s.b∧s.b≤18446744073709551615)∧(0≤s.c∧s.c≤18446744073709551615)∧(0≤s.d∧s.d≤18446744073709551615)
theorem ae8(s:Su)(w:World)(hs:s.wf):
 Calls Tryz.prog 93 #[.agg s.cells.toArray] w fun e w'=> ∃v,e= .returned v∧w'.ownsRow w.heap.size 5 1 v 32 (bytes (qy s))∧Ext w w':=by
 obtain⟨sa,sb,sc,sd⟩:=s
 have HE:=hiD (show qy ⟨sa,sb,sc,sd⟩=zp sa 8++zp sb 8++zp sc 8++zp sd 8 from rfl)
 have hb: ∀x:Int,-9223372036854775808≤IntKind.i64.wrap x∧IntKind.i64.wrap x≤9223372036854775807:=fun x=>by rw [IntKind.wrap_i64];omega
 have HA:=hiD (hb sa)
 have HB:=hiD (hb sb)
 have HC:=hiD (hb sc)
 have HD:=hiD (hb sd)
 have PA:=hiD (adn sa)
 have PB:=hiD (adn sb)
 have PC:=hiD (adn sc)
 have PD:=hiD (adn sd)
 clear hb
 simp only [Su.cells]
 go_enter Tryz.func93,Tryz.ntmps93
 go_wp2_with fail
 generalize hwH:World.alloc w _=w1;have HH:=hiD (Heap.one hwH);clear hwH
 have HH0:=hiD HH.out.drew
 clear HH
 refine wp_region_held_drew (S:=Heap w [.box w.heap.size [.int .u64 sa,.int .u64 sb,.int .u64 sc,.int .u64 sd]]) (by kernel_rfl) HH0.out (fun hHeld=>?_)
 refine tW 0 1 ?_
 refine tH 1 0 ?_
 refine tW 2 1 ?_
 refine tW 4 1 ?_
 refine tH 5 0 ?_
 refine tW 6 1 ?_
 refine tW 8 1 ?_
 refine tH 9 0 ?_
 refine tW 10 1 ?_
 refine tW 12 1 ?_
 refine tH 13 0 ?_
 refine tW 14 1 ?_
 generalize IntKind.i64.wrap sa=ya at *
 generalize IntKind.i64.wrap sb=yb at *
 generalize IntKind.i64.wrap sc=yc at *
 generalize IntKind.i64.wrap sd=yd at *
 clear hHeld
 refine oS 3 (fun K hK=>?_);go_simp;refine(qW ya _ 8 (by omega) rfl _ HA.out.1 HA.out.2).mono ?_;rintro e w2 ⟨vw2,rfl,hownw2,ew2⟩;obtain⟨Aw2,cw2,rfl,_,_,_⟩:=zr hownw2;have HH2:=hiD ((HH0).out.addRow ew2 hownw2);clear HH0 hownw2 ew2;go_wp2_with fail
 refine hK.out _ _ HH2.out.tail (fun hHeld=>?_);clear hK K;refine lyX ?_
 clear hHeld
 refine oS 7 (fun K hK=>?_);go_simp;refine(qW yb _ 8 (by omega) rfl _ HB.out.1 HB.out.2).mono ?_;rintro e w3 ⟨vw3,rfl,hownw3,ew3⟩;obtain⟨Aw3,cw3,rfl,_,_,_⟩:=zr hownw3;have HH3:=hiD ((HH2).out.addRow ew3 hownw3);clear HH2 hownw3 ew3;go_wp2_with fail
 refine hK.out _ _ HH3.out.tail.tail (fun hHeld=>?_);clear hK K;refine lyX ?_
 clear hHeld
 refine oS 11 (fun K hK=>?_);go_simp;refine(qW yc _ 8 (by omega) rfl _ HC.out.1 HC.out.2).mono ?_;rintro e w4 ⟨vw4,rfl,hownw4,ew4⟩;obtain⟨Aw4,cw4,rfl,_,_,_⟩:=zr hownw4;have HH4:=hiD ((HH3).out.addRow ew4 hownw4);clear HH3 hownw4 ew4;go_wp2_with fail
 refine hK.out _ _ HH4.out.tail.tail.tail (fun hHeld=>?_);clear hK K;refine lyX ?_
 clear hHeld
 refine oS 15 (fun K hK=>?_);go_simp;refine(qW yd _ 8 (by omega) rfl _ HD.out.1 HD.out.2).mono ?_;rintro e w5 ⟨vw5,rfl,hownw5,ew5⟩;obtain⟨Aw5,cw5,rfl,_,_,_⟩:=zr hownw5;have HH5:=hiD ((HH4).out.addRow ew5 hownw5);clear HH4 hownw5 ew5;go_wp2_with fail
 refine hK.out _ _ HH5.out.tail.tail.tail.tail (fun hHeld=>?_);clear hK K;refine lyX ?_
 clear hHeld
 refine oS 16 (fun K hK=>?_)
 go_simp
 generalize hwA:World.alloc w5 _=w6
 have HH6:=hiD (HH5.out.allocE hwA)
 clear hwA HH5
 refine hK.out _ _ HH6.out.tail.tail.tail.tail.tail (fun hHeld=>?_);clear hK K;refine lyX ?_
 clear hHeld
 refine oS 17 (fun K hK=>?_)
 go_simp
 refine(acs w6 _ 4 4 [⟨Aw2,8,cw2,zp ya 8⟩,⟨Aw3,8,cw3,zp yb 8⟩,⟨Aw4,8,cw4,zp yc 8⟩,⟨Aw5,8,cw5,zp yd 8⟩] rfl
  (fun _=>⟨_,0,rfl,Nat.zero_le _,(HH6.out.boxAt 0 rfl).lt,fun j u hu=>by rw [Nat.zero_add];exact(HH6.out.boxAt 0 rfl).cell j u hu⟩)
  (fun x hx=>by
    simp only [List.mem_cons,List.not_mem_nil,or_false]at hx
    rcases hx with rfl | rfl | rfl | rfl
    ·exact⟨(zo _ _).symm,(Rd.of_own (HH6.out.rowAt 4 rfl)).m0⟩
    ·exact⟨(zo _ _).symm,(Rd.of_own (HH6.out.rowAt 3 rfl)).m0⟩
    ·exact⟨(zo _ _).symm,(Rd.of_own (HH6.out.rowAt 2 rfl)).m0⟩
    ·exact⟨(zo _ _).symm,(Rd.of_own (HH6.out.rowAt 1 rfl)).m0⟩)
  (by omega) (by simp [zV,zo])).mono ?_
 rintro e w7 ⟨v7,rfl,hown7,e7⟩
 have HO:=hiD (xw hown7 HH6.out.ext.size)
 have HX:=hiD (HH6.out.ext.trans e7)
 have HS7:=hiD (HH6.out.later e7)
 clear hown7 e7
 go_wp2_with fail
 refine hK.out _ _ HS7.out.tail.tail.tail.tail.tail (fun hHeld=>?_);clear hK K;refine lyX ?_
 refine tW 18 1 ?_
 refine dnX ?_
 go_wp2_with fail
 go_ret
 refine⟨_,rfl,?_,HX.out⟩
 have h:=HO.out
 have hc:zV [⟨Aw2,8,cw2,zp ya 8⟩,⟨Aw3,8,cw3,zp yb 8⟩,⟨Aw4,8,cw4,zp yc 8⟩,⟨Aw5,8,cw5,zp yd 8⟩]=qy ⟨sa,sb,sc,sd⟩:=by
  rw [HE.out,←PA.out,←PB.out,←PC.out,←PD.out]
  simp [zV,List.append_assoc]
 rw [hc,aak]at h
 exact h
def afJ(z:Int):Bool:=(decide (z < 97) || decide (122 < z)) && (decide (z < 48) || decide (57 < z)) && (z != 45) && (z != 95)
def afE(z:Int):Bool:=decide (z < 32) || decide (126 < z)
def aav(c:UInt8):Bool:=afJ c.toNat
def aaQ(c:UInt8):Bool:=afE c.toNat
theorem alV(c:UInt8)(w:World):Calls Tryz.prog 99 #[.int .u8 (c.toNat:Int)] w fun e w'=>e= .returned (.bool (aav c))∧Ext w w':=by
 unfold aav
 generalize (c.toNat:Int)=z
 go_enter Tryz.func99,Tryz.ntmps99
 go_wp2_with fail
 all_goals (
  go_ret
  refine⟨?_,Ext.refl _⟩
  first | (simp [afJ];done) | (simp_all [afJ];done) | (simp_all [afJ];omega))
theorem alM(c:UInt8)(w:World):Calls Tryz.prog 197 #[.int .u8 (c.toNat:Int)] w fun e w'=>e= .returned (.bool (aaQ c))∧Ext w w':=by
 unfold aaQ
 generalize (c.toNat:Int)=z
 go_enter Tryz.func197,Tryz.ntmps197
 go_wp2_with fail
 all_goals (
  go_ret
  refine⟨?_,Ext.refl _⟩
  first | (simp [afE];done) | (simp_all [afE];done) | (simp_all [afE];omega))
theorem ai2(c:UInt8)(w:World):Calls Tryz.prog 72 #[.int .u8 (c.toNat:Int)] w fun e w'=>e= .returned (.bool (!aav c))∧Ext w w':=by
 unfold aav
 generalize (c.toNat:Int)=z
 go_enter Tryz.func72,Tryz.ntmps72
 go_wp2_with fail
 all_goals (
  go_ret
  refine⟨?_,Ext.refl _⟩
  first | (simp_all [afJ];done) | (refine congrArg (fun b=>Ending.returned (Value.bool b)) ?_;rw [Bool.eq_iff_iff];simp [afJ];omega))
theorem am5(w:World)(A:Option Addr)(n c lo hi:Nat)(l:List UInt8)(hn:n=l.length)(hm:n≤9223372036854775807)(hr:Rd w lo hi A (bytes l))(hh:hi≤w.heap.size):
 Calls Tryz.prog 152 #[.slice A n c,.func (.func 99) #[] #[]] w fun e w'=> ∃r:Int,e= .returned (.int .i64 r)∧l.any aav=decide (0≤r)∧ -1≤r∧Ext w w':=by
 have Hn:=hiD hn
 clear hn
 go_enter Tryz.func152,Tryz.ntmps152
 go_wp2_with fail
 go_loopw [8] (fun i wr=> ∃k:Nat,k≤n∧i= .int .i64 k∧(l.take k).any aav=false∧Ext w wr) (fun i _=>n - (intOf i).toNat)
 case atStart=>exact⟨0,Nat.zero_le _,rfl,rfl,Ext.refl _⟩
 case round=>
  obtain⟨k,hk,rfl,hno,e1⟩:=hrel
  have HK:=hiD hno
  clear hno
  by_cases hlt:k < n
  ·obtain⟨b1,o1,rfl,_,_,f0⟩:=ab4 (hr.ext e1 hh) (k:=k) (by rw [←Hn.out];omega)
   have hl:k < l.length:=by rw [←Hn.out];omega
   obtain⟨y,hy⟩: ∃y,y=l[k]'hl:=⟨_,rfl⟩
   rw [←hy]at f0
   have HY:=hiD hy
   clear hy
   go_wp2_with fail
   refine(alV y _).mono ?_
   rintro e w2 ⟨rfl,e2⟩
   cases ho:aav y
   ·go_wp2_with fail
    go_roundw
    case rel=>
     refine⟨k+1,by omega,by go_num,?_,blo⟩
     rw [List.take_succ_eq_append_getElem hl,List.any_append,HK.out,←HY.out]
     simp [ho]
    case measure=>simp [intOf];omega
   ·go_wp2_with fail
    go_ret
    refine⟨k,rfl,?_,by omega,blo⟩
    have h1:l.any aav=true:=List.any_eq_true.2 ⟨y,by rw [HY.out];exact List.getElem_mem _,ho⟩
    rw [h1]
    simp
  ·go_wp2_with fail
   go_ret
   obtain rfl:k=n:=by omega
   have h1:=HK.out
   rw [List.take_of_length_le (by rw [←Hn.out];exact Nat.le_refl _)]at h1
   exact⟨-1,rfl,by rw [h1];rfl,by omega,e1⟩
theorem ajQ(w:World)(A:Option Addr)(n c lo hi:Nat)(l:List UInt8)(hn:n=l.length)(hm:n≤9223372036854775807)(hr:Rd w lo hi A (bytes l))(hh:hi≤w.heap.size):
 Calls Tryz.prog 98 #[.slice A n c,.func (.func 99) #[] #[]] w fun e w'=>e= .returned (.bool (l.any aav))∧Ext w w':=by
 have Hn:=hiD hn
 clear hn
 go_enter Tryz.func98,Tryz.ntmps98
 go_wp2_with fail
 refine(am5 w A n c lo hi l Hn.out hm hr hh).mono ?_
 rintro e w2 ⟨r,rfl,hany,hr1,e2⟩
 have HA:=hiD hany
 clear hany
 go_wp2_with fail
 go_ret
 exact⟨by rw [HA.out];rfl,e2⟩
theorem am7(w:World)(A:Option Addr)(n c lo hi:Nat)(l:List UInt8)(hn:n=l.length)(hm:n≤9223372036854775807)(hr:Rd w lo hi A (bytes l))(hh:hi≤w.heap.size):
 Calls Tryz.prog 152 #[.slice A n c,.func (.func 197) #[] #[]] w fun e w'=> ∃r:Int,e= .returned (.int .i64 r)∧l.any aaQ=decide (0≤r)∧ -1≤r∧Ext w w':=by
 have Hn:=hiD hn
 clear hn
 go_enter Tryz.func152,Tryz.ntmps152
 go_wp2_with fail
 go_loopw [8] (fun i wr=> ∃k:Nat,k≤n∧i= .int .i64 k∧(l.take k).any aaQ=false∧Ext w wr) (fun i _=>n - (intOf i).toNat)
 case atStart=>exact⟨0,Nat.zero_le _,rfl,rfl,Ext.refl _⟩
 case round=>
  obtain⟨k,hk,rfl,hno,e1⟩:=hrel
  have HK:=hiD hno
  clear hno
  by_cases hlt:k < n
  ·obtain⟨b1,o1,rfl,_,_,f0⟩:=ab4 (hr.ext e1 hh) (k:=k) (by rw [←Hn.out];omega)
   have hl:k < l.length:=by rw [←Hn.out];omega
   obtain⟨y,hy⟩: ∃y,y=l[k]'hl:=⟨_,rfl⟩
   rw [←hy]at f0
   have HY:=hiD hy
   clear hy
   go_wp2_with fail
   refine(alM y _).mono ?_
   rintro e w2 ⟨rfl,e2⟩
   cases ho:aaQ y
   ·go_wp2_with fail
    go_roundw
    case rel=>
     refine⟨k+1,by omega,by go_num,?_,blo⟩
     rw [List.take_succ_eq_append_getElem hl,List.any_append,HK.out,←HY.out]
     simp [ho]
    case measure=>simp [intOf];omega
   ·go_wp2_with fail
    go_ret
    refine⟨k,rfl,?_,by omega,blo⟩
    have h1:l.any aaQ=true:=List.any_eq_true.2 ⟨y,by rw [HY.out];exact List.getElem_mem _,ho⟩
    rw [h1]
    simp
  ·go_wp2_with fail
   go_ret
   obtain rfl:k=n:=by omega
   have h1:=HK.out
   rw [List.take_of_length_le (by rw [←Hn.out];exact Nat.le_refl _)]at h1
   exact⟨-1,rfl,by rw [h1];rfl,by omega,e1⟩
theorem akG(w:World)(A:Option Addr)(n c lo hi:Nat)(l:List UInt8)(hn:n=l.length)(hm:n≤9223372036854775807)(hr:Rd w lo hi A (bytes l))(hh:hi≤w.heap.size):
 Calls Tryz.prog 98 #[.slice A n c,.func (.func 197) #[] #[]] w fun e w'=>e= .returned (.bool (l.any aaQ))∧Ext w w':=by
 have Hn:=hiD hn
 clear hn
 go_enter Tryz.func98,Tryz.ntmps98
 go_wp2_with fail
 refine(am7 w A n c lo hi l Hn.out hm hr hh).mono ?_
 rintro e w2 ⟨r,rfl,hany,hr1,e2⟩
 have HA:=hiD hany
 clear hany
 go_wp2_with fail
 go_ret
 exact⟨by rw [HA.out];rfl,e2⟩
def zd(s:ByteArray):Bool:=decide (0 < s.size) && decide (s.size≤16) && !(s.data.toList.any aav)
def aaO(s:ByteArray):Bool:=decide (s.size≤32) && !(s.data.toList.any aaQ)
theorem qq(s:ByteArray)(w:World)(hm:s.size≤9223372036854775807):Calls Tryz.prog 44 #[.string s] w fun e w'=>e= .returned (.bool (zd s))∧Ext w w':=by
 by_cases h0:s.size=0
 ·obtain rfl:=ql s h0
  go_enter Tryz.func44,Tryz.ntmps44
  go_wp2_with fail
  go_ret
  exact⟨rfl,Ext.refl _⟩
 ·have b0:s.toList.isEmpty=false:=by
   rw [ByteArray.toList_eq,List.isEmpty_eq_false_iff]
   intro e
   have:=zv s
   rw [e]at this
   exact h0 this.symm
  by_cases h16:16 < s.size
  ·have hv:Hid (zd s=false):=by simp [Hid,zd];omega
   go_enter Tryz.func44,Tryz.ntmps44
   go_wp2_with fail
   go_ret
   exact⟨by rw [hv.out];rfl,Ext.refl _⟩
  ·have hv:Hid (zd s=!(s.data.toList.any aav)):=by
    have h1:decide (0 < s.size)=true:=by simp;omega
    have h2:decide (s.size≤16)=true:=by simp;omega
    rw [Hid,zd,h1,h2];rfl
   have hcv:=fun W=>run_bytes_of_string (P:=Tryz.prog) W 9 53 5 s Tryz.underlying9 Tryz.underlying53 Tryz.underlying5
   have hrd:=aam w s (grownCap w s.size 0 5) 5 ((bytesRow s (grownCap w s.size 0 5)).size,(bytesRow s (grownCap w s.size 0 5)).size+1)
   have HR:=hiD hrd
   clear hrd
   go_enter Tryz.func44,Tryz.ntmps44
   go_wp2_with fail
   clear hcv
   refine(ajQ _ (some ⟨w.heap.size,0,none⟩) s.size _ w.heap.size (w.heap.size+1) s.data.toList (by rw [zv]) hm HR.out.drew (by simp)).mono ?_
   rintro e w2 ⟨rfl,e2⟩
   generalize s.data.toList.any aav=X at *
   go_wp2_with fail
   go_ret
   exact⟨by rw [hv.out];rfl,blo⟩
theorem aku(s:ByteArray)(w:World)(hm:s.size≤9223372036854775807):Calls Tryz.prog 160 #[.string s] w fun e w'=>e= .returned (.bool (aaO s))∧Ext w w':=by
 by_cases h16:32 < s.size
 ·have hv:Hid (aaO s=false):=by simp [Hid,aaO];omega
  go_enter Tryz.func160,Tryz.ntmps160
  go_wp2_with fail
  go_ret
  exact⟨by rw [hv.out];rfl,Ext.refl _⟩
 ·have hv:Hid (aaO s=!(s.data.toList.any aaQ)):=by
   have h2:decide (s.size≤32)=true:=by simp;omega
   rw [Hid,aaO,h2];rfl
  have hcv:=fun W=>run_bytes_of_string (P:=Tryz.prog) W 9 53 5 s Tryz.underlying9 Tryz.underlying53 Tryz.underlying5
  have hrd:=aam w s (grownCap w s.size 0 5) 5 ((bytesRow s (grownCap w s.size 0 5)).size,(bytesRow s (grownCap w s.size 0 5)).size+1)
  have HR:=hiD hrd
  clear hrd
  go_enter Tryz.func160,Tryz.ntmps160
  go_wp2_with fail
  clear hcv
  refine(akG _ (some ⟨w.heap.size,0,none⟩) s.size _ w.heap.size (w.heap.size+1) s.data.toList (by rw [zv]) hm HR.out.drew (by simp)).mono ?_
  rintro e w2 ⟨rfl,e2⟩
  generalize s.data.toList.any aaQ=X at *
  go_wp2_with fail
  go_ret
  exact⟨by rw [hv.out];rfl,blo⟩
theorem qN(s:ByteArray)(w:World)(hm:s.size≤9223372036854775807):Calls Tryz.prog 29 #[.string s] w fun e w'=>e= .returned (.bool (zd s))∧Ext w w':=by
 have HD:=hiD (zv s)
 go_enter Tryz.func29,Tryz.ntmps29
 go_wp2_with fail
 go_loopw [3] (fun i wr=> ∃k:Nat,k≤s.size∧i= .int .i64 k∧Hid ((s.data.toList.take k).any aav=false)∧Ext w wr) (fun i _=>s.size - (intOf i).toNat)
 case atStart=>exact⟨0,Nat.zero_le _,rfl,by rw [Hid];rfl,Ext.refl _⟩
 case round=>
  obtain⟨k,hk,rfl,HK,e1⟩:=hrel
  by_cases hlt:k < s.size
  ·have hl:k < s.data.toList.length:=by rw [HD.out];exact hlt
   obtain⟨y,hy⟩: ∃y,s[k]'hlt=y:=⟨_,rfl⟩
   have HY:Hid (s.data.toList[k]'hl=y):=hy
   go_wp2_with fail
   refine(ai2 y _).mono ?_
   rintro e w2 ⟨rfl,e2⟩
   cases ho:aav y
   ·go_wp2_with fail
    go_roundw
    case rel=>
     refine⟨k+1,by omega,by go_num,hiD ?_,blo⟩
     rw [List.take_succ_eq_append_getElem hl,List.any_append,HK.out,HY.out]
     simp [ho]
    case measure=>simp [intOf];omega
   ·have hv:Hid (zd s=false):=by
     have h1:s.data.toList.any aav=true:=List.any_eq_true.2 ⟨y,by rw [←HY.out];exact List.getElem_mem _,ho⟩
     rw [Hid,zd,h1]
     simp
    go_wp2_with fail
    go_ret
    exact⟨by rw [hv.out];rfl,blo⟩
  ·obtain rfl:k=s.size:=by omega
   have h1:s.data.toList.any aav=false:=by
    have h1:=HK.out
    rwa [List.take_of_length_le (by rw [HD.out];exact Nat.le_refl _)]at h1
   have hv:Hid (zd s=(decide (0 < s.size) && decide (s.size≤16))):=by rw [Hid,zd,h1];simp
   clear h1
   by_cases hz:s.size=0
   ·have h2:(decide (0 < s.size) && decide (s.size≤16))=false:=by simp;omega
    have t1: ¬(1:Int)≤(s.size:Int):=by omega
    go_wp2_with fail
    go_ret
    exact⟨by rw [hv.out,h2];rfl,e1⟩
   ·have t1:(1:Int)≤(s.size:Int):=by omega
    by_cases h16:16 < s.size
    ·have h2:(decide (0 < s.size) && decide (s.size≤16))=false:=by simp;omega
     have t2: ¬(s.size:Int)≤16:=by omega
     go_wp2_with fail
     go_ret
     exact⟨by rw [hv.out,h2];first | rfl | (simp;omega),e1⟩
    ·have h2:(decide (0 < s.size) && decide (s.size≤16))=true:=by simp;omega
     have t2:(s.size:Int)≤16:=by omega
     go_wp2_with fail
     go_ret
     exact⟨by rw [hv.out,h2];first | rfl | (simp;omega),e1⟩
theorem aiq(s:ByteArray)(w:World)(hm:s.size≤9223372036854775807):Calls Tryz.prog 114 #[.string s] w fun e w'=>e= .returned (.bool (aaO s))∧Ext w w':=by
 have HD:=hiD (zv s)
 go_enter Tryz.func114,Tryz.ntmps114
 go_wp2_with fail
 go_loopw [3] (fun i wr=> ∃k:Nat,k≤s.size∧i= .int .i64 k∧Hid ((s.data.toList.take k).any aaQ=false)∧Ext w wr) (fun i _=>s.size - (intOf i).toNat)
 case atStart=>exact⟨0,Nat.zero_le _,rfl,by rw [Hid];rfl,Ext.refl _⟩
 case round=>
  obtain⟨k,hk,rfl,HK,e1⟩:=hrel
  by_cases hlt:k < s.size
  ·have hl:k < s.data.toList.length:=by rw [HD.out];exact hlt
   obtain⟨y,hy⟩: ∃y,s[k]'hlt=y:=⟨_,rfl⟩
   have HY:Hid (s.data.toList[k]'hl=y):=hy
   cases ho:aaQ y
   ·obtain⟨t1,t2⟩: ¬(y.toNat:Int) < 32∧ ¬(126:Int) < (y.toNat:Int):=by
     simp only [aaQ,afE,Bool.or_eq_false_iff,decide_eq_false_iff_not]at ho
     exact ho
    go_wp2_with fail
    go_roundw
    case rel=>
     refine⟨k+1,by omega,by go_num,hiD ?_,blo⟩
     rw [List.take_succ_eq_append_getElem hl,List.any_append,HK.out,HY.out]
     simp [ho]
    case measure=>simp [intOf];omega
   ·have hv:Hid (aaO s=false):=by
     have h1:s.data.toList.any aaQ=true:=List.any_eq_true.2 ⟨y,by rw [←HY.out];exact List.getElem_mem _,ho⟩
     rw [Hid,aaO,h1]
     simp
    have ho2:(y.toNat:Int) < 32∨(¬(y.toNat:Int) < 32∧(126:Int) < (y.toNat:Int)):=by
     simp only [aaQ,afE,Bool.or_eq_true,decide_eq_true_eq]at ho
     omega
    clear ho
    rcases ho2 with t1 | ⟨t1,t2⟩
    ·go_wp2_with fail
     go_ret
     exact⟨by rw [hv.out];rfl,e1⟩
    ·go_wp2_with fail
     go_ret
     exact⟨by rw [hv.out];rfl,e1⟩
  ·obtain rfl:k=s.size:=by omega
   have h1:s.data.toList.any aaQ=false:=by
    have h1:=HK.out
    rwa [List.take_of_length_le (by rw [HD.out];exact Nat.le_refl _)]at h1
   have hv:Hid (aaO s=decide (s.size≤32)):=by rw [Hid,aaO,h1];simp
   clear h1
   by_cases h16:32 < s.size
   ·have h2:decide (s.size≤32)=false:=by simp;omega
    have t2: ¬(s.size:Int)≤32:=by omega
    go_wp2_with fail
    go_ret
    exact⟨by rw [hv.out,h2];first | rfl | (simp;omega),e1⟩
   ·have h2:decide (s.size≤32)=true:=by simp;omega
    have t2:(s.size:Int)≤32:=by omega
    go_wp2_with fail
    go_ret
    exact⟨by rw [hv.out,h2];first | rfl | (simp;omega),e1⟩
structure Prp where
 name:ByteArray
 value:ByteArray
def Prp.cells(x:Prp):List Value:= [.string x.name,.string x.value]
def prps(xs:List Prp):List Value:=xs.flatMap Prp.cells
theorem afZ(x:Prp)(xs:List Prp):prps (x::xs)=x.cells++prps xs:=by simp [prps]
theorem ahL(xs:List Prp):(prps xs).length=xs.length * 2:=by
 induction xs with
 | nil=>rfl
 | cons x xs ih=>rw [afZ,List.length_append,ih];simp [Prp.cells];omega
theorem amX(xs:List Prp)(k j:Nat)(hj:j < 2)(hk:k < xs.length):(prps xs)[k * 2+j]?=xs[k].cells[j]?:=by
 induction xs generalizing k with
 | nil=>simp at hk
 | cons x xs ih=>
   rw [afZ]
   cases k with
   | zero=>rw [List.getElem?_append_left (by simp [Prp.cells];omega)];simp
   | succ k=>
     rw [List.getElem?_append_right (by simp [Prp.cells];omega)]
     have:(k+1) * 2+j - x.cells.length=k * 2+j:=by simp [Prp.cells];omega
     rw [this,ih k (by simpa using hk)]
     simp
theorem acr{w:World}{lo hi:Nat}{A:Option Addr}{xs:List Prp}(h:Rd w lo hi A (prps xs)){k:Nat}(hk:k < xs.length):
 ∃b o,A=some ⟨b,o,none⟩∧lo≤b∧b < hi∧w.cell? ⟨b,o+k * 2,none⟩=some (.string xs[k].name)∧w.cell? ⟨b,o+k * 2+1,none⟩=some (.string xs[k].value):=by
 obtain⟨b,o,h1,h2,h3,h4⟩:=h (fun e=>by have:=ahL xs;rw [e]at this;simp at this;omega)
 have g: ∀j,j < 2→ ∀u,xs[k].cells[j]?=some u→w.cell? ⟨b,o+k * 2+j,none⟩=some u:=fun j hj u hu=>by
  rw [Nat.add_assoc]
  exact h4 _ u (by rw [amX xs k j hj hk];exact hu)
 exact⟨b,o,h1,h2,h3,g 0 (by omega) _ rfl,g 1 (by omega) _ rfl⟩
def lessB(a b:ByteArray):Bool:=Op.bytesLess a.toList b.toList
theorem acq(x y:List UInt8):(!Op.bytesLess y x)=(Op.bytesLess x y || x == y):=by
 induction x generalizing y with
 | nil=>cases y <;> simp [Op.bytesLess]
 | cons a x ih=>
   cases y with
   | nil=>simp [Op.bytesLess]
   | cons b y=>
     have h:=ih y
     simp only [Op.bytesLess,List.cons_beq_cons]
     by_cases h1:a < b
     ·have h2: ¬b < a:=UInt8.not_lt.2 (UInt8.le_of_lt h1)
      have h3:(b == a)=false:=by rw [beq_eq_false_iff_ne];intro e;subst e;exact absurd h1 (UInt8.lt_irrefl _)
      simp [h1,h2,h3]
     ·by_cases h2:b < a
      ·have h3:(a == b)=false:=by rw [beq_eq_false_iff_ne];intro e;subst e;exact absurd h2 (UInt8.lt_irrefl _)
       simp [h1,h2,h3]
      ·have h3:a=b:=UInt8.le_antisymm (UInt8.not_lt.1 h2) (UInt8.not_lt.1 h1)
       subst h3
       simpa [h1]using h
theorem xP(a b:ByteArray):(lessB b a || b.toList == a.toList)=!lessB a b:=(acq _ _).symm
def nm(xs:List Prp)(k:Nat):ByteArray:=(xs.map Prp.name).getD k .empty
def vl(xs:List Prp)(k:Nat):ByteArray:=(xs.map Prp.value).getD k .empty
theorem agy(xs:List Prp)(k:Nat)(h:k < xs.length):nm xs k=xs[k].name:=by simp [nm,h]
theorem ani(xs:List Prp)(k:Nat)(h:k < xs.length):vl xs k=xs[k].value:=by simp [vl,h]
def qD(xs:List Prp)(k:Nat):Bool:=!zd (nm xs k) || !aaO (vl xs k) || (decide (0 < k) && !lessB (nm xs (k - 1)) (nm xs k))
def aaz(xs:List Prp)(k:Nat):Bool:=(List.range k).any (qD xs)
theorem adT(xs:List Prp)(k:Nat):aaz xs (k+1)=(aaz xs k || qD xs k):=by simp [aaz,List.range_succ]
theorem ads(xs:List Prp)(k n:Nat)(h:k < n)(hb:qD xs k=true):aaz xs n=true:=List.any_eq_true.2 ⟨k,List.mem_range.2 h,hb⟩
def prE(xs:List Prp):Int:=if 8 < xs.length then 9 else if aaz xs xs.length then 9 else 0
set_option linter.unusedSimpArgs false in
theorem aaH(w:World)(A:Option Addr)(n c:Nat)(xs:List Prp)(hn:n=xs.length)(hm:n≤9223372036854775807)(hr:Rd w 0 w.heap.size A (prps xs))(hwf: ∀x∈xs,x.name.size≤9223372036854775807∧x.value.size≤9223372036854775807):
 Calls Tryz.prog 117 #[.slice A n c] w fun e w'=>e= .returned (.int .i64 (prE xs))∧Ext w w':=by
 have Hn:=hiD hn
 have HW:=hiD hwf
 by_cases h8:8 < n
 ·have hv:Hid (prE xs=9):=by rw [Hid,prE,if_pos (by omega)]
  clear hn hwf
  go_enter Tryz.func117,Tryz.ntmps117
  go_wp2_with fail
  go_ret
  exact⟨by rw [hv.out];rfl,Ext.refl _⟩
 ·clear hn hwf
  go_enter Tryz.func117,Tryz.ntmps117
  go_wp2_with fail
  go_loopw [10] (fun i wr=> ∃k:Nat,k≤n∧i= .int .i64 k∧Hid (aaz xs k=false)∧Ext w wr) (fun i _=>n - (intOf i).toNat)
  case atStart=>exact⟨0,Nat.zero_le _,rfl,by rw [Hid];rfl,Ext.refl _⟩
  case round=>
   obtain⟨k,hk,rfl,HK,e1⟩:=hrel
   by_cases hlt:k < n
   ·have hl:k < xs.length:=by rw [←Hn.out];omega
    have hmem:=HW.out xs[k] (List.getElem_mem _)
    obtain⟨b1,o1,rfl,_,hb1,f0,f1⟩:=acr hr hl
    have hba:Hid (qD xs k=(!zd xs[k].name || !aaO xs[k].value || (decide (0 < k) && !lessB (nm xs (k - 1)) xs[k].name))):=by rw [Hid,qD,agy xs k hl,ani xs k hl]
    have hbs:=hiD (adT xs k)
    have hba2:=hiD (ads xs k xs.length hl)
    generalize xs[k]=y at *
    have g0:wr.cell? ⟨b1,o1+k * 2,none⟩=some (.string y.name):=by rw [Below.cell e1 hb1];exact f0
    have g1:wr.cell? ⟨b1,o1+k * 2+1,none⟩=some (.string y.value):=by rw [Below.cell e1 hb1];exact f1
    go_wp2_with fail
    generalize hw1:World.alloc wr _=w1;obtain⟨ew1,zw1,Gw1⟩:=aat hw1;have gw1_0:=Gw1 0 _ rfl;have gw1_1:=Gw1 1 _ rfl;have Zw1:=hiD zw1;clear zw1 hw1 Gw1;have rw1:=Ext.refl w1
    have hle: ¬8 < xs.length:=by rw [←Hn.out];exact h8
    have hv:Hid (qD xs k=true→prE xs=9):=hiD fun h=>by rw [prE,if_neg hle,if_pos (hba2.out h)]
    have E1:Ext w w1:=e1.trans ew1
    refine wp_region_held_drew (S:=fun w'=>Ext w1 w') (by kernel_rfl) blo (fun hHeld=>?_)
    refine tW 0 2 ?_
    refine oS 2 (fun K hK=>?_);go_simp
    refine(qq y.name _ hmem.1).mono ?_
    rintro e wa ⟨rfl,ea⟩
    go_wp2_with fail;refine hK.out _ _ blo (fun hHeld=>?_);clear hK K;refine lyX ?_
    cases ho:zd y.name
    ·have hv:=hiD (hv.out (by rw [hba.out,ho];rfl))
     refine tW 3 2 ?_
     refine sW 5 4 ?_
     refine tW 9 2 ?_
     refine sW 11 13 ?_
     refine tW 24 1 ?_
     refine dnX ?_
     go_wp2_with fail
     go_ret
     exact⟨by rw [hv.out];rfl,blo⟩
    ·refine tS 3 ?_;refine lyX ?_
     refine tW 4 3 ?_
     refine oS 7 (fun K hK=>?_);go_simp
     refine(aku y.value _ hmem.2).mono ?_
     rintro e wb ⟨rfl,eb⟩
     go_wp2_with fail;refine hK.out _ _ blo (fun hHeld=>?_);clear hK K;refine lyX ?_
     cases hp:aaO y.value
     ·have hv:=hiD (hv.out (by rw [hba.out,ho,hp];rfl))
      refine tW 8 3 ?_
      refine sW 11 13 ?_
      refine tW 24 1 ?_
      refine dnX ?_
      go_wp2_with fail
      go_ret
      exact⟨by rw [hv.out];rfl,blo⟩
     ·refine tS 8 ?_;refine lyX ?_
      refine tW 9 2 ?_
      cases k with
      | zero=>
        have hbf:Hid (qD xs 0=false):=by rw [hba.out,ho,hp];rfl
        refine tW 11 3 ?_
        refine sW 14 9 ?_
        refine tW 23 2 ?_
        refine dnX ?_
        go_wp2_with fail
        go_roundw
        case rel=>
         refine⟨1,by omega,by go_num,hiD (by rw [hbs.out,HK.out,hbf.out];rfl),blo⟩
        case measure=>(first | (simp [intOf];done) | (simp [intOf];omega))
      | succ j=>
        obtain⟨b2,o2,hbo,_,_,f2,_⟩:=acr hr (k:=j) (by omega)
        obtain⟨rfl,rfl⟩:b1=b2∧o1=o2:=by simpa using hbo
        rw [←agy xs j (by omega)]at f2
        have f3: ∀w',Ext w1 w'→w'.cell? ⟨b1,o1+j * 2,none⟩=some (.string (nm xs j)):=fun w' h=>by rw [Below.cell (E1.trans h) hb1];exact f2
        have hd:decide (0 < j+1)=true:=by simp
        have hba:=hiD hba.out
        have hba:Hid (qD xs (j+1)=!lessB (nm xs j) y.name):=by
         have h:=hba.out
         rw [Nat.add_sub_cancel,ho,hp,hd]at h
         exact h
        clear f2 hbo hd
        have hjn:(j:Int) < (n:Int):=by omega
        have hs0:IntKind.i64.wrap (j:Int)=(j:Int):=IntWalk.i64_in _ (by omega)
        generalize nm xs j=z at *
        refine tW 11 11 ?_
        cases hq:lessB z y.name
        ·have hv:=hiD (hv.out (by rw [hba.out,hq];rfl))
         have hq2:Op.bytesLess z.toList y.name.toList=false:=hq
         refine tW 22 3 ?_
         refine dnX ?_
         go_wp2_with fail
         go_ret
         exact⟨by rw [hv.out];rfl,blo⟩
        ·have hbf:Hid (qD xs (j+1)=false):=by rw [Hid,hba.out,hq];rfl
         have hq2:Op.bytesLess z.toList y.name.toList=true:=hq
         refine tW 22 3 ?_
         refine dnX ?_
         go_wp2_with fail
         go_roundw
         case rel=>
          refine⟨j+2,by omega,by go_num,hiD (by rw [hbs.out,HK.out,hbf.out];rfl),blo⟩
         case measure=>(first | (simp [intOf];done) | (simp [intOf];omega))
   ·obtain rfl:k=n:=by omega
    have hv:Hid (prE xs=0):=by
     have h1:=HK.out
     rw [Hn.out]at h1 h8
     rw [Hid,prE,if_neg h8,h1]
     rfl
    go_wp2_with fail
    go_ret
    exact⟨by rw [hv.out];rfl,e1⟩
structure Rec where
 kind:Int
 name:ByteArray
 frm:Int
 guid:Int
 oA:Option Addr
 on:Nat
 oc:Nat
 own:List Prp
 index:Int
 count:Int
 data:ByteArray
 s0:Int
 s1:Int
 s2:Int
 s3:Int
def Rec.cells(x:Rec):List Value:= [.int .i64 x.kind,.string x.name,.int .i64 x.frm,.int .i64 x.guid,.slice x.oA x.on x.oc,.int .i64 x.index,.int .i64 x.count,.string x.data,.int .u64 x.s0,.int .u64 x.s1,.int .u64 x.s2,.int .u64 x.s3]
theorem anP(w:World)(A:Option Addr)(n c:Nat)(hm:n≤9223372036854775807):
 Calls Tryz.prog 242 #[.slice A n c,.slice none 0 0] w fun e w'=>e= .returned (.bool (decide (n=0)))∧Ext w w':=by
 by_cases h0:n=0
 ·subst h0
  go_enter Tryz.func242,Tryz.ntmps242
  go_wp2_with fail
  go_loopw [13] (fun i wr=>i= .int .i64 0∧wr=w) (fun _ _=>0)
  case atStart=>exact⟨rfl,rfl⟩
  case round=>
   obtain⟨rfl,rfl⟩:=hrel
   go_wp2_with fail
   go_ret
   exact⟨rfl,Ext.refl _⟩
 ·have h1:decide (n=0)=false:=by simpa using h0
  have h2:((n:Int) == 0)=false:=by rw [beq_eq_false_iff_ne];omega
  have h3:((n:Int) != 0)=true:=by rw [bne_iff_ne];omega
  go_enter Tryz.func242,Tryz.ntmps242
  go_wp2_with fail
  go_ret
  exact⟨by rw [h1];rfl,Ext.refl _⟩
theorem akB(w:World)(A:Option Addr)(n c:Nat)(hm:n≤9223372036854775807):
 Calls Tryz.prog 235 #[.slice A n c,.slice none 0 0] w fun e w'=>e= .returned (.bool (decide (n=0)))∧Ext w w':=by
 go_enter Tryz.func235,Tryz.ntmps235
 go_wp2_with ((with_reducible refine(anP _ A n c hm).mono ?_);rintro e w1 ⟨rfl,h1⟩)
 go_ret
 exact⟨rfl,h1⟩
def aap(x y:Rec):Bool:=
 x.kind == y.kind && x.name.toList == y.name.toList && x.frm == y.frm && x.guid == y.guid && x.index == y.index && x.count == y.count && x.data.toList == y.data.toList &&
  (x.s0 == y.s0 && x.s1 == y.s1 && x.s2 == y.s2 && x.s3 == y.s3) && decide (x.on=0)
theorem abA(w:World)(x y:Rec)(hm:x.on≤9223372036854775807)(h0:y.oA=none)(h1:y.on=0)(h2:y.oc=0):
 Calls Tryz.prog 220 #[.agg x.cells.toArray,.agg y.cells.toArray] w fun e w'=>e= .returned (.bool (aap x y))∧Ext w w':=by
 obtain⟨k,n,f,g,oA,on,oc,own,i,c,d,s0,s1,s2,s3⟩:=x
 obtain⟨k',n',f',g',oA',on',oc',own',i',c',d',s0',s1',s2',s3'⟩:=y
 simp only at h0 h1 h2 hm
 subst h0 h1 h2
 have HS:=hiD (show aap ⟨k,n,f,g,oA,on,oc,own,i,c,d,s0,s1,s2,s3⟩ ⟨k',n',f',g',none,0,0,own',i',c',d',s0',s1',s2',s3'⟩=
  (k == k' && n.toList == n'.toList && f == f' && g == g' && i == i' && c == c' && d.toList == d'.toList && (s0 == s0' && s1 == s1' && s2 == s2' && s3 == s3') && decide (on=0))from rfl)
 generalize aap _ _=b at HS
 simp only [Rec.cells]
 go_enter Tryz.func220,Tryz.ntmps220
 go_wp2_with ((with_reducible refine(akB _ oA on oc hm).mono ?_);rintro e w1 ⟨rfl,e1⟩)
 all_goals (go_ret;exact⟨by rw [HS.out];(first | (simp [*];done) | trace_state),blo⟩)
end Go.Proofs.YtckaneapjpiocaaGreatDoor
