/- The texts Topen, Popen in one file. -/
import Derived.Test.YtckaneapjpiocaaGreatDoorQ47
import Derived.Test.YtckaneapjpiocaaGreatDoorQ31
set_option linter.unusedVariables false
set_option linter.unusedSimpArgs false
namespace Go.Proofs.YtckaneapjpiocaaGreatDoor.opb
open Go.RowKit Go.ChangeShapes Go.WideShapes Go.Deep Go.Joins
section
variable {H:Type} {enc:TypeId×Value→H} {w:World}
theorem ajJ:zz enc Tryz.prog w 183 Blk.cells (fun b=>b.wf∧b.data.size≤1048576):=
 (yj Tryz.underlying183 (by kernel_rfl) (zi.cons 1 (zS Tryz.underlying3) rfl (by kernel_rfl) (zi.cons 1 (yq Tryz.underlying9) rfl (by kernel_rfl) zi.nil))).map
   (fun x=>⟨x.1,x.2.1⟩) (fun _ _=>rfl) (fun _ h=>⟨⟨h.1.1,h.1.2,Nat.le_trans h.2.1 (by decide)⟩,h.2.1⟩)
theorem ajw:zz enc Tryz.prog w 160 Prp.cells (fun p=>p.name.size≤1048576∧p.value.size≤1048576):=
 (yj Tryz.underlying160 (by kernel_rfl) (zi.cons 1 (yq Tryz.underlying9) rfl (by kernel_rfl) (zi.cons 1 (yq Tryz.underlying9) rfl (by kernel_rfl) zi.nil))).map
   (fun x=>⟨x.1,x.2.1⟩) (fun _ _=>rfl) (fun _ h=>⟨h.1,h.2.1⟩)
theorem af8:zz enc Tryz.prog w 44 Su.cells Su.wf:=
 (yj Tryz.underlying44 (by kernel_rfl) (zi.cons 1 (zS Tryz.underlying42) rfl (by kernel_rfl) (zi.cons 1 (zS Tryz.underlying42) rfl (by kernel_rfl)
   (zi.cons 1 (zS Tryz.underlying42) rfl (by kernel_rfl) (zi.cons 1 (zS Tryz.underlying42) rfl (by kernel_rfl) zi.nil))))).map
   (fun x=>⟨x.1,x.2.1,x.2.2.1,x.2.2.2.1⟩) (fun _ _=>rfl) (fun _ h=>⟨h.1,h.2.1,h.2.2.1,h.2.2.2.1⟩)
theorem abz:zz enc Tryz.prog w 41 (fun s:Sl Prp=> [s.val]) (In w Prp.cells (fun p=>p.name.size≤1048576∧p.value.size≤1048576)):=
 yz 2 Tryz.underlying41 (by kernel_rfl) (by omega) (fun _=>rfl) ajw
theorem adg:zz enc Tryz.prog w 47 (fun s:Sl Blk=> [s.val]) (In w Blk.cells (fun b=>b.wf∧b.data.size≤1048576)):=
 yz 2 Tryz.underlying47 (by kernel_rfl) (by omega) (fun _=>rfl) ajJ
structure ROk (w:World) (x:Rec):Prop where
 wf:x.wf
 rd:Rd w 0 w.heap.size x.oA (prps x.own)
 on:x.on≤1048576
 sum:(sumR x).wf
theorem alI:zz enc Tryz.prog w 46 Rec.cells (ROk w):=
 (yj Tryz.underlying46 (by kernel_rfl)
   (zi.cons 1 (zS Tryz.underlying3) rfl (by kernel_rfl) (zi.cons 1 (yq Tryz.underlying9) rfl (by kernel_rfl) (zi.cons 1 (zS Tryz.underlying3) rfl (by kernel_rfl) (zi.cons 1 (zS Tryz.underlying3) rfl (by kernel_rfl)
   (zi.cons 1 abz rfl (by kernel_rfl) (zi.cons 1 (zS Tryz.underlying3) rfl (by kernel_rfl) (zi.cons 1 (zS Tryz.underlying3) rfl (by kernel_rfl)
   (zi.cons 1 (yq Tryz.underlying9) rfl (by kernel_rfl) (zi.cons 4 af8 rfl (by kernel_rfl) zi.nil)))))))))).map
   (fun⟨k,n,f,g,o,i,c,d,s,_⟩=>⟨k,n,f,g,o.A,o.n,o.c,o.xs,i,c,d,s.a,s.b,s.c,s.d⟩) (fun _ _=>rfl)
   (fun⟨k,n,f,g,o,i,c,d,s,_⟩ ⟨h1,h2,h3,h4,h5,h6,h7,h8,h9,_⟩=>⟨⟨h3,h4,h6,h7,h1,Nat.le_trans h2 (by decide),Nat.le_trans h8 (by decide),h5.len,Nat.le_trans h5.le h5.cap,
     fun p hp=>⟨Nat.le_trans (h5.all p hp).1 (by decide),Nat.le_trans (h5.all p hp).2 (by decide)⟩⟩,h5.rd,h5.small,h9⟩)
theorem aaF{α:Type}{cells:α→List Value}{I I':α→Prop}{x:Sl α}(h:In w cells I x)(hi: ∀a,I a→I' a):Sl.At w 0 w.heap.size cells I' x:=⟨h.len,h.le,h.cap,h.rd,fun a ha=>hi a (h.all a ha)⟩
theorem ab0{z:Int}(h:IntKind.i64.min≤z∧z≤IntKind.i64.max):(Lit.int .i64 z).wf=true:=by
 simp only [Lit.wf,Bool.and_eq_true,decide_eq_true_eq];exact h
theorem ajv:zz enc Tryz.prog w 109 (fun s:Sl ByteArray=> [s.val]) (In w strc sml):=
 yz 1 Tryz.underlying109 (by kernel_rfl) (by omega) (fun _=>rfl) (yq Tryz.underlying9)
theorem alb:zz enc Tryz.prog w 137 Sna.cells (Sna.At w 0 w.heap.size):=
 (yj Tryz.underlying137 (by kernel_rfl)
   (zi.cons 1 (yq Tryz.underlying9) rfl (by kernel_rfl) (zi.cons 1 (zS Tryz.underlying3) rfl (by kernel_rfl) (zi.cons 1 adg rfl (by kernel_rfl) (zi.cons 1 ajv rfl (by kernel_rfl) (zi.cons 1 abz rfl (by kernel_rfl) zi.nil)))))).map
   (fun⟨n,g,b,t,o,_⟩=>⟨n,g,b,t,o⟩) (fun _ _=>rfl)
   (fun⟨n,g,b,t,o,_⟩ ⟨h1,h2,h3,h4,h5,_⟩=>⟨h1,ab0 h2,aaF h3 (fun _ h=>h.1),h3.small,aaF h4 (fun _ h=>h),aaF h5 (fun _ h=>h),h5.small⟩)
theorem aiG:zz enc Tryz.prog w 50 (fun s:Sl Sna=> [s.val]) (In w Sna.cells (Sna.At w 0 w.heap.size)):=
 yz 5 Tryz.underlying50 (by kernel_rfl) (by omega) (fun _=>rfl) alb
theorem alf:zz enc Tryz.prog w 52 Dst.cells (Dst.At w 0 w.heap.size):=
 (yj Tryz.underlying52 (by kernel_rfl)
   (zi.cons 1 (yq Tryz.underlying9) rfl (by kernel_rfl) (zi.cons 1 (yq Tryz.underlying9) rfl (by kernel_rfl) (zi.cons 1 adg rfl (by kernel_rfl) (zi.cons 1 aiG rfl (by kernel_rfl) (zi.cons 1 abz rfl (by kernel_rfl) zi.nil)))))).map
   (fun⟨p,o,b,s,r,_⟩=>⟨p,o,b,s,r⟩) (fun _ _=>rfl)
   (fun⟨p,o,b,s,r,_⟩ ⟨h1,h2,h3,h4,h5,_⟩=>⟨h1,h2,aaF h3 (fun _ h=>h.1),h3.small,aaF h4 (fun _ h=>h),h4.small,aaF h5 (fun _ h=>h),h5.small⟩)
theorem aiJ:zz enc Tryz.prog w 22 (fun s:Sl Dst=> [s.val]) (In w Dst.cells (Dst.At w 0 w.heap.size)):=
 yz 5 Tryz.underlying22 (by kernel_rfl) (by omega) (fun _=>rfl) alf
theorem als:zz enc Tryz.prog w 116 Gra.cells Gra.sm:=
 (yj Tryz.underlying116 (by kernel_rfl) (zi.cons 1 (yq Tryz.underlying9) rfl (by kernel_rfl) (zi.cons 1 (yq Tryz.underlying9) rfl (by kernel_rfl) (zi.cons 1 (zS Tryz.underlying3) rfl (by kernel_rfl) zi.nil)))).map
   (fun⟨u,p,n,_⟩=>⟨u,p,n⟩) (fun _ _=>rfl) (fun⟨u,p,n,_⟩ ⟨h1,h2,h3,_⟩=>⟨h1,h2,ab0 h3⟩)
theorem aiB:zz enc Tryz.prog w 23 (fun s:Sl Gra=> [s.val]) (In w Gra.cells Gra.sm):=
 yz 3 Tryz.underlying23 (by kernel_rfl) (by omega) (fun _=>rfl) als
theorem akd:zz enc Tryz.prog w 81 Lin.cells Lin.sm:=
 (yj Tryz.underlying81 (by kernel_rfl) (zi.cons 1 (yq Tryz.underlying9) rfl (by kernel_rfl) (zi.cons 1 (zS Tryz.underlying3) rfl (by kernel_rfl) (zi.cons 1 (yq Tryz.underlying9) rfl (by kernel_rfl) (zi.cons 1 (zS Tryz.underlying29) rfl (by kernel_rfl) zi.nil))))).map
   (fun⟨u,k,p,e,_⟩=>⟨u,k,p,e⟩) (fun _ _=>rfl) (fun⟨u,k,p,e,_⟩ ⟨h1,h2,h3,h4,_⟩=>⟨h1,h3,ab0 h2,ab0 h4⟩)
theorem afp:zz enc Tryz.prog w 25 (fun s:Sl Lin=> [s.val]) (In w Lin.cells Lin.sm):=
 yz 4 Tryz.underlying25 (by kernel_rfl) (by omega) (fun _=>rfl) akd
theorem alz:zz enc Tryz.prog w 49 Stg.cells (Stg.At w 0 w.heap.size):=
 (yj Tryz.underlying49 (by kernel_rfl)
   (zi.cons 1 (yq Tryz.underlying9) rfl (by kernel_rfl) (zi.cons 12 alI rfl (by kernel_rfl) (zi.cons 1 adg rfl (by kernel_rfl) (zi.cons 1 (zS Tryz.underlying3) rfl (by kernel_rfl) (zi.cons 1 (zS Tryz.underlying3) rfl (by kernel_rfl)
   (zi.cons 4 af8 rfl (by kernel_rfl) (zi.cons 1 (ae9 Tryz.underlying4) rfl (by kernel_rfl) zi.nil)))))))).map
   (fun⟨i,r,b,p,n,s,d,_⟩=>⟨i,r,b.A,b.n,b.c,b.xs,p,n,s,d⟩) (fun _ _=>rfl)
   (fun⟨i,r,b,p,n,s,d,_⟩ ⟨h1,h2,h3,h4,h5,h6,_,_⟩=>⟨h2.rd,h2.wf,h2.on,h2.sum,h3.len,h3.small,⟨h3.le,h3.cap⟩,h3.rd,fun y hy=>(h3.all y hy).1,h1,ab0 h4,ab0 h5,h6⟩)
theorem air:zz enc Tryz.prog w 24 (fun s:Sl Stg=> [s.val]) (In w Stg.cells (Stg.At w 0 w.heap.size)):=
 yz 21 Tryz.underlying24 (by kernel_rfl) (by omega) (fun _=>rfl) alz
theorem ala:zz enc Tryz.prog w 27 Tnt.cells (Tnt.At w 0 w.heap.size):=
 (yj Tryz.underlying27 (by kernel_rfl)
   (zi.cons 1 (yq Tryz.underlying9) rfl (by kernel_rfl) (zi.cons 1 (zS Tryz.underlying3) rfl (by kernel_rfl) (zi.cons 1 (zS Tryz.underlying3) rfl (by kernel_rfl) (zi.cons 1 aiJ rfl (by kernel_rfl) (zi.cons 1 aiB rfl (by kernel_rfl)
   (zi.cons 1 air rfl (by kernel_rfl) (zi.cons 1 afp rfl (by kernel_rfl) zi.nil)))))))).map
   (fun⟨n,q,x,s,g,a,l,_⟩=>⟨n,q,x,s,g,a,l⟩) (fun _ _=>rfl)
   (fun⟨n,q,x,s,g,a,l,_⟩ ⟨h1,h2,h3,h4,h5,h6,h7,_⟩=>⟨h1,ab0 h2,ab0 h3,aaF h4 (fun _ h=>h),aaF h5 (fun _ h=>h),aaF h6 (fun _ h=>h),aaF h7 (fun _ h=>h)⟩)
end
end Go.Proofs.YtckaneapjpiocaaGreatDoor.opb
namespace Go.Proofs.YtckaneapjpiocaaGreatDoor.opb
open Go.RowKit Go.ChangeShapes Go.WideShapes Go.Deep Go.Joins
section
variable {H:Type} {enc:TypeId×Value→H} {w:World}
theorem ajp:zz enc Tryz.prog w 59 (fun s:Sl Tnt=> [s.val]) (In w Tnt.cells (Tnt.At w 0 w.heap.size)):=
 yz 7 Tryz.underlying59 (by kernel_rfl) (by omega) (fun _=>rfl) ala
theorem opens_pol:zz enc Tryz.prog w 61 Pol.cells (Pol.At w 0 w.heap.size):=
 (yj Tryz.underlying61 (by kernel_rfl)
   (zi.cons 1 (zS Tryz.underlying3) rfl (by kernel_rfl) (zi.cons 1 ajp rfl (by kernel_rfl) (zi.cons 1 abz rfl (by kernel_rfl) (zi.cons 1 afp rfl (by kernel_rfl) zi.nil))))).map
   (fun⟨c,t,f,l,_⟩=>⟨c,t,f,l⟩) (fun _ _=>rfl)
   (fun⟨c,t,f,l,_⟩ ⟨h1,h2,h3,h4,_⟩=>⟨ab0 h1,aaF h2 (fun _ h=>h),h2.small,aaF h3 (fun _ h=>h),h3.small,aaF h4 (fun _ h=>h)⟩)
end
end Go.Proofs.YtckaneapjpiocaaGreatDoor.opb
