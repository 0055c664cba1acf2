/- The texts Qui in one file. -/
import Derived.Test.YtckaneapjpiocaaGreatDoorP2
set_option linter.unusedVariables false
set_option linter.unusedSimpArgs false
namespace Go.Proofs.YtckaneapjpiocaaGreatDoor
open Go.RowKit
def abJ(ρ:Operand→Value):Op→Option Value
 | .move x=>some (ρ x)
 | .assign x=>some (ρ x)
 | .pick c a b=>match ρ c with
   | .bool t=>some (if t then ρ a else ρ b)
   | _=>none
 | .unOp .not _ x=>match ρ x with
   | .bool t=>some (.bool (!t))
   | _=>none
 | _=>none
theorem adH{P:Program}{ρ:Operand→Value}{oi:Oper}{v:Value}(h:abJ ρ oi.op=some v)(w:World):(execOp ρ oi).run P w= .ok (.value v) w:=by
 unfold abJ at h
 split at h
 ·rename_i x e
  cases h
  simp only [execOp,e];rfl
 ·rename_i x e
  cases h
  simp only [execOp,e];rfl
 ·rename_i c x y e
  split at h
  ·rename_i t ht
   cases h
   simp only [execOp,e,ht]
   cases t <;> rfl
  ·cases h
 ·rename_i T x e
  split at h
  ·rename_i t ht
   cases h
   simp only [execOp,e,ht]
   rfl
  ·cases h
 ·cases h
def qo(md:Region.Mode)(l:List Oper):List Nat→Array Bool→Act→Option (Array Bool×Act)
 | [],s,a=>some (s,a)
 | i::is,s,a=>
   match l[i]? with
   | none=>none
   | some oi=>
     if oi.dst.isSome && Region.noSelect l.toArray && Region.free md l.toArray s i && (Region.ready md l.toArray s).contains i then
      if Region.wanted oi (yielded l.toArray a.tmps)then
       match abJ a.eval oi.op with
       | some v=>qo md l is (s.setIfInBounds i true) (a.put oi.dst v)
       | none=>none
      else qo md l is (s.setIfInBounds i true) (a.put oi.dst undef)
     else none
def zf:List (Nat×Option Nat×Value)→Act→Act
 | [],a=>a
 | (_,d,v)::is,a=>zf is (a.put d v)
def zg:List (Nat×Option Nat×Value)→Array Bool→Array Bool
 | [],s=>s
 | (i,_,_)::is,s=>zg is (s.setIfInBounds i true)
variable {P:Program} {l:List Oper} {Q:Exit→Act→World→Prop} {md:Region.Mode} {S:World→Prop}
theorem aaW(hQ: ∀c a d v w,Q (.panic c) (Act.put a (some d) v) w→Q (.panic c) a w): ∀(is:List Nat) (fuel:Nat) (s s':Array Bool) (a a':Act) (w:World),qo md l is s a=some (s',a')→S w→
 wpAnyH P md l.toArray Q S fuel s' a' w→wpAnyH P md l.toArray Q S (fuel+is.length) s a w
 | [],fuel,s,s',a,a',w,h,hS,hw=>by
   simp only [qo,Option.some.injEq,Prod.mk.injEq]at h
   obtain⟨rfl,rfl⟩:=h
   exact hw
 | i::is,fuel,s,s',a,a',w,h,hS,hw=>by
   simp only [qo]at h
   cases hi:l[i]? with
   | none=>rw [hi]at h;cases h
   | some oi=>
     rw [hi]at h
     dsimp only at h
     split at h
     ·rename_i hc
      simp only [Bool.and_eq_true]at hc
      obtain⟨d,hd⟩:=Option.isSome_iff_exists.1 hc.1.1.1
      have hi':l.toArray[i]?=some oi:=by simpa using hi
      split at h
      ·rename_i hwd
       cases hq:abJ a.eval oi.op with
       | none=>rw [hq]at h;cases h
       | some v=>
         rw [hq]at h
         exact wpAnyH_take hi' hc.1.1.2 hc.1.2 hc.2 (fun c a w h=>hQ c a d _ w (by rw [←hd];exact h)) (Or.inl ⟨hwd,fun w _=>adH hq w⟩) hS (aaW hQ is fuel _ _ _ _ w h hS hw)
      ·rename_i hwd
       exact wpAnyH_take hi' hc.1.1.2 hc.1.2 hc.2 (fun c a w h=>hQ c a d _ w (by rw [←hd];exact h)) (Or.inr ⟨by simpa using hwd,rfl⟩) hS (aaW hQ is fuel _ _ _ _ w h hS hw)
     ·cases h
theorem zj(is:List (Nat×Option Nat×Value)){fuel fuel':Nat}{s:Array Bool}{a:Act}{w:World}(hf:fuel'=fuel+(is.map Prod.fst).length)(hQ: ∀c a d v w,Q (.panic c) (Act.put a (some d) v) w→Q (.panic c) a w)
 (hc:qo md l (is.map Prod.fst) s a=some (zg is s,zf is a)) (hS:S w)
 (h:wpAnyH P md l.toArray Q S fuel (zg is s) (zf is a) w):wpAnyH P md l.toArray Q S fuel' s a w:=by
 subst hf
 exact aaW hQ _ _ _ _ _ _ w hc hS h
end Go.Proofs.YtckaneapjpiocaaGreatDoor
