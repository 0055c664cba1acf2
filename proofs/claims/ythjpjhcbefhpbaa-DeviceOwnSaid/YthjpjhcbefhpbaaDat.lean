/- Slices whose elements are read as Lean's own data; octets; a device. -/
import Derived.Test.YthjpjhcbefhpbaaOpens
import Derived.Test.YthjpjhcbefhpbaaReg
import Derived.IntWalk
import Derived.Deep.DeepCutAuto
namespace Go.Proofs.Ythjpjhcbefhpbaa
open Go.RowKit

theorem retB {a b : Bool} (h : a = b) : Ending.returned (.bool a) = Ending.returned (.bool b) := by rw [h]
theorem retI {k : IntKind} {a b : Int} (h : a = b) : Ending.returned (.int k a) = Ending.returned (.int k b) := by rw [h]
theorem bcell {W w1 : World} (hb : Ext W w1) : (∀ b o, b < W.heap.size → w1.cell? ⟨b, o, none⟩ = W.cell? ⟨b, o, none⟩) ∧ (∀ b o, b < W.heap.size → w1.frozen? ⟨b, o, none⟩ = W.frozen? ⟨b, o, none⟩) :=
  ⟨fun b o h => Below.cell (p := ⟨b, o, none⟩) hb h, fun b o h => Below.frozen (p := ⟨b, o, none⟩) hb h⟩

theorem callF {P : Program} {f : FuncId} {fn : Func} {c : Code} (hf : P.funcs[f]? = some fn) (hname : (fn.name == "runtime.NumGoroutine") = false) (hb : fn.body = some c) : ∀ args w, (callFunc f args).run P w = .ok (.enter f args) w := fun args w => by
  have h1 : fn.name ≠ "runtime.NumGoroutine" := by simpa using hname
  simp [callFunc, hf, h1, hb]

/-- element k of a row of structs -/
theorem rd_flat {α : Type} {cells : α → List Value} {size : Nat} (hs : ∀ a, (cells a).length = size) (h0 : 0 < size) {w : World} {lo hi : Nat} {A : Option Addr} {xs : List α} (h : Rd w lo hi A (xs.flatMap cells)) {k : Nat} (hk : k < xs.length) :
    ∃ b o, A = some ⟨b, o, none⟩ ∧ lo ≤ b ∧ b < hi ∧ ∀ j u, (cells xs[k])[j]? = some u → w.cell? ⟨b, o + k * size + j, none⟩ = some u := by
  obtain ⟨b, o, h1, h2, h3, h4⟩ := h (fun e => by
    have := flat_length hs xs
    rw [e] at this
    have := Nat.mul_pos (show 0 < xs.length by omega) h0
    simp at *
    omega)
  refine ⟨b, o, h1, h2, h3, fun j u hu => ?_⟩
  have hj : j < size := by
    have := (List.getElem?_eq_some_iff.1 hu).1
    rwa [hs] at this
  rw [Nat.add_assoc]
  exact h4 _ u (by rw [flat_get hs xs k j hj hk]; exact hu)

/-- a slice that reads, between two heap sizes, as a list of which each element is so -/
structure Sl.At {α : Type} (w : World) (lo hi : Nat) (cells : α → List Value) (I : α → Prop) (s : Sl α) : Prop where
  len : s.n = s.xs.length
  le : s.n ≤ s.c
  cap : s.c ≤ maxLen
  rd : Rd w lo hi s.A (s.xs.flatMap cells)
  all : ∀ x ∈ s.xs, I x
theorem Sl.At.imp {α : Type} {w w' : World} {lo hi lo' hi' : Nat} {cells : α → List Value} {I I' : α → Prop} {s : Sl α} (h : Sl.At w lo hi cells I s) (hr : Rd w lo hi s.A (s.xs.flatMap cells) → Rd w' lo' hi' s.A (s.xs.flatMap cells)) (hi : ∀ x, I x → I' x) : Sl.At w' lo' hi' cells I' s :=
  ⟨h.len, h.le, h.cap, hr h.rd, fun x hx => hi x (h.all x hx)⟩
def octc (b : UInt8) : List Value := [.int .u8 (b.toNat : Int)]
theorem octs_flat (l : List UInt8) : l.flatMap octc = bytes l := by
  induction l with
  | nil => rfl
  | cons b l ih => rw [List.flatMap_cons, ih]; rfl
abbrev Oct := Sl UInt8
abbrev Oct.At (w : World) (lo hi : Nat) (s : Oct) : Prop := Sl.At w lo hi octc (fun _ => True) s
theorem Oct.At.rdb {w : World} {lo hi : Nat} {s : Oct} (h : Oct.At w lo hi s) : Rd w lo hi s.A (bytes s.xs) := by rw [← octs_flat]; exact h.rd
def octv (s : Oct) : List Value := [s.val]
structure Wrt where
  pos : Int
  data : Oct
def Wrt.cells (x : Wrt) : List Value := [.int .i64 x.pos, x.data.val]
structure Wrt.At (w : World) (lo hi : Nat) (x : Wrt) : Prop where
  p0 : -9223372036854775808 ≤ x.pos
  p1 : x.pos ≤ 9223372036854775807
  data : Oct.At w lo hi x.data
structure Dev where
  secs : Sl Oct
  waits : Sl Wrt
def Dev.cells (d : Dev) : List Value := [d.secs.val, d.waits.val]
structure Dev.At (w : World) (lo hi : Nat) (d : Dev) : Prop where
  secs : Sl.At w lo hi octv (Oct.At w lo hi) d.secs
  waits : Sl.At w lo hi Wrt.cells (Wrt.At w lo hi) d.waits
section
variable {w w' : World} {lo hi lo' hi' : Nat}
theorem Oct.At.imp {s : Oct} (h : Oct.At w lo hi s) (hr : ∀ A cs, Rd w lo hi A cs → Rd w' lo' hi' A cs) : Oct.At w' lo' hi' s := Sl.At.imp h (hr _ _) (fun _ h => h)
theorem Wrt.At.imp {x : Wrt} (h : Wrt.At w lo hi x) (hr : ∀ A cs, Rd w lo hi A cs → Rd w' lo' hi' A cs) : Wrt.At w' lo' hi' x := ⟨h.p0, h.p1, Oct.At.imp h.data hr⟩
theorem Dev.At.imp {d : Dev} (h : Dev.At w lo hi d) (hr : ∀ A cs, Rd w lo hi A cs → Rd w' lo' hi' A cs) : Dev.At w' lo' hi' d :=
  ⟨Sl.At.imp h.secs (hr _ _) (fun _ hx => Oct.At.imp hx hr), Sl.At.imp h.waits (hr _ _) (fun _ hx => Wrt.At.imp hx hr)⟩
/-- what reads reads on, up to the later world's end -/
theorem rd_on (e : Ext w w') (hh : hi ≤ w.heap.size) : ∀ A cs, Rd w lo hi A cs → Rd w' lo w'.heap.size A cs := fun _ _ h => Rd.at h (Below.mono e hh) hh
theorem Dev.At.on {d : Dev} (h : Dev.At w lo hi d) (e : Ext w w') (hh : hi ≤ w.heap.size) : Dev.At w' lo w'.heap.size d := h.imp (rd_on e hh)
theorem Oct.At.on {d : Oct} (h : Oct.At w lo hi d) (e : Ext w w') (hh : hi ≤ w.heap.size) : Oct.At w' lo w'.heap.size d := Oct.At.imp h (rd_on e hh)
theorem Dev.At.low {d : Dev} (h : Dev.At w lo hi d) (hl : lo' ≤ lo) : Dev.At w lo' hi d := h.imp fun _ _ h => h.more hl (Nat.le_refl _)
theorem Oct.At.low {d : Oct} (h : Oct.At w lo hi d) (hl : lo' ≤ lo) : Oct.At w lo' hi d := Oct.At.imp h fun _ _ h => h.more hl (Nat.le_refl _)
end
end Go.Proofs.Ythjpjhcbefhpbaa
