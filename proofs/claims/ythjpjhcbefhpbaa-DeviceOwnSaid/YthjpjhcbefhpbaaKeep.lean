/- Worlds in which certain blocks are as they were; what reads in such blocks. Laws over whatever program. -/
import Derived.Test.YthjpjhcbefhpbaaBx
namespace Go.Proofs.Ythjpjhcbefhpbaa
open Go.RowKit

/-- of the old blocks those that ok holds of are as they were -/
structure Keep (ok : Nat → Prop) (w w' : World) : Prop where
  os : w'.os = w.os
  tape : w'.tape = w.tape
  output : w'.output = w.output
  size : w.heap.size ≤ w'.heap.size
  block : ∀ k, k < w.heap.size → ok k → w'.heap[k]? = w.heap[k]?
section
variable {ok ok' : Nat → Prop} {a b w w' : World}
theorem Keep.refl (ok : Nat → Prop) (w : World) : Keep ok w w := ⟨rfl, rfl, rfl, Nat.le_refl _, fun _ _ _ => rfl⟩
theorem Keep.trans {c : World} (h : Keep ok a b) (k : Keep ok b c) : Keep ok a c :=
  ⟨k.os.trans h.os, k.tape.trans h.tape, k.output.trans h.output, Nat.le_trans h.size k.size, fun i hi ho => (k.block i (Nat.lt_of_lt_of_le hi h.size) ho).trans (h.block i hi ho)⟩
theorem Keep.mono (h : Keep ok w w') (hk : ∀ b, ok' b → ok b) : Keep ok' w w' := ⟨h.os, h.tape, h.output, h.size, fun k hk' ho => h.block k hk' (hk k ho)⟩
theorem Keep.of_ext (e : Ext w w') : Keep ok w w' := ⟨e.os, e.tape, e.output, e.size, fun k hk _ => e.block k hk⟩
theorem Keep.ext (h : Keep ok a w) (e : Ext w w') : Keep ok a w' := h.trans (Keep.of_ext e)
theorem Keep.setCell (h : Keep ok a w) {p : Addr} (hp : ¬ ok p.block) (u : Value) : Keep ok a (w.setCell p u) :=
  h.trans ⟨rfl, rfl, rfl, by simp, fun k _ ho => Below.heap_setCell _ _ _ _ (fun e => hp (e ▸ ho))⟩
theorem Keep.grown {row : Option Nat} (h : Keep ok a w) (hg : w.grownBy w' row) (hr : ∀ k, row = some k → ¬ ok k) : Keep ok a w' :=
  h.trans ⟨hg.os, hg.tape, hg.output, hg.size, fun k hk ho => hg.block k hk (fun e => hr k e.symm ho)⟩
theorem Keep.cell (h : Keep ok w w') {p : Addr} (hp : p.block < w.heap.size) (ho : ok p.block) : w'.cell? p = w.cell? p := World.cell?_of_block (w := w) (h.block p.block hp ho)
theorem Keep.frozen (h : Keep ok w w') {p : Addr} (hp : p.block < w.heap.size) (ho : ok p.block) : w'.frozen? p = w.frozen? p := World.frozen?_of_block (w := w) (h.block p.block hp ho)
theorem Keep.to_ext (h : Keep ok a w) (e : Ext b a) (hk : ∀ k, k < b.heap.size → ok k) : Ext b w :=
  ⟨h.os.trans e.os, h.tape.trans e.tape, h.output.trans e.output, Nat.le_trans e.size h.size, fun k hk' => (h.block k (Nat.lt_of_lt_of_le hk' e.size) (hk k hk')).trans (e.block k hk')⟩
theorem Bx.keep {g : Nat} {vs : List Value} (h : Bx w g vs) (k : Keep ok w w') (ho : ok g) : Bx w' g vs :=
  ⟨Nat.lt_of_lt_of_le h.lt k.size, fun j u hu => ⟨(k.cell (p := ⟨g, j, none⟩) h.lt ho).trans (h.cell j u hu), (k.frozen (p := ⟨g, j, none⟩) h.lt ho).trans (h.frozen j u hu)⟩⟩
theorem own_keep {base : Nat} {e : TypeId} {size n : Nat} {v : Value} {xs : List Value} (h : w.ownsRow base e size v n xs) (k : Keep ok w w') (ho : ∀ g, v.ownBlock = some g → ok g) : w'.ownsRow base e size v n xs := by
  refine ⟨h.1, ?_⟩
  rcases h.2 with h' | ⟨g, cap, cur, h1, h2, h3, h4⟩
  · exact .inl h'
  · have hlt := h.lt g (by rw [h1]; rfl)
    exact .inr ⟨g, cap, cur, h1, h2, (k.block g hlt.2 (ho g (by rw [h1]; rfl))).trans h3, h4⟩
theorem Rd.keep_ok {lo hi : Nat} {A : Option Addr} {cs : List Value} (h : Rd w lo hi A cs) (k : Keep ok w w') (hh : hi ≤ w.heap.size) (ho : ∀ b, lo ≤ b → b < hi → ok b) : Rd w' lo hi A cs :=
  fun hn => by
    obtain ⟨b, o, e, h1, h2, h3⟩ := h hn
    exact ⟨b, o, e, h1, h2, fun j u hu => (k.cell (p := ⟨b, o + j, none⟩) (Nat.lt_of_lt_of_le h2 hh) (ho b h1 h2)).trans (h3 j u hu)⟩
theorem Dev.At.keep {lo hi : Nat} {d : Dev} (h : Dev.At w lo hi d) (k : Keep ok w w') (hh : hi ≤ w.heap.size) (ho : ∀ b, lo ≤ b → b < hi → ok b) : Dev.At w' lo hi d := h.imp fun _ _ hr => hr.keep_ok k hh ho
end
/-- cells that stand in a block of which ok holds -/
def RdK (w : World) (ok : Nat → Prop) (A : Option Addr) (cs : List Value) : Prop :=
  cs ≠ [] → ∃ b o, A = some ⟨b, o, none⟩ ∧ b < w.heap.size ∧ ok b ∧ ∀ j u, cs[j]? = some u → w.cell? ⟨b, o + j, none⟩ = some u
section
variable {ok ok' : Nat → Prop} {w w' : World} {A : Option Addr} {cs : List Value}
theorem RdK.nil : RdK w ok A [] := fun h => absurd rfl h
theorem RdK.mono (h : RdK w ok A cs) (hk : ∀ b, b < w.heap.size → ok b → ok' b) : RdK w ok' A cs := fun hn => by
  obtain ⟨b, o, e, h1, h2, h3⟩ := h hn
  exact ⟨b, o, e, h1, hk b h1 h2, h3⟩
theorem RdK.keep (h : RdK w ok A cs) (k : Keep ok' w w') (hk : ∀ b, ok b → ok' b) : RdK w' ok A cs := fun hn => by
  obtain ⟨b, o, e, h1, h2, h3⟩ := h hn
  exact ⟨b, o, e, Nat.lt_of_lt_of_le h1 k.size, h2, fun j u hu => (k.cell (p := ⟨b, o + j, none⟩) h1 (hk b h2)).trans (h3 j u hu)⟩
theorem RdK.ext (h : RdK w ok A cs) (e : Ext w w') : RdK w' ok A cs := h.keep (Keep.of_ext (ok := fun _ => True) e) fun _ _ => trivial
theorem RdK.rd {lo : Nat} (h : RdK w ok A cs) (hl : ∀ b, ok b → lo ≤ b) : Rd w lo w.heap.size A cs := fun hn => by
  obtain ⟨b, o, e, h1, h2, h3⟩ := h hn
  exact ⟨b, o, e, hl b h2, h1, h3⟩
theorem Rd.rdK {lo hi : Nat} (h : Rd w lo hi A cs) (hh : hi ≤ w.heap.size) : RdK w (fun b => lo ≤ b ∧ b < hi) A cs := fun hn => by
  obtain ⟨b, o, e, h1, h2, h3⟩ := h hn
  exact ⟨b, o, e, Nat.lt_of_lt_of_le h2 hh, ⟨h1, h2⟩, h3⟩
end
/-- octets that stand in a block of which ok holds -/
structure Oct.K (w : World) (ok : Nat → Prop) (s : Oct) : Prop where
  len : s.n = s.xs.length
  le : s.n ≤ s.c
  cap : s.c ≤ maxLen
  rd : RdK w ok s.A (bytes s.xs)
structure Ac.K (w : World) (ok : Nat → Prop) (x : Ac) : Prop where
  p0 : -9223372036854775808 ≤ x.pos
  p1 : x.pos ≤ 9223372036854775807
  data : Oct.K w ok x.data
section
variable {ok ok' : Nat → Prop} {w w' : World}
theorem Oct.K.mono {s : Oct} (h : Oct.K w ok s) (hk : ∀ b, b < w.heap.size → ok b → ok' b) : Oct.K w ok' s := ⟨h.len, h.le, h.cap, h.rd.mono hk⟩
theorem Oct.K.keep {s : Oct} (h : Oct.K w ok s) (k : Keep ok' w w') (hk : ∀ b, ok b → ok' b) : Oct.K w' ok s := ⟨h.len, h.le, h.cap, h.rd.keep k hk⟩
theorem Oct.K.ext {s : Oct} (h : Oct.K w ok s) (e : Ext w w') : Oct.K w' ok s := ⟨h.len, h.le, h.cap, h.rd.ext e⟩
theorem Oct.K.at_ {lo : Nat} {s : Oct} (h : Oct.K w ok s) (hl : ∀ b, ok b → lo ≤ b) : Oct.At w lo w.heap.size s := ⟨h.len, h.le, h.cap, by rw [octs_flat]; exact h.rd.rd hl, fun _ _ => trivial⟩
theorem Oct.At.k {lo hi : Nat} {s : Oct} (h : Oct.At w lo hi s) (hh : hi ≤ w.heap.size) : Oct.K w (fun b => lo ≤ b ∧ b < hi) s := ⟨h.len, h.le, h.cap, (Oct.At.rdb h).rdK hh⟩
theorem Ac.K.mono {s : Ac} (h : Ac.K w ok s) (hk : ∀ b, b < w.heap.size → ok b → ok' b) : Ac.K w ok' s := ⟨h.p0, h.p1, h.data.mono hk⟩
theorem Ac.K.keep {s : Ac} (h : Ac.K w ok s) (k : Keep ok' w w') (hk : ∀ b, ok b → ok' b) : Ac.K w' ok s := ⟨h.p0, h.p1, h.data.keep k hk⟩
theorem Ac.K.ext {s : Ac} (h : Ac.K w ok s) (e : Ext w w') : Ac.K w' ok s := ⟨h.p0, h.p1, h.data.ext e⟩
theorem Ac.K.at_ {lo : Nat} {s : Ac} (h : Ac.K w ok s) (hl : ∀ b, ok b → lo ≤ b) : Ac.At w lo w.heap.size s := ⟨h.p0, h.p1, h.data.at_ hl⟩
theorem Ac.At.k {lo hi : Nat} {s : Ac} (h : Ac.At w lo hi s) (hh : hi ≤ w.heap.size) : Ac.K w (fun b => lo ≤ b ∧ b < hi) s := ⟨h.p0, h.p1, Oct.At.k h.data hh⟩
end
end Go.Proofs.Ythjpjhcbefhpbaa
