/- Blocks that hold just certain values; worlds in which certain blocks are as they were; what reads in such blocks. Laws over whatever program. -/
import Derived.Test.YtpbbjmfhcgcldaaDoorLib
namespace Go.Proofs.YtpbbjmfhcgcldaaDoor
open Go.RowKit

theorem frozen_new {w w1 : World} {cs : Array Value} {t : TypeId} (h : w.alloc (.cells cs t) = w1) (j : Nat) : ∀ w', Ext w1 w' → w'.frozen? ⟨w.heap.size, j, none⟩ = false := fun w' e => by
  subst h
  rw [Below.frozen e (by simp)]
  have := heap_alloc_new w (.cells cs t)
  unfold World.frozen?
  rw [this]
  simp
/-- block b holds just these values, from its first cell on, and may be written -/
structure Bx (w : World) (b : Nat) (vs : List Value) : Prop where
  lt : b < w.heap.size
  cells : ∀ j u, vs[j]? = some u → w.cell? ⟨b, j, none⟩ = some u ∧ w.frozen? ⟨b, j, none⟩ = false
section
variable {w w' : World} {b : Nat} {vs : List Value}
theorem Bx.cell (h : Bx w b vs) (j : Nat) (u : Value) (hu : vs[j]? = some u) : w.cell? ⟨b, j, none⟩ = some u := (h.cells j u hu).1
theorem Bx.frozen (h : Bx w b vs) (j : Nat) (u : Value) (hu : vs[j]? = some u) : w.frozen? ⟨b, j, none⟩ = false := (h.cells j u hu).2
theorem Bx.ext (h : Bx w b vs) (e : Ext w w') : Bx w' b vs :=
  ⟨Nat.lt_of_lt_of_le h.lt e.size, fun j u hu => ⟨(Below.cell (p := ⟨b, j, none⟩) e h.lt).trans (h.cell j u hu), (Below.frozen (p := ⟨b, j, none⟩) e h.lt).trans (h.frozen j u hu)⟩⟩
theorem Bx.below {B : Nat} (h : Bx w b vs) (e : Below B w w') (hb : b < B) : Bx w' b vs :=
  ⟨Nat.lt_of_lt_of_le h.lt e.size, fun j u hu => ⟨(Below.cell (p := ⟨b, j, none⟩) e hb).trans (h.cell j u hu), (Below.frozen (p := ⟨b, j, none⟩) e hb).trans (h.frozen j u hu)⟩⟩
theorem Bx.grown {v : Value} (h : Bx w b vs) (hg : w.grownBy w' v.ownBlock) (hb : v.ownBlock ≠ some b) : Bx w' b vs := by
  have hk := hg.block b h.lt (fun e => hb e.symm)
  exact ⟨Nat.lt_of_lt_of_le h.lt hg.size, fun j u hu => ⟨(World.cell?_of_block hk).trans (h.cell j u hu), (World.frozen?_of_block hk).trans (h.frozen j u hu)⟩⟩
theorem Bx.new {cs : Array Value} {t : TypeId} (h : w.alloc (.cells cs t) = w') : Bx w' w.heap.size cs.toList := by
  subst h
  exact ⟨by simp, fun j u hu => ⟨cell_new w cs t j (by simpa using hu), frozen_new rfl j _ (Ext.refl _)⟩⟩
theorem Bx.set (h : Bx w b vs) (j : Nat) (v : Value) : Bx (w.setCell ⟨b, j, none⟩ v) b (vs.set j v) := by
  refine ⟨by simpa using h.lt, fun k u hu => ⟨?_, (World.frozen?_setCell _ _ _ _).trans ?_⟩⟩
  · rw [List.getElem?_set] at hu
    by_cases e : j = k
    · subst e
      simp only [if_true] at hu
      split at hu
      · rename_i hl
        cases hu
        exact World.cell?_setCell_same _ _ _ (h.cell j _ (List.getElem?_eq_getElem hl))
      · cases hu
    · rw [if_neg e] at hu
      exact (World.cell?_setCell_other _ _ _ _ (fun h' => e (by simp at h'))).trans (h.cell k u hu)
  · by_cases hl : k < vs.length
    · exact h.frozen k _ (List.getElem?_eq_getElem hl)
    · rw [List.getElem?_eq_none (by rw [List.length_set]; omega)] at hu; cases hu
theorem Bx.set_ne (h : Bx w b vs) {p : Addr} (hp : p.block ≠ b) (v : Value) : Bx (w.setCell p v) b vs :=
  ⟨by simpa using h.lt, fun j u hu => ⟨(World.cell?_setCell_other _ _ _ _ (fun e => hp (by rw [e]))).trans (h.cell j u hu), (World.frozen?_setCell _ _ _ _).trans (h.frozen j u hu)⟩⟩
/-- two cells written -/
theorem Bx.put2 {u0 u1 v0 v1 : Value} (h : Bx w b [u0, u1]) (hw : (w.setCell ⟨b, 0, none⟩ v0).setCell ⟨b, 1, none⟩ v1 = w') : Bx w' b [v0, v1] := by
  subst hw
  exact (h.set 0 v0).set 1 v1
end
/-- of the old blocks those that ok holds of are as they were -/
structure Keep (ok : Nat → Prop) (w w' : World) : Prop where
  os : w'.os = w.os
  tape : w'.tape = w.tape
  output : w'.output = w.output
  size : w.heap.size ≤ w'.heap.size
  block : ∀ k, k < w.heap.size → ok k → w'.heap[k]? = w.heap[k]?
section
variable {ok ok' : Nat → Prop} {a b w w' : World}
theorem Keep.refl (ok : Nat → Prop) (w : World) : Keep ok w w := ⟨rfl, rfl, rfl, Nat.le_refl _, fun _ _ _ => rfl⟩
theorem Keep.trans {c : World} (h : Keep ok a b) (k : Keep ok b c) : Keep ok a c :=
  ⟨k.os.trans h.os, k.tape.trans h.tape, k.output.trans h.output, Nat.le_trans h.size k.size, fun i hi ho => (k.block i (Nat.lt_of_lt_of_le hi h.size) ho).trans (h.block i hi ho)⟩
theorem Keep.mono (h : Keep ok w w') (hk : ∀ b, ok' b → ok b) : Keep ok' w w' := ⟨h.os, h.tape, h.output, h.size, fun k hk' ho => h.block k hk' (hk k ho)⟩
theorem Keep.of_ext (e : Ext w w') : Keep ok w w' := ⟨e.os, e.tape, e.output, e.size, fun k hk _ => e.block k hk⟩
theorem Keep.ext (h : Keep ok a w) (e : Ext w w') : Keep ok a w' := h.trans (Keep.of_ext e)
theorem Keep.setCell (h : Keep ok a w) {p : Addr} (hp : ¬ ok p.block) (u : Value) : Keep ok a (w.setCell p u) :=
  h.trans ⟨rfl, rfl, rfl, by simp, fun k _ ho => Below.heap_setCell _ _ _ _ (fun e => hp (e ▸ ho))⟩
theorem Keep.grown {row : Option Nat} (h : Keep ok a w) (hg : w.grownBy w' row) (hr : ∀ k, row = some k → ¬ ok k) : Keep ok a w' :=
  h.trans ⟨hg.os, hg.tape, hg.output, hg.size, fun k hk ho => hg.block k hk (fun e => hr k e.symm ho)⟩
theorem Keep.cell (h : Keep ok w w') {p : Addr} (hp : p.block < w.heap.size) (ho : ok p.block) : w'.cell? p = w.cell? p := World.cell?_of_block (w := w) (h.block p.block hp ho)
theorem Keep.frozen (h : Keep ok w w') {p : Addr} (hp : p.block < w.heap.size) (ho : ok p.block) : w'.frozen? p = w.frozen? p := World.frozen?_of_block (w := w) (h.block p.block hp ho)
theorem Keep.to_ext (h : Keep ok a w) (e : Ext b a) (hk : ∀ k, k < b.heap.size → ok k) : Ext b w :=
  ⟨h.os.trans e.os, h.tape.trans e.tape, h.output.trans e.output, Nat.le_trans e.size h.size, fun k hk' => (h.block k (Nat.lt_of_lt_of_le hk' e.size) (hk k hk')).trans (e.block k hk')⟩
theorem Bx.keep {g : Nat} {vs : List Value} (h : Bx w g vs) (k : Keep ok w w') (ho : ok g) : Bx w' g vs :=
  ⟨Nat.lt_of_lt_of_le h.lt k.size, fun j u hu => ⟨(k.cell (p := ⟨g, j, none⟩) h.lt ho).trans (h.cell j u hu), (k.frozen (p := ⟨g, j, none⟩) h.lt ho).trans (h.frozen j u hu)⟩⟩
theorem own_keep {base : Nat} {e : TypeId} {size n : Nat} {v : Value} {xs : List Value} (h : w.ownsRow base e size v n xs) (k : Keep ok w w') (ho : ∀ g, v.ownBlock = some g → ok g) : w'.ownsRow base e size v n xs := by
  refine ⟨h.1, ?_⟩
  rcases h.2 with h' | ⟨g, cap, cur, h1, h2, h3, h4⟩
  · exact .inl h'
  · have hlt := h.lt g (by rw [h1]; rfl)
    exact .inr ⟨g, cap, cur, h1, h2, (k.block g hlt.2 (ho g (by rw [h1]; rfl))).trans h3, h4⟩
theorem Rd.keep_ok {lo hi : Nat} {A : Option Addr} {cs : List Value} (h : Rd w lo hi A cs) (k : Keep ok w w') (hh : hi ≤ w.heap.size) (ho : ∀ b, lo ≤ b → b < hi → ok b) : Rd w' lo hi A cs :=
  fun hn => by
    obtain ⟨b, o, e, h1, h2, h3⟩ := h hn
    exact ⟨b, o, e, h1, h2, fun j u hu => (k.cell (p := ⟨b, o + j, none⟩) (Nat.lt_of_lt_of_le h2 hh) (ho b h1 h2)).trans (h3 j u hu)⟩
end
/-- cells that stand in a block of which ok holds -/
def RdK (w : World) (ok : Nat → Prop) (A : Option Addr) (cs : List Value) : Prop :=
  cs ≠ [] → ∃ b o, A = some ⟨b, o, none⟩ ∧ b < w.heap.size ∧ ok b ∧ ∀ j u, cs[j]? = some u → w.cell? ⟨b, o + j, none⟩ = some u
section
variable {ok ok' : Nat → Prop} {w w' : World} {A : Option Addr} {cs : List Value}
theorem RdK.nil : RdK w ok A [] := fun h => absurd rfl h
theorem RdK.mono (h : RdK w ok A cs) (hk : ∀ b, b < w.heap.size → ok b → ok' b) : RdK w ok' A cs := fun hn => by
  obtain ⟨b, o, e, h1, h2, h3⟩ := h hn
  exact ⟨b, o, e, h1, hk b h1 h2, h3⟩
theorem RdK.keep (h : RdK w ok A cs) (k : Keep ok' w w') (hk : ∀ b, ok b → ok' b) : RdK w' ok A cs := fun hn => by
  obtain ⟨b, o, e, h1, h2, h3⟩ := h hn
  exact ⟨b, o, e, Nat.lt_of_lt_of_le h1 k.size, h2, fun j u hu => (k.cell (p := ⟨b, o + j, none⟩) h1 (hk b h2)).trans (h3 j u hu)⟩
theorem RdK.ext (h : RdK w ok A cs) (e : Ext w w') : RdK w' ok A cs := h.keep (Keep.of_ext (ok := fun _ => True) e) fun _ _ => trivial
theorem RdK.rd {lo : Nat} (h : RdK w ok A cs) (hl : ∀ b, ok b → lo ≤ b) : Rd w lo w.heap.size A cs := fun hn => by
  obtain ⟨b, o, e, h1, h2, h3⟩ := h hn
  exact ⟨b, o, e, hl b h2, h1, h3⟩
theorem Rd.rdK {lo hi : Nat} (h : Rd w lo hi A cs) (hh : hi ≤ w.heap.size) : RdK w (fun b => lo ≤ b ∧ b < hi) A cs := fun hn => by
  obtain ⟨b, o, e, h1, h2, h3⟩ := h hn
  exact ⟨b, o, e, Nat.lt_of_lt_of_le h2 hh, ⟨h1, h2⟩, h3⟩
end
theorem Bx.putk2 {w w' : World} {b : Nat} {u0 u1 v0 v1 : Value} (h : Bx w b [u0, u1]) (hw : (w.setCell ⟨b, 0, none⟩ v0).setCell ⟨b, 1, none⟩ v1 = w') : Bx w' b [v0, v1] ∧ Keep (fun k => k ≠ b) w w' := by
  subst hw
  exact ⟨(h.set 0 v0).set 1 v1, ((Keep.refl (fun k => k ≠ b) w).setCell (p := ⟨b, 0, none⟩) (fun h => h rfl) v0).setCell (p := ⟨b, 1, none⟩) (fun h => h rfl) v1⟩
theorem Bx.putk3 {w w' : World} {b : Nat} {u0 u1 u2 v0 v1 v2 : Value} (h : Bx w b [u0, u1, u2]) (hw : ((w.setCell ⟨b, 0, none⟩ v0).setCell ⟨b, 1, none⟩ v1).setCell ⟨b, 2, none⟩ v2 = w') : Bx w' b [v0, v1, v2] ∧ Keep (fun k => k ≠ b) w w' := by
  subst hw
  exact ⟨((h.set 0 v0).set 1 v1).set 2 v2, (((Keep.refl (fun k => k ≠ b) w).setCell (p := ⟨b, 0, none⟩) (fun h => h rfl) v0).setCell (p := ⟨b, 1, none⟩) (fun h => h rfl) v1).setCell (p := ⟨b, 2, none⟩) (fun h => h rfl) v2⟩
theorem Bx.putk4 {w w' : World} {b : Nat} {u0 u1 u2 u3 v0 v1 v2 v3 : Value} (h : Bx w b [u0, u1, u2, u3]) (hw : (((w.setCell ⟨b, 0, none⟩ v0).setCell ⟨b, 1, none⟩ v1).setCell ⟨b, 2, none⟩ v2).setCell ⟨b, 3, none⟩ v3 = w') : Bx w' b [v0, v1, v2, v3] ∧ Keep (fun k => k ≠ b) w w' := by
  subst hw
  exact ⟨(((h.set 0 v0).set 1 v1).set 2 v2).set 3 v3, ((((Keep.refl (fun k => k ≠ b) w).setCell (p := ⟨b, 0, none⟩) (fun h => h rfl) v0).setCell (p := ⟨b, 1, none⟩) (fun h => h rfl) v1).setCell (p := ⟨b, 2, none⟩) (fun h => h rfl) v2).setCell (p := ⟨b, 3, none⟩) (fun h => h rfl) v3⟩
theorem Bx.putk9 {w w' : World} {b : Nat} {u0 u1 u2 u3 u4 u5 u6 u7 u8 v0 v1 v2 v3 v4 v5 v6 v7 v8 : Value} (h : Bx w b [u0, u1, u2, u3, u4, u5, u6, u7, u8]) (hw : ((((((((w.setCell ⟨b, 0, none⟩ v0).setCell ⟨b, 1, none⟩ v1).setCell ⟨b, 2, none⟩ v2).setCell ⟨b, 3, none⟩ v3).setCell ⟨b, 4, none⟩ v4).setCell ⟨b, 5, none⟩ v5).setCell ⟨b, 6, none⟩ v6).setCell ⟨b, 7, none⟩ v7).setCell ⟨b, 8, none⟩ v8 = w') : Bx w' b [v0, v1, v2, v3, v4, v5, v6, v7, v8] ∧ Keep (fun k => k ≠ b) w w' := by
  subst hw
  exact ⟨((((((((h.set 0 v0).set 1 v1).set 2 v2).set 3 v3).set 4 v4).set 5 v5).set 6 v6).set 7 v7).set 8 v8, (((((((((Keep.refl (fun k => k ≠ b) w).setCell (p := ⟨b, 0, none⟩) (fun h => h rfl) v0).setCell (p := ⟨b, 1, none⟩) (fun h => h rfl) v1).setCell (p := ⟨b, 2, none⟩) (fun h => h rfl) v2).setCell (p := ⟨b, 3, none⟩) (fun h => h rfl) v3).setCell (p := ⟨b, 4, none⟩) (fun h => h rfl) v4).setCell (p := ⟨b, 5, none⟩) (fun h => h rfl) v5).setCell (p := ⟨b, 6, none⟩) (fun h => h rfl) v6).setCell (p := ⟨b, 7, none⟩) (fun h => h rfl) v7).setCell (p := ⟨b, 8, none⟩) (fun h => h rfl) v8⟩
end Go.Proofs.YtpbbjmfhcgcldaaDoor
