/- A struct's cells in a block of their own, which may be written. -/
import Derived.Test.YthjpjhcbefhpbaaActs
namespace Go.Proofs.Ythjpjhcbefhpbaa
open Go.RowKit

/-- block b holds just these values, from its first cell on, and may be written -/
structure Bx (w : World) (b : Nat) (vs : List Value) : Prop where
  lt : b < w.heap.size
  cells : ∀ j u, vs[j]? = some u → w.cell? ⟨b, j, none⟩ = some u ∧ w.frozen? ⟨b, j, none⟩ = false
section
variable {w w' : World} {b : Nat} {vs : List Value}
theorem Bx.cell (h : Bx w b vs) (j : Nat) (u : Value) (hu : vs[j]? = some u) : w.cell? ⟨b, j, none⟩ = some u := (h.cells j u hu).1
theorem Bx.frozen (h : Bx w b vs) (j : Nat) (u : Value) (hu : vs[j]? = some u) : w.frozen? ⟨b, j, none⟩ = false := (h.cells j u hu).2
theorem Bx.ext (h : Bx w b vs) (e : Ext w w') : Bx w' b vs :=
  ⟨Nat.lt_of_lt_of_le h.lt e.size, fun j u hu => ⟨(Below.cell (p := ⟨b, j, none⟩) e h.lt).trans (h.cell j u hu), (Below.frozen (p := ⟨b, j, none⟩) e h.lt).trans (h.frozen j u hu)⟩⟩
theorem Bx.below {B : Nat} (h : Bx w b vs) (e : Below B w w') (hb : b < B) : Bx w' b vs :=
  ⟨Nat.lt_of_lt_of_le h.lt e.size, fun j u hu => ⟨(Below.cell (p := ⟨b, j, none⟩) e hb).trans (h.cell j u hu), (Below.frozen (p := ⟨b, j, none⟩) e hb).trans (h.frozen j u hu)⟩⟩
theorem Bx.grown {v : Value} (h : Bx w b vs) (hg : w.grownBy w' v.ownBlock) (hb : v.ownBlock ≠ some b) : Bx w' b vs := by
  have hk := hg.block b h.lt (fun e => hb e.symm)
  exact ⟨Nat.lt_of_lt_of_le h.lt hg.size, fun j u hu => ⟨(World.cell?_of_block hk).trans (h.cell j u hu), (World.frozen?_of_block hk).trans (h.frozen j u hu)⟩⟩
theorem Bx.new {cs : Array Value} {t : TypeId} (h : w.alloc (.cells cs t) = w') : Bx w' w.heap.size cs.toList := by
  subst h
  exact ⟨by simp, fun j u hu => ⟨cell_new w cs t j (by simpa using hu), frozen_new rfl j _ (Ext.refl _)⟩⟩
theorem Bx.set (h : Bx w b vs) (j : Nat) (v : Value) : Bx (w.setCell ⟨b, j, none⟩ v) b (vs.set j v) := by
  refine ⟨by simpa using h.lt, fun k u hu => ⟨?_, (World.frozen?_setCell _ _ _ _).trans ?_⟩⟩
  · rw [List.getElem?_set] at hu
    by_cases e : j = k
    · subst e
      simp only [if_true] at hu
      split at hu
      · rename_i hl
        cases hu
        exact World.cell?_setCell_same _ _ _ (h.cell j _ (List.getElem?_eq_getElem hl))
      · cases hu
    · rw [if_neg e] at hu
      exact (World.cell?_setCell_other _ _ _ _ (fun h' => e (by simp at h'))).trans (h.cell k u hu)
  · by_cases hl : k < vs.length
    · exact h.frozen k _ (List.getElem?_eq_getElem hl)
    · rw [List.getElem?_eq_none (by rw [List.length_set]; omega)] at hu; cases hu
theorem Bx.set_ne (h : Bx w b vs) {p : Addr} (hp : p.block ≠ b) (v : Value) : Bx (w.setCell p v) b vs :=
  ⟨by simpa using h.lt, fun j u hu => ⟨(World.cell?_setCell_other _ _ _ _ (fun e => hp (by rw [e]))).trans (h.cell j u hu), (World.frozen?_setCell _ _ _ _).trans (h.frozen j u hu)⟩⟩
/-- two cells written -/
theorem Bx.put2 {u0 u1 v0 v1 : Value} (h : Bx w b [u0, u1]) (hw : (w.setCell ⟨b, 0, none⟩ v0).setCell ⟨b, 1, none⟩ v1 = w') : Bx w' b [v0, v1] := by
  subst hw
  exact (h.set 0 v0).set 1 v1
end
end Go.Proofs.Ythjpjhcbefhpbaa
