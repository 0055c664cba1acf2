/- Arguments that come in: a list of texts, octets: as lists. -/
import Derived.Test.YthjpjhcbefhpbaaRow
import Derived.SliceStrings
namespace Go.Proofs.Ythjpjhcbefhpbaa
open Go.RowKit Go.ChangeShapes Go.WideShapes Go.Deep Go.Joins
section
variable {H : Type} {enc : TypeId × Value → H} {P : Program} {w : World} {spare : Nat → Bool} {held : Bool}
theorem plain_of_cells {w : World} {a : Addr} {cs : List Value} (h : ∀ i u, cs[i]? = some u → w.cell? (a.add i) = some u) : Rd w 0 w.heap.size (some a) cs := fun hn => by
  have hl : 0 < cs.length := by
    rcases Nat.eq_zero_or_pos cs.length with h0 | h0
    · exact absurd (List.eq_nil_of_length_eq_zero h0) hn
    · exact h0
  have h0 := h 0 _ (List.getElem?_eq_getElem hl)
  have h0' : w.cell? a = some (cs[0]'hl) := by simpa [Addr.add] using h0
  have ha := addr_plain h0 ⟨_, h0'⟩
  refine ⟨a.block, a.off, by rw [← ha], Nat.zero_le _, block_lt_of_cell h0', fun j u hj => ?_⟩
  have := h j u hj
  rw [ha, add_lit] at this
  exact this
/-- a list of texts that came in -/
theorem open_texts {r : Reach} {b0 : Nat} {t e : TypeId} (ht : P.underlying t = some (.slice e)) (he : P.underlying e = some .string) (hc : P.cellsOf e = 1) {v : Value} {d : DataW H} {p : List MemPlace} (hv : Value.okWide P w r b0 t v) (h : DataW.Trod enc P w 0 spare held t v d p) :
    ∃ (A : Option Addr) (n c : Nat) (l : List ByteArray), v = .slice A n c ∧ n = l.length ∧ n ≤ c ∧ c ≤ maxLen ∧ Rd w 0 w.heap.size A (l.map Value.string) ∧ (∀ s ∈ l, s.size ≤ maxLen) ∧
      ((n = 0 ∧ l = []) ∨ ∃ elems sp, d = .slice elems sp ∧ n ≤ elems.length + sp.length ∧ ∀ s ∈ l, DataW.lit (.string s.data.toList) ∈ elems) := by
  obtain ⟨A, n, c, rfl⟩ := okWide_slice ht hv
  obtain ⟨fuel, hf⟩ := h
  rcases open_strings ht he hc (by simpa [Value.cells] using hf) with ⟨hcs, _⟩ | ⟨a, len, cap, ss, hcs, _, hl, hm, hz, hx, hcell, hws⟩
  · simp only [List.cons.injEq, Value.slice.injEq, and_true] at hcs
    obtain ⟨rfl, rfl, rfl⟩ := hcs
    exact ⟨none, 0, 0, [], rfl, rfl, Nat.le_refl _, Nat.zero_le _, Rd.nil, fun _ h => by simp at h, .inl ⟨rfl, rfl⟩⟩
  · simp only [List.cons.injEq, Value.slice.injEq, and_true] at hcs
    obtain ⟨rfl, rfl, rfl⟩ := hcs
    have hle : n ≤ ss.length := by rw [hz]; split <;> omega
    refine ⟨some a, n, c, ss.take n, rfl, by rw [List.length_take]; omega, hl, hm, plain_of_cells fun i u hi => ?_, fun s hs => hws s (List.mem_of_mem_take hs), .inr ⟨_, _, (Prod.mk.inj hx).1, by simp [strs]; omega, fun s hs => ?_⟩⟩
    · rw [List.getElem?_map] at hi
      have hin : i < n := by
        rcases Nat.lt_or_ge i n with h' | h'
        · exact h'
        · rw [List.getElem?_eq_none (by rw [List.length_take]; omega)] at hi; cases hi
      rw [List.getElem?_take_of_lt hin, List.getElem?_eq_getElem (by omega)] at hi
      rw [hcell i (by omega)]
      simp only [Option.map_some] at hi
      rw [← hi]
      simp [List.getD, List.getElem?_eq_getElem (show i < ss.length by omega)]
    · simp only [strs, List.mem_map]
      exact ⟨s, hs, rfl⟩
/-- octets that came in -/
theorem open_octets {r : Reach} {b0 : Nat} {t e : TypeId} (ht : P.underlying t = some (.slice e)) (he : P.underlying e = some (.int .u8)) (hc : P.cellsOf e = 1) {v : Value} {d : DataW H} {p : List MemPlace} (hv : Value.okWide P w r b0 t v) (h : DataW.Trod enc P w 0 spare held t v d p) :
    ∃ (A : Option Addr) (n c : Nat) (l : List UInt8), v = .slice A n c ∧ n = l.length ∧ n ≤ c ∧ c ≤ maxLen ∧ Rd w 0 w.heap.size A (bytes l) ∧
      (n = 0 ∨ ∃ elems sp, d = .slice elems sp ∧ n ≤ elems.length + sp.length) := by
  obtain ⟨A, n, c, rfl⟩ := okWide_slice ht hv
  obtain ⟨fuel, hf⟩ := h
  rcases open_ints ht he hc (by simpa [Value.cells] using hf) with ⟨hcs, _⟩ | ⟨a, len, cap, zs, hcs, _, hl, hm, hz, hx, hcell, hws⟩
  · simp only [List.cons.injEq, Value.slice.injEq, and_true] at hcs
    obtain ⟨rfl, rfl, rfl⟩ := hcs
    exact ⟨none, 0, 0, [], rfl, rfl, Nat.le_refl _, Nat.zero_le _, Rd.nil, .inl rfl⟩
  · simp only [List.cons.injEq, Value.slice.injEq, and_true] at hcs
    obtain ⟨rfl, rfl, rfl⟩ := hcs
    have hle : n ≤ zs.length := by rw [hz]; split <;> omega
    refine ⟨some a, n, c, (zs.take n).map (fun z => UInt8.ofNat z.toNat), rfl, by simp; omega, hl, hm, plain_of_cells fun i u hi => ?_, .inr ⟨_, _, (Prod.mk.inj hx).1, by simp [lits]; omega⟩⟩
    rw [bytes, List.map_map, List.getElem?_map] at hi
    have hin : i < n := by
      rcases Nat.lt_or_ge i n with h' | h'
      · exact h'
      · rw [List.getElem?_eq_none (by rw [List.length_take]; omega)] at hi; cases hi
    rw [List.getElem?_take_of_lt hin, List.getElem?_eq_getElem (by omega)] at hi
    simp only [Option.map_some, Function.comp] at hi
    rw [hcell i (by omega), ← hi]
    have hwf := hws (zs[i]'(by omega)) (List.getElem_mem _)
    have hb : 0 ≤ zs[i]'(by omega) ∧ zs[i]'(by omega) ≤ 255 := by simpa [Lit.wf, IntKind.min, IntKind.max, IntKind.signed, IntKind.bits] using hwf
    rw [List.getD, List.getElem?_eq_getElem (show i < zs.length by omega), Option.getD_some, UInt8.toNat_ofNat', Nat.mod_eq_of_lt (by omega)]
    congr 2
    omega
end
end Go.Proofs.Ythjpjhcbefhpbaa
