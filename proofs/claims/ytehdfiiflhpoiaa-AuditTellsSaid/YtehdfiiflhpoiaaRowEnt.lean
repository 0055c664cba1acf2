/- A log that comes in, as a list of entries; an entry that comes in. -/
import Derived.Test.YtehdfiiflhpoiaaRow
import Derived.Test.YtehdfiiflhpoiaaEnt
namespace Go.Proofs.Ytehdfiiflhpoiaa
open Go.RowKit Go.ChangeShapes Go.WideShapes Go.Deep Go.Joins
open Go.ChangeMaps (open_string shut_string)

theorem wf_i64_bd {n : Int} (h : (Lit.int .i64 n).wf = true) : -9223372036854775808 ≤ n ∧ n ≤ 9223372036854775807 := by
  have h1 : IntKind.i64.min = -9223372036854775808 := rfl
  have h2 : IntKind.i64.max = 9223372036854775807 := rfl
  simp only [Lit.wf, Bool.and_eq_true, decide_eq_true_eq] at h
  omega

section
variable {H : Type} {enc : TypeId × Value → H} {w : World}
theorem ent_fields : ∃ f0 f1 f2 f3 : Field, Try.prog.underlying 25 = some (.struct #[f0, f1, f2, f3]) ∧ f0.type = 9 ∧ f1.type = 3 ∧ f2.type = 9 ∧ f3.type = 23 ∧ oneCellFields Try.prog #[f0, f1, f2, f3] = true :=
  ⟨_, _, _, _, Try.underlying25, rfl, rfl, rfl, rfl, by kernel_rfl⟩
theorem ent_cells : Try.prog.cellsOf 25 = 4 := by kernel_rfl

theorem open_ents {spare : Nat → Bool} {held : Bool} {v : Value} {d : DataW H} {p : List MemPlace} {r : Reach} {b0 : Nat} (hv : Value.okWide Try.prog w r b0 22 v) (h : DataW.Trod enc Try.prog w 0 spare held 22 v d p) :
    ∃ (A : Option Addr) (n c : Nat) (xs : List Ent), v = .slice A n c ∧ n = xs.length ∧ n ≤ c ∧ Rd w 0 w.heap.size A (ents xs) ∧ (∀ x ∈ xs, x.wf) ∧
      ((n = 0 ∧ xs = []) ∨ ∃ elems sp, d = .slice elems sp ∧ n ≤ elems.length + sp.length ∧ ∀ x ∈ xs, ∃ k e, DataW.agg [.lit (.string x.user.data.toList), k, .lit (.string x.path.data.toList), e] ∈ elems) := by
  obtain ⟨f0, f1, f2, f3, hu, t0, t1, t2, t3, hone⟩ := ent_fields
  obtain ⟨A, n, c, rfl⟩ := okWide_slice Try.underlying22 hv
  obtain ⟨fuel, hf⟩ := h
  rcases open_slice_fields Try.underlying22 hu hone ent_cells (by simpa [Value.cells] using hf) with ⟨hcs, _⟩ | ⟨a, len, cap, m, D, Pl, hcs, _, hle, _, hm, hx, hall⟩
  · simp only [List.cons.injEq, Value.slice.injEq, and_true] at hcs
    obtain ⟨rfl, rfl, rfl⟩ := hcs
    exact ⟨none, 0, 0, [], rfl, rfl, Nat.le_refl _, Rd.nil, fun _ h => by simp at h, .inl ⟨rfl, rfl⟩⟩
  · simp only [List.cons.injEq, Value.slice.injEq, and_true] at hcs
    obtain ⟨rfl, rfl, rfl⟩ := hcs
    have hnm : n ≤ m := by rw [hm]; split <;> omega
    have key : ∀ i, ∃ x : Ent, i < n → x.wf ∧ (∀ r, r < 4 → ∃ u, x.cells[r]? = some u ∧ w.cell? (a.add (i * 4 + r)) = some u) ∧ ∃ k e, D i = .agg [.lit (.string x.user.data.toList), k, .lit (.string x.path.data.toList), e] := by
      intro i
      by_cases hi : i < n
      · obtain ⟨ys, k, hD, _, hyl, hg⟩ := hall i (by omega)
        obtain ⟨v0, y0, c0, q0, g0⟩ := hg 0 f0 rfl
        obtain ⟨v1, y1, c1, q1, g1⟩ := hg 1 f1 rfl
        obtain ⟨v2, y2, c2, q2, g2⟩ := hg 2 f2 rfl
        obtain ⟨v3, y3, c3, q3, g3⟩ := hg 3 f3 rfl
        rw [t0] at g0
        rw [t1] at g1
        rw [t2] at g2
        rw [t3] at g3
        obtain ⟨s0, e0, z0⟩ := DataW.trod_string Try.underlying9 g0
        obtain ⟨s1, e1, _, w1⟩ := DataW.trod_int Try.underlying3 g1
        obtain ⟨s2, e2, z2⟩ := DataW.trod_string Try.underlying9 g2
        obtain ⟨s3, e3, _, w3⟩ := DataW.trod_int Try.underlying23 g3
        simp at e0 e1 e2 e3
        subst e0 e1 e2 e3
        refine ⟨⟨s0, s1, s2, s3⟩, fun _ => ⟨⟨(wf_i64_bd w1).1, (wf_i64_bd w1).2, (wf_i64_bd w3).1, (wf_i64_bd w3).2⟩, fun r hr => ?_, y1.1, y3.1, ?_⟩⟩
        · match r, hr with
          | 0, _ => exact ⟨_, rfl, c0⟩
          | 1, _ => exact ⟨_, rfl, c1⟩
          | 2, _ => exact ⟨_, rfl, c2⟩
          | 3, _ => exact ⟨_, rfl, c3⟩
        · obtain ⟨rfl, _⟩ := z0
          obtain ⟨rfl, _⟩ := z2
          rw [hD]
          match ys, hyl with
          | [a0, a1, a2, a3], _ =>
            simp at q0 q1 q2 q3
            subst q0 q1 q2 q3
            rfl
      · exact ⟨⟨.empty, 0, .empty, 0⟩, fun h => absurd h hi⟩
    obtain ⟨g, hgk⟩ := Classical.axiomOfChoice key
    refine ⟨some a, n, c, (List.range n).map g, rfl, by simp, hle, fun hne => ?_, ?_, .inr ⟨_, _, (Prod.mk.inj hx).1, by simp, fun x hx' => ?_⟩⟩
    · have hn : 0 < n := by
        rcases Nat.eq_zero_or_pos n with h0 | h0
        · subst h0; exact absurd rfl hne
        · exact h0
      obtain ⟨u0, _, hu0⟩ := (hgk 0 hn).2.1 0 (by omega)
      have hu0' : w.cell? a = some u0 := by simpa [Addr.add] using hu0
      have ha := addr_plain (n := 0) (v := u0) (by simpa [Addr.add] using hu0) ⟨u0, hu0'⟩
      refine ⟨a.block, a.off, by rw [← ha], Nat.zero_le _, block_lt_of_cell hu0', fun j u hj => ?_⟩
      have hjl : j < n * 4 := by
        have := (List.getElem?_eq_some_iff.1 hj).1
        rw [ents_length] at this
        simpa using this
      have hk : j / 4 < n := by omega
      have hj4 : j = j / 4 * 4 + j % 4 := by omega
      rw [hj4, ents_get _ _ _ (by omega) (by simpa using hk)] at hj
      simp only [List.getElem_map, List.getElem_range] at hj
      obtain ⟨u', hu', hc'⟩ := (hgk (j / 4) hk).2.1 (j % 4) (by omega)
      rw [hu'] at hj
      cases hj
      rw [ha, add_lit, ← hj4] at hc'
      exact hc'
    · intro x hx'
      simp only [List.mem_map, List.mem_range] at hx'
      obtain ⟨i, hi, rfl⟩ := hx'
      exact (hgk i hi).1
    · simp only [List.mem_map, List.mem_range] at hx'
      obtain ⟨i, hi, rfl⟩ := hx'
      obtain ⟨k, e, he⟩ := (hgk i hi).2.2
      exact ⟨k, e, by rw [← he]; exact List.mem_map_of_mem (List.mem_range.2 hi)⟩

theorem weights_mem_all {P : Program} {e : TypeId} : ∀ {l : List (DataW H)} {d : DataW H}, d ∈ l → ∀ n ∈ d.weights P e, n ∈ DataW.weightsAll P e l
  | x :: l, d, h, n, hn => by
    simp only [DataW.weightsAll, List.mem_append]
    rcases List.mem_cons.1 h with rfl | h
    · exact .inl hn
    · exact .inr (weights_mem_all h n hn)
/-- within the form's reach each entry's texts are short -/
theorem ents_reach {ts : List TypeId} {ds : List (DataW H)} (h : (DataW.weightsEach Try.prog ts ds).all (· ≤ reachBytes) = true) {j : Nat} {elems sp : List (DataW H)} (ht : ts[j]? = some 22) (hd : ds[j]? = some (.slice elems sp)) {a b : List UInt8} {k e : DataW H}
    (hm : DataW.agg [.lit (.string a), k, .lit (.string b), e] ∈ elems) : a.length ≤ reachBytes ∧ b.length ≤ reachBytes := by
  obtain ⟨f0, f1, f2, f3, hu, t0, t1, t2, t3, hone⟩ := ent_fields
  have key : ∀ n ∈ (DataW.agg [.lit (.string a), k, .lit (.string b), e]).weights Try.prog 25, n ≤ reachBytes := fun n hn => by
    have h1 := weights_mem_all hm n hn
    have := List.all_eq_true.1 h _ (DataW.weights_mem_each ht hd n (by simp only [DataW.weights, Try.underlying22, List.mem_cons, List.mem_append]; exact .inr (.inl h1)))
    simpa using this
  constructor
  · exact key _ (by simp [DataW.weights, hu, DataW.weightsEach])
  · exact key _ (by simp [DataW.weights, hu, DataW.weightsEach])

theorem ent_reach {ts : List TypeId} {ds : List (DataW H)} (h : (DataW.weightsEach Try.prog ts ds).all (· ≤ reachBytes) = true) {j : Nat} {a b : List UInt8} {k e : DataW H} (ht : ts[j]? = some 25) (hd : ds[j]? = some (DataW.agg [.lit (.string a), k, .lit (.string b), e])) : a.length ≤ reachBytes ∧ b.length ≤ reachBytes := by
  obtain ⟨f0, f1, f2, f3, hu, t0, t1, t2, t3, hone⟩ := ent_fields
  have key : ∀ n ∈ (DataW.agg [.lit (.string a), k, .lit (.string b), e]).weights Try.prog 25, n ≤ reachBytes := fun n hn => by
    have := List.all_eq_true.1 h _ (DataW.weights_mem_each ht hd n hn)
    simpa using this
  constructor
  · exact key _ (by simp [DataW.weights, hu, DataW.weightsEach])
  · exact key _ (by simp [DataW.weights, hu, DataW.weightsEach])

theorem open_ent {r : Reach} {b0 : Nat} {spare : Nat → Bool} {held : Bool} {v : Value} {d : DataW H} {p : List MemPlace} (hv : Value.okWide Try.prog w r b0 25 v) (h : DataW.Trod enc Try.prog w 0 spare held 25 v d p) :
    ∃ x : Ent, v = .agg #[.string x.user, .int .i64 x.kind, .string x.path, .int .i64 x.err] ∧ x.wf ∧ ∃ k e, d = .agg [.lit (.string x.user.data.toList), k, .lit (.string x.path.data.toList), e] := by
  obtain ⟨f0, f1, f2, f3, hu, t0, t1, t2, t3, hone⟩ := ent_fields
  obtain ⟨v0, v1, v2, v3, y0, y1, y2, y3, n, rfl, hd, _, g0, g1, g2, g3⟩ := open_agg4 hu hone ent_cells hv h
  rw [t0] at g0
  rw [t1] at g1
  rw [t2] at g2
  rw [t3] at g3
  obtain ⟨s0, e0, z0⟩ := DataW.trod_string Try.underlying9 g0
  obtain ⟨s1, e1, _, w1⟩ := DataW.trod_int Try.underlying3 g1
  obtain ⟨s2, e2, z2⟩ := DataW.trod_string Try.underlying9 g2
  obtain ⟨s3, e3, _, w3⟩ := DataW.trod_int Try.underlying23 g3
  simp at e0 e1 e2 e3
  subst e0 e1 e2 e3
  refine ⟨⟨s0, s1, s2, s3⟩, rfl, ⟨(wf_i64_bd w1).1, (wf_i64_bd w1).2, (wf_i64_bd w3).1, (wf_i64_bd w3).2⟩, y1.1, y3.1, ?_⟩
  obtain ⟨rfl, _⟩ := z0
  obtain ⟨rfl, _⟩ := z2
  exact hd
end
end Go.Proofs.Ytehdfiiflhpoiaa
