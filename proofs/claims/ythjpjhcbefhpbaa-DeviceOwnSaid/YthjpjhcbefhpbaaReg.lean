/- Steps through a region that draws its order, operation by operation: laws over whatever program. -/
import Derived.Test.YthjpjhcbefhpbaaLib
namespace Go.Proofs.Ythjpjhcbefhpbaa
open Go.RowKit
section
variable {P : Program} {l rest : List Oper} {Q : Exit → Act → World → Prop} {md : Region.Mode} {S : World → Prop} {oi : Oper} {fuel : Nat} {listed : Array Bool} {a : Act} {w : World}
theorem at_drop {i : Nat} (hn : l.drop i = oi :: rest) : l.toArray[i]? = some oi := by
  have : (l.drop i)[0]? = some oi := by rw [hn]; rfl
  simpa using this
theorem takeL (i : Nat) {v : Value} (hn : l.drop i = oi :: rest) (hs : Region.noSelect l.toArray = true) (hf : Region.free md l.toArray listed i = true) (hr : (Region.ready md l.toArray listed).contains i = true)
    (hQ : ∀ c a w, Q (.panic c) (a.put oi.dst v) w → Q (.panic c) a w) (hw : Region.wanted oi (yielded l.toArray a.tmps) = true) (hrun : ∀ w, S w → (execOp a.eval oi).run P w = .ok (.value v) w) (hS : S w)
    (h : wpAnyH P md l.toArray Q S fuel (listed.setIfInBounds i true) (a.put oi.dst v) w) : wpAnyH P md l.toArray Q S (fuel + 1) listed a w :=
  wpAnyH_take (at_drop hn) hs hf hr hQ (Or.inl ⟨hw, hrun⟩) hS h
theorem skipL (i : Nat) (hn : l.drop i = oi :: rest) (hs : Region.noSelect l.toArray = true) (hf : Region.free md l.toArray listed i = true) (hr : (Region.ready md l.toArray listed).contains i = true)
    (hQ : ∀ c a w, Q (.panic c) (a.put oi.dst undef) w → Q (.panic c) a w) (hw : Region.wanted oi (yielded l.toArray a.tmps) = false) (hS : S w)
    (h : wpAnyH P md l.toArray Q S fuel (listed.setIfInBounds i true) (a.put oi.dst undef) w) : wpAnyH P md l.toArray Q S (fuel + 1) listed a w :=
  wpAnyH_take (at_drop hn) hs hf hr hQ (Or.inr ⟨hw, rfl⟩) hS h
theorem oneL (i : Nat) (hn : l.drop i = oi :: rest) (hr : Region.ready md l.toArray listed = [i]) (hw : Region.wanted oi (yielded l.toArray a.tmps) = true)
    (h : ∀ K' : Act → World → Prop, Shut (∀ a w, S w → (S w → wpAnyH P md l.toArray Q S fuel (listed.setIfInBounds i true) a w) → K' a w) → Oper.wp P oi a w K' Q) : wpAnyH P md l.toArray Q S (fuel + 1) listed a w :=
  wpAnyH_ready hr (by simp) (AllReadyH.cons (at_drop hn) (fun K' hK => by rw [if_pos hw]; exact h K' hK) AllReadyH.nil)
end

/-! Steps through a region whose last operation may write what the region reads: S is asked behind each operation but the last. -/
section
variable {P : Program} {ops : Array Oper} {Q : Exit → Act → World → Prop} {md : Region.Mode} {S : World → Prop}
/-- some operation has not come up -/
def More (ops : Array Oper) (listed : Array Bool) : Prop := ∃ k, k < ops.size ∧ listed.getD k true = false
def wpAnyE (P : Program) (md : Region.Mode) (ops : Array Oper) (Q : Exit → Act → World → Prop) (S : World → Prop) : Nat → Array Bool → Act → World → Prop
  | 0, listed, a, w => Region.ready md ops listed = [] ∧ Q .normal a w
  | fuel + 1, listed, a, w =>
    (Region.ready md ops listed = [] → Q .normal a w) ∧
    ∀ i ∈ Region.ready md ops listed, wpOp P ops Q i (fun a' w' => (More ops (listed.setIfInBounds i true) → S w') ∧ wpAnyE P md ops Q S fuel (listed.setIfInBounds i true) a' w') a w
theorem wpAny_of_E : ∀ (fuel : Nat) (listed : Array Bool) (a : Act) (w : World), wpAnyE P md ops Q S fuel listed a w → wpAny P md ops Q fuel listed a w
  | 0, _, _, _, h => h
  | fuel + 1, _, _, _, h => ⟨h.1, fun i hi => wpOp_mono (fun a' w' h' => wpAny_of_E fuel _ a' w' h'.2) (h.2 i hi)⟩
/-- an operation p that has not come up waits for i -/
def Waits (md : Region.Mode) (ops : Array Oper) (listed : Array Bool) (i : Nat) : Prop :=
  ∃ p op, ops[p]? = some op ∧ listed.getD p true = false ∧ ∃ e ∈ op.after, Region.binds md e = true ∧ e.on = i
theorem waits_ne {listed : Array Bool} {i j p : Nat} {op : Oper} (hp : ops[p]? = some op) (he : ∃ e ∈ op.after, Region.binds md e = true ∧ e.on = i) (hun : listed.getD i true = false) (hj : j ∈ Region.ready md ops listed) : j ≠ p := by
  rintro rfl
  obtain ⟨_, oj, hoj, hall⟩ := mem_ready.1 hj
  rw [hp] at hoj
  cases hoj
  obtain ⟨e, he, hb, rfl⟩ := he
  have h1 := hall e he hb
  rcases Nat.lt_or_ge e.on listed.size with h' | h'
  · simp [h'] at hun h1
    rw [hun] at h1
    cases h1
  · simp [Array.getElem?_eq_none h'] at h1
theorem lt_of_some {p : Nat} {op : Oper} (hp : ops[p]? = some op) : p < ops.size := (Array.getElem?_eq_some_iff.1 hp).1
theorem wpAnyE_first {i : Nat} {oi : Oper} {v : Value} (hi : ops[i]? = some oi) (hsel : ∀ (j : Nat) (o : Oper) cs b, ops[j]? = some o → o.op ≠ .select cs b)
    (hQ : ∀ c a w, Q (.panic c) (a.put oi.dst v) w → Q (.panic c) a w) :
    ∀ (fuel : Nat) (listed : Array Bool) (a : Act) (w : World),
      (∀ j oj, ops[j]? = some oj → j ≠ i → listed.getD j true = false → (∀ e ∈ oj.after, Region.binds md e = true → e.on ≠ i) → oi.apart ops oj = true) →
      Waits md ops listed i → i ∈ Region.ready md ops listed → YieldsIf P ops S oi v a → S w →
      wpAnyE P md ops Q S fuel (listed.setIfInBounds i true) (a.put oi.dst v) w → wpAnyE P md ops Q S (fuel + 1) listed a w := by
  intro fuel
  induction fuel with
  | zero =>
    intro listed a w _ _ hr hy hS H
    refine ⟨fun h => (by rw [h] at hr; cases hr), fun j hj => ?_⟩
    by_cases hji : j = i
    · subst hji
      exact hy.wpOp hi hS ⟨fun _ => hS, H⟩
    · have := ready_mono hj hji
      rw [H.1] at this
      cases this
  | succ fuel ih =>
    intro listed a w hfree hp hr hy hS H
    refine ⟨fun h => (by rw [h] at hr; cases hr), fun j hj => ?_⟩
    by_cases hji : j = i
    · subst hji
      exact hy.wpOp hi hS ⟨fun _ => hS, H⟩
    · have h1 := H.2 j (ready_mono hj hji)
      obtain ⟨hjun, oj, hoj, hall⟩ := mem_ready.1 hj
      have hiun := (mem_ready.1 hr).1
      obtain ⟨p, op, hop, hpun, hpe⟩ := hp
      have hjp : j ≠ p := waits_ne hop hpe hiun hj
      have hip : i ≠ p := waits_ne hop hpe hiun hr
      have hnot : ∀ e ∈ oj.after, Region.binds md e = true → e.on ≠ i := fun e he hb heq => waits_ne hoj ⟨e, he, hb, heq⟩ hiun hj rfl
      have hpun' : (listed.setIfInBounds j true).getD p true = false := by rw [getD_set_ne true hjp]; exact hpun
      have hpun2 : ((listed.setIfInBounds i true).setIfInBounds j true).getD p true = false := by rw [getD_set_ne true hjp, getD_set_ne true hip]; exact hpun
      have h2 := wpOp_putIf hoj (hfree j oj hoj hji hjun hnot) (fun cs b => hsel i oi cs b hi) (fun cs b => hsel j oj cs b hoj) hQ hy h1
      have hfree' : ∀ k ok, ops[k]? = some ok → k ≠ i → (listed.setIfInBounds j true).getD k true = false →
          (∀ e ∈ ok.after, Region.binds md e = true → e.on ≠ i) → oi.apart ops ok = true := fun k ok hk hki hun hno => by
        refine hfree k ok hk hki ?_ hno
        by_cases hjk : j = k
        · subst hjk; exact hjun
        · rw [getD_set_ne true hjk] at hun; exact hun
      refine wpOp_mono (fun a' w' h3 => ?_) h2
      have hS' : S w' := h3.2.1 ⟨p, lt_of_some hop, hpun2⟩
      refine ⟨fun _ => hS', ih (listed.setIfInBounds j true) a' w' hfree' ⟨p, op, hop, hpun', hpe⟩ (ready_mono hr (Ne.symm hji)) h3.1 hS' ?_⟩
      rw [Array.setIfInBounds_comm _ _ hji]
      exact h3.2.2
/-- does an operation that has not come up wait for i? -/
def waitsB (md : Region.Mode) (ops : Array Oper) (listed : Array Bool) (i : Nat) : Bool := (List.range ops.size).any fun p => !listed.getD p true && match ops[p]? with
  | some op => op.after.any fun e => Region.binds md e && e.on == i
  | none => false
theorem waitsB_spec {listed : Array Bool} {i : Nat} (h : waitsB md ops listed i = true) : Waits md ops listed i := by
  simp only [waitsB, List.any_eq_true, List.mem_range, Bool.and_eq_true] at h
  obtain ⟨p, _, h1, h2⟩ := h
  cases ho : ops[p]? with
  | none => simp [ho] at h2
  | some op =>
    rw [ho] at h2
    obtain ⟨k, hk, hb⟩ := Array.any_eq_true.1 h2
    simp only [Bool.and_eq_true, beq_iff_eq] at hb
    exact ⟨p, op, ho, by simpa using h1, op.after[k], Array.getElem_mem _, hb.1, hb.2⟩
end
section
variable {P : Program} {l rest : List Oper} {Q : Exit → Act → World → Prop} {md : Region.Mode} {S : World → Prop} {oi : Oper} {fuel : Nat} {listed : Array Bool} {a : Act} {w : World}
theorem rgnE {id : Nat} (hm : P.follows .mixedOrders = true) (hS : S w.drew) (h : S w.drew → wpAnyE P .any l.toArray Q S l.toArray.size (Array.replicate l.toArray.size false) a w.drew) : (Code.region id l.toArray true).wp P Q a w :=
  wp_region_any hm (wpAny_of_E _ _ _ _ (h hS))
theorem takeE (i : Nat) {v : Value} (hn : l.drop i = oi :: rest) (hs : Region.noSelect l.toArray = true) (hf : Region.free md l.toArray listed i = true) (hr : (Region.ready md l.toArray listed).contains i = true) (hp : waitsB md l.toArray listed i = true)
    (hQ : ∀ c a w, Q (.panic c) (a.put oi.dst v) w → Q (.panic c) a w) (hw : Region.wanted oi (yielded l.toArray a.tmps) = true) (hrun : ∀ w, S w → (execOp a.eval oi).run P w = .ok (.value v) w) (hS : S w)
    (h : wpAnyE P md l.toArray Q S fuel (listed.setIfInBounds i true) (a.put oi.dst v) w) : wpAnyE P md l.toArray Q S (fuel + 1) listed a w :=
  wpAnyE_first (at_drop hn) (Region.noSelect_spec hs) hQ fuel listed a w (Region.free_spec (at_drop hn) hf) (waitsB_spec hp) (by simpa using hr) (Or.inl ⟨hw, hrun⟩) hS h
theorem skipE (i : Nat) (hn : l.drop i = oi :: rest) (hs : Region.noSelect l.toArray = true) (hf : Region.free md l.toArray listed i = true) (hr : (Region.ready md l.toArray listed).contains i = true) (hp : waitsB md l.toArray listed i = true)
    (hQ : ∀ c a w, Q (.panic c) (a.put oi.dst undef) w → Q (.panic c) a w) (hw : Region.wanted oi (yielded l.toArray a.tmps) = false) (hS : S w)
    (h : wpAnyE P md l.toArray Q S fuel (listed.setIfInBounds i true) (a.put oi.dst undef) w) : wpAnyE P md l.toArray Q S (fuel + 1) listed a w :=
  wpAnyE_first (at_drop hn) (Region.noSelect_spec hs) hQ fuel listed a w (Region.free_spec (at_drop hn) hf) (waitsB_spec hp) (by simpa using hr) (Or.inr ⟨hw, rfl⟩) hS h
/-- the only one that may come up; more follow -/
theorem oneE (i : Nat) (hn : l.drop i = oi :: rest) (hr : Region.ready md l.toArray listed = [i]) (hw : Region.wanted oi (yielded l.toArray a.tmps) = true)
    (h : ∀ K' : Act → World → Prop, Shut (∀ a w, S w → (S w → wpAnyE P md l.toArray Q S fuel (listed.setIfInBounds i true) a w) → K' a w) → Oper.wp P oi a w K' Q) : wpAnyE P md l.toArray Q S (fuel + 1) listed a w := by
  refine ⟨fun h0 => absurd (hr ▸ h0) (by simp), fun j hj => ?_⟩
  rw [hr] at hj
  obtain rfl : j = i := by simpa using hj
  exact wpOp_step (at_drop hn) fun K' hK => by rw [if_pos hw]; exact h K' (fun a w hS hW => hK a w ⟨fun _ => hS, hW hS⟩)
/-- the last one -/
theorem lastE (i : Nat) (hn : l.drop i = oi :: rest) (hr : Region.ready md l.toArray listed = [i]) (hl : ((List.range l.toArray.size).all fun k => (listed.setIfInBounds i true).getD k true) = true) (hd : Region.ready md l.toArray (listed.setIfInBounds i true) = [])
    (hw : Region.wanted oi (yielded l.toArray a.tmps) = true)
    (h : ∀ K' : Act → World → Prop, Shut (∀ a w, Q .normal a w → K' a w) → Oper.wp P oi a w K' Q) : wpAnyE P md l.toArray Q S (fuel + 1) listed a w := by
  refine ⟨fun h0 => absurd (hr ▸ h0) (by simp), fun j hj => ?_⟩
  rw [hr] at hj
  obtain rfl : j = i := by simpa using hj
  refine wpOp_step (at_drop hn) fun K' hK => by
    rw [if_pos hw]
    refine h K' fun a w hq => hK a w ⟨fun ⟨k, hk, hm⟩ => ?_, ?_⟩
    · have := List.all_eq_true.1 hl k (List.mem_range.2 hk)
      rw [hm] at this
      cases this
    · cases fuel with
      | zero => exact ⟨hd, hq⟩
      | succ n => exact ⟨fun _ => hq, by rw [hd]; simp⟩
end
end Go.Proofs.Ythjpjhcbefhpbaa
