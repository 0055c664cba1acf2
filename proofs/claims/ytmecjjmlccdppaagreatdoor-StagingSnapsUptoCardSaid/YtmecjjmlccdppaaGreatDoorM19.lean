/- The texts Regm in one file. -/
import Derived.Test.YtmecjjmlccdppaaGreatDoorM2
/- Steps through a region that draws its order, some of whose last operations write what the region reads: S is asked as long as one of certain operations (nd) has not come up. Laws over whatever program. -/
namespace Go.Proofs.YtmecjjmlccdppaaGreatDoor
open Go.RowKit
section
variable {P : Program} {ops : Array Oper} {Q : Exit → Act → World → Prop} {md : Region.Mode} {S : World → Prop} {m : Nat → Bool}
def MoreM (m : Nat → Bool) (listed : Array Bool) : Prop := ∃ k, m k = true ∧ listed.getD k true = false
def wpAnyM (P : Program) (md : Region.Mode) (ops : Array Oper) (Q : Exit → Act → World → Prop) (S : World → Prop) (m : Nat → Bool) : Nat → Array Bool → Act → World → Prop
  | 0, listed, a, w => Region.ready md ops listed = [] ∧ Q .normal a w
  | fuel + 1, listed, a, w =>
    (Region.ready md ops listed = [] → Q .normal a w) ∧
    ∀ i ∈ Region.ready md ops listed, wpOp P ops Q i (fun a' w' => (MoreM m (listed.setIfInBounds i true) → S w') ∧ wpAnyM P md ops Q S m fuel (listed.setIfInBounds i true) a' w') a w
theorem wpAny_of_M : ∀ (fuel : Nat) (listed : Array Bool) (a : Act) (w : World), wpAnyM P md ops Q S m fuel listed a w → wpAny P md ops Q fuel listed a w
  | 0, _, _, _, h => h
  | fuel + 1, _, _, _, h => ⟨h.1, fun i hi => wpOp_mono (fun a' w' h' => wpAny_of_M fuel _ a' w' h'.2) (h.2 i hi)⟩
/-- one of the first m operations has not come up and waits for i -/
def WaitsM (md : Region.Mode) (ops : Array Oper) (m : Nat → Bool) (listed : Array Bool) (i : Nat) : Prop :=
  ∃ p op, m p = true ∧ ops[p]? = some op ∧ listed.getD p true = false ∧ ∃ e ∈ op.after, Region.binds md e = true ∧ e.on = i
theorem wpAnyM_first {i : Nat} {oi : Oper} {v : Value} (hi : ops[i]? = some oi) (hsel : ∀ (j : Nat) (o : Oper) cs b, ops[j]? = some o → o.op ≠ .select cs b)
    (hQ : ∀ c a w, Q (.panic c) (a.put oi.dst v) w → Q (.panic c) a w) :
    ∀ (fuel : Nat) (listed : Array Bool) (a : Act) (w : World),
      (∀ j oj, ops[j]? = some oj → j ≠ i → listed.getD j true = false → (∀ e ∈ oj.after, Region.binds md e = true → e.on ≠ i) → oi.apart ops oj = true) →
      WaitsM md ops m listed i → i ∈ Region.ready md ops listed → YieldsIf P ops S oi v a → S w →
      wpAnyM P md ops Q S m fuel (listed.setIfInBounds i true) (a.put oi.dst v) w → wpAnyM P md ops Q S m (fuel + 1) listed a w := by
  intro fuel
  induction fuel with
  | zero =>
    intro listed a w _ _ hr hy hS H
    refine ⟨fun h => (by rw [h] at hr; cases hr), fun j hj => ?_⟩
    by_cases hji : j = i
    · subst hji
      exact hy.wpOp hi hS ⟨fun _ => hS, H⟩
    · have := ready_mono hj hji
      rw [H.1] at this
      cases this
  | succ fuel ih =>
    intro listed a w hfree hp hr hy hS H
    refine ⟨fun h => (by rw [h] at hr; cases hr), fun j hj => ?_⟩
    by_cases hji : j = i
    · subst hji
      exact hy.wpOp hi hS ⟨fun _ => hS, H⟩
    · have h1 := H.2 j (ready_mono hj hji)
      obtain ⟨hjun, oj, hoj, hall⟩ := mem_ready.1 hj
      have hiun := (mem_ready.1 hr).1
      obtain ⟨p, op, hpm, hop, hpun, hpe⟩ := hp
      have hjp : j ≠ p := waits_ne hop hpe hiun hj
      have hip : i ≠ p := waits_ne hop hpe hiun hr
      have hnot : ∀ e ∈ oj.after, Region.binds md e = true → e.on ≠ i := fun e he hb heq => waits_ne hoj ⟨e, he, hb, heq⟩ hiun hj rfl
      have hpun' : (listed.setIfInBounds j true).getD p true = false := by rw [getD_set_ne true hjp]; exact hpun
      have hpun2 : ((listed.setIfInBounds i true).setIfInBounds j true).getD p true = false := by rw [getD_set_ne true hjp, getD_set_ne true hip]; exact hpun
      have h2 := wpOp_putIf hoj (hfree j oj hoj hji hjun hnot) (fun cs b => hsel i oi cs b hi) (fun cs b => hsel j oj cs b hoj) hQ hy h1
      have hfree' : ∀ k ok, ops[k]? = some ok → k ≠ i → (listed.setIfInBounds j true).getD k true = false →
          (∀ e ∈ ok.after, Region.binds md e = true → e.on ≠ i) → oi.apart ops ok = true := fun k ok hk hki hun hno => by
        refine hfree k ok hk hki ?_ hno
        by_cases hjk : j = k
        · subst hjk; exact hjun
        · rw [getD_set_ne true hjk] at hun; exact hun
      refine wpOp_mono (fun a' w' h3 => ?_) h2
      have hS' : S w' := h3.2.1 ⟨p, hpm, hpun2⟩
      refine ⟨fun _ => hS', ih (listed.setIfInBounds j true) a' w' hfree' ⟨p, op, hpm, hop, hpun', hpe⟩ (ready_mono hr (Ne.symm hji)) h3.1 hS' ?_⟩
      rw [Array.setIfInBounds_comm _ _ hji]
      exact h3.2.2
theorem more_of_set {listed : Array Bool} {i : Nat} (h : MoreM m (listed.setIfInBounds i true)) : MoreM m listed := by
  obtain ⟨k, hk, hu⟩ := h
  refine ⟨k, hk, ?_⟩
  by_cases e : i = k
  · subst e
    rcases Nat.lt_or_ge i listed.size with h' | h'
    · simp [h'] at hu
    · simp [h'] at hu
  · rwa [getD_set_ne true e] at hu
theorem wpAnyM_pure {i : Nat} {oi : Oper} {v : Value} (hi : ops[i]? = some oi) (hsel : ∀ (j : Nat) (o : Oper) cs b, ops[j]? = some o → o.op ≠ .select cs b)
    (hQ : ∀ c a w, Q (.panic c) (a.put oi.dst v) w → Q (.panic c) a w) :
    ∀ (fuel : Nat) (listed : Array Bool) (a : Act) (w : World),
      (∀ j oj, ops[j]? = some oj → j ≠ i → listed.getD j true = false → (∀ e ∈ oj.after, Region.binds md e = true → e.on ≠ i) → oi.apart ops oj = true) →
      m i = false → i ∈ Region.ready md ops listed → YieldsIf P ops (fun _ => True) oi v a → (MoreM m listed → S w) →
      wpAnyM P md ops Q S m fuel (listed.setIfInBounds i true) (a.put oi.dst v) w → wpAnyM P md ops Q S m (fuel + 1) listed a w := by
  intro fuel
  induction fuel with
  | zero =>
    intro listed a w _ _ hr hy hS H
    refine ⟨fun h => (by rw [h] at hr; cases hr), fun j hj => ?_⟩
    by_cases hji : j = i
    · subst hji
      exact hy.wpOp hi trivial ⟨fun hM => hS (more_of_set hM), H⟩
    · have := ready_mono hj hji
      rw [H.1] at this
      cases this
  | succ fuel ih =>
    intro listed a w hfree hp hr hy hS H
    refine ⟨fun h => (by rw [h] at hr; cases hr), fun j hj => ?_⟩
    by_cases hji : j = i
    · subst hji
      exact hy.wpOp hi trivial ⟨fun hM => hS (more_of_set hM), H⟩
    · have h1 := H.2 j (ready_mono hj hji)
      obtain ⟨hjun, oj, hoj, hall⟩ := mem_ready.1 hj
      have hiun := (mem_ready.1 hr).1
      have hnot : ∀ e ∈ oj.after, Region.binds md e = true → e.on ≠ i := fun e he hb heq => waits_ne hoj ⟨e, he, hb, heq⟩ hiun hj rfl
      have h2 := wpOp_putIf hoj (hfree j oj hoj hji hjun hnot) (fun cs b => hsel i oi cs b hi) (fun cs b => hsel j oj cs b hoj) hQ hy h1
      have hfree' : ∀ k ok, ops[k]? = some ok → k ≠ i → (listed.setIfInBounds j true).getD k true = false →
          (∀ e ∈ ok.after, Region.binds md e = true → e.on ≠ i) → oi.apart ops ok = true := fun k ok hk hki hun hno => by
        refine hfree k ok hk hki ?_ hno
        by_cases hjk : j = k
        · subst hjk; exact hjun
        · rw [getD_set_ne true hjk] at hun; exact hun
      refine wpOp_mono (fun a' w' h3 => ?_) h2
      have hS' : MoreM m (listed.setIfInBounds j true) → S w' := fun ⟨k, hk, hu⟩ => h3.2.1 ⟨k, hk, by
        rw [Array.setIfInBounds_comm _ _ (Ne.symm hji), getD_set_ne true (fun e => by subst e; rw [hp] at hk; cases hk)]
        exact hu⟩
      refine ⟨hS', ih (listed.setIfInBounds j true) a' w' hfree' hp (ready_mono hr (Ne.symm hji)) h3.1 hS' ?_⟩
      rw [Array.setIfInBounds_comm _ _ hji]
      exact h3.2.2
def waitsMB (md : Region.Mode) (ops : Array Oper) (m : Nat → Bool) (listed : Array Bool) (i : Nat) : Bool := (List.range ops.size).any fun p => m p && !listed.getD p true && match ops[p]? with
  | some op => op.after.any fun e => Region.binds md e && e.on == i
  | none => false
theorem waitsMB_spec {listed : Array Bool} {i : Nat} (h : waitsMB md ops m listed i = true) : WaitsM md ops m listed i := by
  simp only [waitsMB, List.any_eq_true, List.mem_range, Bool.and_eq_true] at h
  obtain ⟨p, _, ⟨hp, h1⟩, h2⟩ := h
  cases ho : ops[p]? with
  | none => simp [ho] at h2
  | some op =>
    rw [ho] at h2
    obtain ⟨k, hk, hb⟩ := Array.any_eq_true.1 h2
    simp only [Bool.and_eq_true, beq_iff_eq] at hb
    exact ⟨p, op, hp, ho, by simpa using h1, op.after[k], Array.getElem_mem _, hb.1, hb.2⟩
end
section
variable {P : Program} {l rest : List Oper} {Q : Exit → Act → World → Prop} {md : Region.Mode} {S : World → Prop} {oi : Oper} {fuel : Nat} {m : Nat → Bool} {listed : Array Bool} {a : Act} {w : World}
theorem rgnM (m : Nat → Bool) {id : Nat} (hm : P.follows .mixedOrders = true) (hS : S w.drew) (h : S w.drew → wpAnyM P .any l.toArray Q S m l.toArray.size (Array.replicate l.toArray.size false) a w.drew) : (Code.region id l.toArray true).wp P Q a w :=
  wp_region_any hm (wpAny_of_M _ _ _ _ (h hS))
theorem takeM (i : Nat) {v : Value} (hn : l.drop i = oi :: rest) (hs : Region.noSelect l.toArray = true) (hf : Region.free md l.toArray listed i = true) (hr : (Region.ready md l.toArray listed).contains i = true) (hp : waitsMB md l.toArray m listed i = true)
    (hQ : ∀ c a w, Q (.panic c) (a.put oi.dst v) w → Q (.panic c) a w) (hw : Region.wanted oi (yielded l.toArray a.tmps) = true) (hrun : ∀ w, S w → (execOp a.eval oi).run P w = .ok (.value v) w) (hS : S w)
    (h : wpAnyM P md l.toArray Q S m fuel (listed.setIfInBounds i true) (a.put oi.dst v) w) : wpAnyM P md l.toArray Q S m (fuel + 1) listed a w :=
  wpAnyM_first (at_drop hn) (Region.noSelect_spec hs) hQ fuel listed a w (Region.free_spec (at_drop hn) hf) (waitsMB_spec hp) (by simpa using hr) (Or.inl ⟨hw, hrun⟩) hS h
theorem skipM (i : Nat) (hn : l.drop i = oi :: rest) (hs : Region.noSelect l.toArray = true) (hf : Region.free md l.toArray listed i = true) (hr : (Region.ready md l.toArray listed).contains i = true) (hp : waitsMB md l.toArray m listed i = true)
    (hQ : ∀ c a w, Q (.panic c) (a.put oi.dst undef) w → Q (.panic c) a w) (hw : Region.wanted oi (yielded l.toArray a.tmps) = false) (hS : S w)
    (h : wpAnyM P md l.toArray Q S m fuel (listed.setIfInBounds i true) (a.put oi.dst undef) w) : wpAnyM P md l.toArray Q S m (fuel + 1) listed a w :=
  wpAnyM_first (at_drop hn) (Region.noSelect_spec hs) hQ fuel listed a w (Region.free_spec (at_drop hn) hf) (waitsMB_spec hp) (by simpa using hr) (Or.inr ⟨hw, rfl⟩) hS h
/-- one that looks at no memory -/
theorem pureM (i : Nat) {v : Value} (hn : l.drop i = oi :: rest) (hs : Region.noSelect l.toArray = true) (hf : Region.free md l.toArray listed i = true) (hr : (Region.ready md l.toArray listed).contains i = true) (hp : m i = false)
    (hQ : ∀ c a w, Q (.panic c) (a.put oi.dst v) w → Q (.panic c) a w) (hw : Region.wanted oi (yielded l.toArray a.tmps) = true) (hrun : ∀ w, (execOp a.eval oi).run P w = .ok (.value v) w) (hS : MoreM m listed → S w)
    (h : wpAnyM P md l.toArray Q S m fuel (listed.setIfInBounds i true) (a.put oi.dst v) w) : wpAnyM P md l.toArray Q S m (fuel + 1) listed a w :=
  wpAnyM_pure (at_drop hn) (Region.noSelect_spec hs) hQ fuel listed a w (Region.free_spec (at_drop hn) hf) hp (by simpa using hr) (Or.inl ⟨hw, fun w _ => hrun w⟩) hS h
/-- the only one that may come up; S behind it -/
theorem oneM (i : Nat) (hn : l.drop i = oi :: rest) (hr : Region.ready md l.toArray listed = [i]) (hw : Region.wanted oi (yielded l.toArray a.tmps) = true)
    (h : ∀ K' : Act → World → Prop, Shut (∀ a w, S w → (S w → wpAnyM P md l.toArray Q S m fuel (listed.setIfInBounds i true) a w) → K' a w) → Oper.wp P oi a w K' Q) : wpAnyM P md l.toArray Q S m (fuel + 1) listed a w := by
  refine ⟨fun h0 => absurd (hr ▸ h0) (by simp), fun j hj => ?_⟩
  rw [hr] at hj
  obtain rfl : j = i := by simpa using hj
  exact wpOp_step (at_drop hn) fun K' hK => by rw [if_pos hw]; exact h K' (fun a w hS hW => hK a w ⟨fun _ => hS, hW hS⟩)
/-- the only one that may come up; the first m are done -/
theorem freeM (i : Nat) (hn : l.drop i = oi :: rest) (hr : Region.ready md l.toArray listed = [i]) (hl : ((List.range listed.size).all fun k => !m k || (listed.setIfInBounds i true).getD k true) = true) (hw : Region.wanted oi (yielded l.toArray a.tmps) = true)
    (h : ∀ K' : Act → World → Prop, Shut (∀ a w, wpAnyM P md l.toArray Q S m fuel (listed.setIfInBounds i true) a w → K' a w) → Oper.wp P oi a w K' Q) : wpAnyM P md l.toArray Q S m (fuel + 1) listed a w := by
  refine ⟨fun h0 => absurd (hr ▸ h0) (by simp), fun j hj => ?_⟩
  rw [hr] at hj
  obtain rfl : j = i := by simpa using hj
  refine wpOp_step (at_drop hn) fun K' hK => by
    rw [if_pos hw]
    refine h K' fun a w hq => hK a w ⟨fun ⟨k, hk, hm⟩ => ?_, hq⟩
    have hlt : k < listed.size := by
      rcases Nat.lt_or_ge k listed.size with h' | h'
      · exact h'
      · simp [h'] at hm
    have := List.all_eq_true.1 hl k (List.mem_range.2 hlt)
    rw [hm, hk] at this
    cases this
theorem doneM (hd : Region.ready md l.toArray listed = []) (hq : Q .normal a w) : wpAnyM P md l.toArray Q S m fuel listed a w := by
  cases fuel with
  | zero => exact ⟨hd, hq⟩
  | succ n => exact ⟨fun _ => hq, by rw [hd]; simp⟩
end
end Go.Proofs.YtmecjjmlccdppaaGreatDoor
