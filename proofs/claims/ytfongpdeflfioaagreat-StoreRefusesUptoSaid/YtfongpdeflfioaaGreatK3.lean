/- The texts HeapR, Regm, Rng in one file. -/
import Derived.Test.YtfongpdeflfioaaGreatK2
import Derived.RangeFuncNested
import Derived.RangeFuncBound
import Derived.RangeFuncCalls
import Derived.RangeFuncLeaves
import Derived.Shelf.Abstract
import Derived.Shelf.RegionOpen
import Derived.OwnWalkIn
import Derived.TacticsInMore
import Derived.LoopNIn
import Derived.LoopIn
/- Rows of the call's own among a world's items: loads out of them, stores into them. Laws over whatever program. -/
namespace Go.Proofs.YtfongpdeflfioaaGreat
open Go.RowKit
set_option linter.unusedVariables false
section
variable {w0 w w' : World} {its : List It} {e : TypeId} {size n c g : Nat}
theorem row_sets : ∀ (cs : List Value) (p : Nat) (xs : List Value) (w : World) (base : Nat), w.ownsRow base e size (.slice (some ⟨g, 0, none⟩) n c) n xs → p + cs.length ≤ xs.length →
    (w.setCells g p cs).ownsRow base e size (.slice (some ⟨g, 0, none⟩) n c) n (xs.take p ++ cs ++ xs.drop (p + cs.length))
  | [], p, vs, w, base, h, _ => by simpa [World.setCells] using h
  | u :: cs, p, vs, w, base, h, hl => by
    have h1 := (h.stored p u).1
    rw [List.length_cons] at hl
    have h2 := row_sets cs (p + 1) (vs.set p u) (w.setCell ⟨g, p, none⟩ u) base h1 (by simp; omega)
    have e1 : (vs.set p u).take (p + 1) = vs.take p ++ [u] := by
      rw [List.take_set, List.take_succ_eq_append_getElem (by omega), List.set_append_right _ _ (by simp; omega)]
      simp [show p - min p vs.length = 0 by omega]
    have e2 : (vs.set p u).drop (p + 1 + cs.length) = vs.drop (p + (cs.length + 1)) := by
      rw [List.drop_set_of_lt (by omega), show p + 1 + cs.length = p + (cs.length + 1) by omega]
    rw [e1, e2] at h2
    simpa [World.setCells, List.append_assoc] using h2
theorem Heap.rowPut {p : Nat} {xs cs : List Value} (H : Heap w0 its w) (i : Nat) (hi : its[i]? = some (.row e size (.slice (some ⟨g, 0, none⟩) n c) n xs)) (hl : p + cs.length ≤ xs.length) :
    Heap w0 (its.set i (.row e size (.slice (some ⟨g, 0, none⟩) n c) n (xs.take p ++ cs ++ xs.drop (p + cs.length)))) (w.setCells g p cs) :=
  H.upd hi ((keep_sets cs p w).mono fun k hk e => hk (by subst e; rfl)) (row_sets cs p xs w _ (H.rowAt i hi) hl) (fun k hk => .inl hk) (fun k hk => .inl hk) fun k hk => (World.ownsRow.lt (H.rowAt i hi) k hk).1
theorem Heap.rowForm {v : Value} {xs : List Value} (H : Heap w0 its w) (i : Nat) (hi : its[i]? = some (.row e size v n xs)) (hn : 0 < n) : ∃ g c, v = .slice (some ⟨g, 0, none⟩) n c :=
  (World.ownsRow.form (H.rowAt i hi) hn).elim fun g h => h.elim fun c h => ⟨g, c, h.1⟩
theorem Heap.rowRd {A : Option Addr} {xs : List Value} (H : Heap w0 its w) (i : Nat) (hi : its[i]? = some (.row e size (.slice A n c) n xs)) : Rd w w0.heap.size w.heap.size A xs := Rd.of_own (H.rowAt i hi)
theorem Heap.rowLen {v : Value} {xs : List Value} (H : Heap w0 its w) (i : Nat) (hi : its[i]? = some (.row e size v n xs)) : xs.length = n * size := (H.rowAt i hi).1
/-- two slices that read, made at once -/
theorem Heap.addRd2 {A B : Option Addr} {cs ds : List Value} (h : Heap w0 its w) (hw : Ext w w') (hr : Rd w' w.heap.size w'.heap.size A cs) (hr2 : Rd w' w.heap.size w'.heap.size B ds) : Heap w0 (.rd B ds :: .rd A cs :: its) w' := by
  have h1 := h.addRd hw hr (Nat.le_refl _)
  refine ⟨h1.ext, fun j y hy => ?_, fun j l y z k hjl hy hz ho hat => ?_⟩
  · cases j with
    | zero =>
      cases hy
      intro hn
      obtain ⟨b, o, he, h1, h2, h3⟩ := hr2 hn
      exact ⟨b, o, he, h2, Nat.le_trans h.ext.size h1, h3⟩
    | succ j => exact h1.all j y hy
  · cases j with
    | zero => cases hy; exact ho.elim
    | succ j =>
      cases l with
      | zero =>
        cases hz
        obtain ⟨hn, a, rfl, rfl⟩ := hat
        obtain ⟨b, o, he, h2, _⟩ := hr2 hn
        cases he
        cases j with
        | zero => cases hy; exact ho.elim
        | succ j =>
          have := It.at_lt (h.all j y hy) (It.own_at ho)
          exact absurd (Nat.lt_of_lt_of_le this h2) (Nat.lt_irrefl _)
      | succ l => exact h1.apart j l y z k (fun e => hjl (by omega)) hy hz ho hat
end
section
variable {P : Program} {w0 w : World} {its : List It} {o : Oper} {a : Act} {K : Act → World → Prop} {ops : Array Oper} {rest : List Oper} {Q : Exit → Act → World → Prop} {e : TypeId} {size n c g : Nat}
/-- a struct is written into a row of the call's own -/
theorem sh_rstore {t : TypeId} {x y : Operand} {p m : Nat} {xs cs : List Value} (H : Heap w0 its w) (hs : (P.info? t).map (·.size) = some m) (ho : o.op = .store t x y) (hx : a.eval x = .pointer (some ⟨g, p, none⟩)) (hy : a.eval y = .agg cs.toArray) (i : Nat)
    (hi : its[i]? = some (.row e size (.slice (some ⟨g, 0, none⟩) n c) n xs)) (hn : cs.length = m) (hl : p + m ≤ n * size)
    (h1 : cs.all (·.oneCell') = true) (k : ∀ w', Heap w0 (its.set i (.row e size (.slice (some ⟨g, 0, none⟩) n c) n (xs.take p ++ cs ++ xs.drop (p + m)))) w' → K (a.put o.dst undef) w') : o.wp P a w K Q := by
  subst hn
  have hb := H.rowAt i hi
  have hxl := hb.1
  have ht : w.there g p cs.toArray.size := fun j hj => by
    have hj' : j < cs.length := by simpa using hj
    exact ⟨by rw [hb.cellAt (p + j) (by omega), List.getElem?_eq_getElem (by omega)]; rfl, hb.frozenAt (p + j)⟩
  have hr := run_storeVar_mid (P := P) w g p t cs.toArray ht (by simpa using hs) (all_oneCell_toArray (fun v hv => List.all_eq_true.1 h1 v hv))
  unfold Oper.wp execOp
  simp only [ho, hx, hy, Instr.storeAt, Instr.sureAddr, Sem.run_bind, Sem.run_pure, Result.andThen_ok, hr]
  exact k _ (H.rowPut i hi (by omega))
/-- a value of one cell is written into a row of the call's own -/
theorem sh_rstore1 {t : TypeId} {x y : Operand} {p : Nat} {xs : List Value} {v : Value} (H : Heap w0 its w) (ho : o.op = .store t x y) (hx : a.eval x = .pointer (some ⟨g, p, none⟩)) (hy : a.eval y = v) (i : Nat)
    (hi : its[i]? = some (.row e size (.slice (some ⟨g, 0, none⟩) n c) n xs)) (hl : p < n * size)
    (h1 : v.oneCell' = true) (hs : (P.info? t).map (·.size) = some 1) (k : ∀ w', Heap w0 (its.set i (.row e size (.slice (some ⟨g, 0, none⟩) n c) n (xs.take p ++ [v] ++ xs.drop (p + 1)))) w' → K (a.put o.dst undef) w') : o.wp P a w K Q := by
  have hb := H.rowAt i hi
  have hxl := hb.1
  have hvc : v.cells = #[v] := by cases v <;> first | rfl | cases h1
  have hc : (w.cell? ⟨g, p, none⟩).isSome = true := by rw [hb.cellAt p hl, List.getElem?_eq_getElem (by omega)]; rfl
  have hst := run_storeCells_cells (P := P) g p [v] 0 w (fun j hj => (by
    obtain rfl : j = 0 := by simpa using hj
    exact hc)) (fun j hj => hb.frozenAt (p + 0 + j)) (by simpa using h1)
  have hr : (storeVar t ⟨g, p, none⟩ v).run P w = .ok () (w.setCell ⟨g, p, none⟩ v) := by
    simp only [storeVar, hvc, Sem.run_bind, sizeOf_run hs, Result.andThen_ok]
    simpa [World.setCells] using hst
  unfold Oper.wp execOp
  simp only [ho, hx, hy, Instr.storeAt, Instr.sureAddr, Sem.run_bind, Sem.run_pure, Result.andThen_ok, hr]
  have h2 := H.rowPut (p := p) (cs := [v]) i hi (by simp; omega)
  exact k _ (by simpa [World.setCells] using h2)
theorem shl_rstore {t : TypeId} {x y : Operand} {p m : Nat} {xs cs : List Value} (H : Heap w0 its w) (hs : (P.info? t).map (·.size) = some m) (ho : o.op = .store t x y) (hgd : o.guard = none) (hx : a.eval x = .pointer (some ⟨g, p, none⟩)) (hy : a.eval y = .agg cs.toArray) (i : Nat)
    (hi : its[i]? = some (.row e size (.slice (some ⟨g, 0, none⟩) n c) n xs)) (hn : cs.length = m) (hl : p + m ≤ n * size)
    (h1 : cs.all (·.oneCell') = true) (k : ∀ w', Heap w0 (its.set i (.row e size (.slice (some ⟨g, 0, none⟩) n c) n (xs.take p ++ cs ++ xs.drop (p + m)))) w' → wpList P ops Q rest (a.put o.dst undef) w') : wpList P ops Q (o :: rest) a w :=
  wpList_plain hgd fun _ hK => sh_rstore H hs ho hx hy i hi hn hl h1 fun w' h => hK _ _ (k w' h)
theorem shl_rstore1 {t : TypeId} {x y : Operand} {p : Nat} {xs : List Value} {v : Value} (H : Heap w0 its w) (ho : o.op = .store t x y) (hgd : o.guard = none) (hx : a.eval x = .pointer (some ⟨g, p, none⟩)) (hy : a.eval y = v) (i : Nat)
    (hi : its[i]? = some (.row e size (.slice (some ⟨g, 0, none⟩) n c) n xs)) (hl : p < n * size)
    (h1 : v.oneCell' = true) (hs : (P.info? t).map (·.size) = some 1) (k : ∀ w', Heap w0 (its.set i (.row e size (.slice (some ⟨g, 0, none⟩) n c) n (xs.take p ++ [v] ++ xs.drop (p + 1)))) w' → wpList P ops Q rest (a.put o.dst undef) w') : wpList P ops Q (o :: rest) a w :=
  wpList_plain hgd fun _ hK => sh_rstore1 H ho hx hy i hi hl h1 hs fun w' h => hK _ _ (k w' h)
/-- 'append', onto a row of the call's own, at a plain region -/
theorem shl_app (s x : Operand) (t : TypeId) (ho : o.op = .call { callee := .builtin .append, args := #[s, x], argTypes := #[t, t] }) (hgd : o.guard = none)
    {e : TypeId} {inf : TypeInfo} {z : Value} {size bytes : Nat} (ht : P.underlying t = some (.slice e)) (hinf : P.info? e = some inf) (hz : inf.zero = some z)
    (hsize : inf.size = size) (hby : inf.bytes = bytes) (hzs : z.cells.size = size) (hsz : 0 < size)
    {v : Value} {n : Nat} {xs : List Value} (H : Heap w0 its w) (i : Nat) (hi : its[i]? = some (.row e size v n xs)) (hs : a.eval s = v)
    {lo h' : Nat} {A : Option Addr} {m c : Nat} {news : List Value} (hx : a.eval x = .slice A m c) (hl : news.length = m * size) (hr : Rd w lo h' A news) (h1 : ∀ u ∈ news, u.oneCell' = true)
    (h63 : n + m ≤ maxLen) (hbytes : (n + m) * bytes ≤ 140737488355328)
    (k : ∀ v' w', Heap w0 (its.set i (.row e size v' (n + m) (xs ++ news))) w' → (∃ A c, v' = .slice A (n + m) c) → wpList P ops Q rest (a.put o.dst v') w') : wpList P ops Q (o :: rest) a w :=
  wpList_plain hgd fun _ hK => sh_app s x t ho ht hinf hz hsize hby hzs hsz H i hi hs hx hl hr h1 h63 hbytes fun v' w' h h2 => hK _ _ (k v' w' h h2)
/-- 'append', onto nothing, at a plain region -/
theorem shl_app0 (s x : Operand) (t : TypeId) (ho : o.op = .call { callee := .builtin .append, args := #[s, x], argTypes := #[t, t] }) (hgd : o.guard = none)
    {e : TypeId} {inf : TypeInfo} {z : Value} {size bytes : Nat} (ht : P.underlying t = some (.slice e)) (hinf : P.info? e = some inf) (hz : inf.zero = some z)
    (hsize : inf.size = size) (hby : inf.bytes = bytes) (hzs : z.cells.size = size) (hsz : 0 < size)
    (H : Heap w0 its w) (hs : a.eval s = .slice none 0 0)
    {lo h' : Nat} {A : Option Addr} {m c : Nat} {news : List Value} (hx : a.eval x = .slice A m c) (hl : news.length = m * size) (hr : Rd w lo h' A news) (h1 : ∀ u ∈ news, u.oneCell' = true)
    (h63 : m ≤ maxLen) (hbytes : m * bytes ≤ 140737488355328)
    (k : ∀ v' w', Heap w0 (.row e size v' m news :: its) w' → (∃ A c, v' = .slice A m c) → wpList P ops Q rest (a.put o.dst v') w') : wpList P ops Q (o :: rest) a w :=
  wpList_plain hgd fun _ hK => sh_app0 s x t ho ht hinf hz hsize hby hzs hsz H hs hx hl hr h1 h63 hbytes fun v' w' h h2 => hK _ _ (k v' w' h h2)
/-- a row of nothing among the items -/
theorem Heap.row0 {e : TypeId} {size : Nat} (H : Heap w0 its w) : Heap w0 (.row e size (.slice none 0 0) 0 [] :: its) w :=
  H.add (Ext.refl w) (World.ownsRow_nil w w0.heap.size e size) fun k hk => by cases hk
end
end Go.Proofs.YtfongpdeflfioaaGreat
/- Steps through a region that draws its order, some of whose last operations write what the region reads: S is asked as long as one of certain operations (nd) has not come up. Laws over whatever program. -/
namespace Go.Proofs.YtfongpdeflfioaaGreat
open Go.RowKit
section
variable {P : Program} {ops : Array Oper} {Q : Exit → Act → World → Prop} {md : Region.Mode} {S : World → Prop} {m : Nat → Bool}
def MoreM (m : Nat → Bool) (listed : Array Bool) : Prop := ∃ k, m k = true ∧ listed.getD k true = false
def wpAnyM (P : Program) (md : Region.Mode) (ops : Array Oper) (Q : Exit → Act → World → Prop) (S : World → Prop) (m : Nat → Bool) : Nat → Array Bool → Act → World → Prop
  | 0, listed, a, w => Region.ready md ops listed = [] ∧ Q .normal a w
  | fuel + 1, listed, a, w =>
    (Region.ready md ops listed = [] → Q .normal a w) ∧
    ∀ i ∈ Region.ready md ops listed, wpOp P ops Q i (fun a' w' => (MoreM m (listed.setIfInBounds i true) → S w') ∧ wpAnyM P md ops Q S m fuel (listed.setIfInBounds i true) a' w') a w
theorem wpAny_of_M : ∀ (fuel : Nat) (listed : Array Bool) (a : Act) (w : World), wpAnyM P md ops Q S m fuel listed a w → wpAny P md ops Q fuel listed a w
  | 0, _, _, _, h => h
  | fuel + 1, _, _, _, h => ⟨h.1, fun i hi => wpOp_mono (fun a' w' h' => wpAny_of_M fuel _ a' w' h'.2) (h.2 i hi)⟩
/-- one of the first m operations has not come up and waits for i -/
def WaitsM (md : Region.Mode) (ops : Array Oper) (m : Nat → Bool) (listed : Array Bool) (i : Nat) : Prop :=
  ∃ p op, m p = true ∧ ops[p]? = some op ∧ listed.getD p true = false ∧ ∃ e ∈ op.after, Region.binds md e = true ∧ e.on = i
theorem wpAnyM_first {i : Nat} {oi : Oper} {v : Value} (hi : ops[i]? = some oi) (hsel : ∀ (j : Nat) (o : Oper) cs b, ops[j]? = some o → o.op ≠ .select cs b)
    (hQ : ∀ c a w, Q (.panic c) (a.put oi.dst v) w → Q (.panic c) a w) :
    ∀ (fuel : Nat) (listed : Array Bool) (a : Act) (w : World),
      (∀ j oj, ops[j]? = some oj → j ≠ i → listed.getD j true = false → (∀ e ∈ oj.after, Region.binds md e = true → e.on ≠ i) → oi.apart ops oj = true) →
      WaitsM md ops m listed i → i ∈ Region.ready md ops listed → YieldsIf P ops S oi v a → S w →
      wpAnyM P md ops Q S m fuel (listed.setIfInBounds i true) (a.put oi.dst v) w → wpAnyM P md ops Q S m (fuel + 1) listed a w := by
  intro fuel
  induction fuel with
  | zero =>
    intro listed a w _ _ hr hy hS H
    refine ⟨fun h => (by rw [h] at hr; cases hr), fun j hj => ?_⟩
    by_cases hji : j = i
    · subst hji
      exact hy.wpOp hi hS ⟨fun _ => hS, H⟩
    · have := ready_mono hj hji
      rw [H.1] at this
      cases this
  | succ fuel ih =>
    intro listed a w hfree hp hr hy hS H
    refine ⟨fun h => (by rw [h] at hr; cases hr), fun j hj => ?_⟩
    by_cases hji : j = i
    · subst hji
      exact hy.wpOp hi hS ⟨fun _ => hS, H⟩
    · have h1 := H.2 j (ready_mono hj hji)
      obtain ⟨hjun, oj, hoj, hall⟩ := mem_ready.1 hj
      have hiun := (mem_ready.1 hr).1
      obtain ⟨p, op, hpm, hop, hpun, hpe⟩ := hp
      have hjp : j ≠ p := waits_ne hop hpe hiun hj
      have hip : i ≠ p := waits_ne hop hpe hiun hr
      have hnot : ∀ e ∈ oj.after, Region.binds md e = true → e.on ≠ i := fun e he hb heq => waits_ne hoj ⟨e, he, hb, heq⟩ hiun hj rfl
      have hpun' : (listed.setIfInBounds j true).getD p true = false := by rw [getD_set_ne true hjp]; exact hpun
      have hpun2 : ((listed.setIfInBounds i true).setIfInBounds j true).getD p true = false := by rw [getD_set_ne true hjp, getD_set_ne true hip]; exact hpun
      have h2 := wpOp_putIf hoj (hfree j oj hoj hji hjun hnot) (fun cs b => hsel i oi cs b hi) (fun cs b => hsel j oj cs b hoj) hQ hy h1
      have hfree' : ∀ k ok, ops[k]? = some ok → k ≠ i → (listed.setIfInBounds j true).getD k true = false →
          (∀ e ∈ ok.after, Region.binds md e = true → e.on ≠ i) → oi.apart ops ok = true := fun k ok hk hki hun hno => by
        refine hfree k ok hk hki ?_ hno
        by_cases hjk : j = k
        · subst hjk; exact hjun
        · rw [getD_set_ne true hjk] at hun; exact hun
      refine wpOp_mono (fun a' w' h3 => ?_) h2
      have hS' : S w' := h3.2.1 ⟨p, hpm, hpun2⟩
      refine ⟨fun _ => hS', ih (listed.setIfInBounds j true) a' w' hfree' ⟨p, op, hpm, hop, hpun', hpe⟩ (ready_mono hr (Ne.symm hji)) h3.1 hS' ?_⟩
      rw [Array.setIfInBounds_comm _ _ hji]
      exact h3.2.2
theorem more_of_set {listed : Array Bool} {i : Nat} (h : MoreM m (listed.setIfInBounds i true)) : MoreM m listed := by
  obtain ⟨k, hk, hu⟩ := h
  refine ⟨k, hk, ?_⟩
  by_cases e : i = k
  · subst e
    rcases Nat.lt_or_ge i listed.size with h' | h'
    · simp [h'] at hu
    · simp [h'] at hu
  · rwa [getD_set_ne true e] at hu
theorem wpAnyM_pure {i : Nat} {oi : Oper} {v : Value} (hi : ops[i]? = some oi) (hsel : ∀ (j : Nat) (o : Oper) cs b, ops[j]? = some o → o.op ≠ .select cs b)
    (hQ : ∀ c a w, Q (.panic c) (a.put oi.dst v) w → Q (.panic c) a w) :
    ∀ (fuel : Nat) (listed : Array Bool) (a : Act) (w : World),
      (∀ j oj, ops[j]? = some oj → j ≠ i → listed.getD j true = false → (∀ e ∈ oj.after, Region.binds md e = true → e.on ≠ i) → oi.apart ops oj = true) →
      m i = false → i ∈ Region.ready md ops listed → YieldsIf P ops (fun _ => True) oi v a → (MoreM m listed → S w) →
      wpAnyM P md ops Q S m fuel (listed.setIfInBounds i true) (a.put oi.dst v) w → wpAnyM P md ops Q S m (fuel + 1) listed a w := by
  intro fuel
  induction fuel with
  | zero =>
    intro listed a w _ _ hr hy hS H
    refine ⟨fun h => (by rw [h] at hr; cases hr), fun j hj => ?_⟩
    by_cases hji : j = i
    · subst hji
      exact hy.wpOp hi trivial ⟨fun hM => hS (more_of_set hM), H⟩
    · have := ready_mono hj hji
      rw [H.1] at this
      cases this
  | succ fuel ih =>
    intro listed a w hfree hp hr hy hS H
    refine ⟨fun h => (by rw [h] at hr; cases hr), fun j hj => ?_⟩
    by_cases hji : j = i
    · subst hji
      exact hy.wpOp hi trivial ⟨fun hM => hS (more_of_set hM), H⟩
    · have h1 := H.2 j (ready_mono hj hji)
      obtain ⟨hjun, oj, hoj, hall⟩ := mem_ready.1 hj
      have hiun := (mem_ready.1 hr).1
      have hnot : ∀ e ∈ oj.after, Region.binds md e = true → e.on ≠ i := fun e he hb heq => waits_ne hoj ⟨e, he, hb, heq⟩ hiun hj rfl
      have h2 := wpOp_putIf hoj (hfree j oj hoj hji hjun hnot) (fun cs b => hsel i oi cs b hi) (fun cs b => hsel j oj cs b hoj) hQ hy h1
      have hfree' : ∀ k ok, ops[k]? = some ok → k ≠ i → (listed.setIfInBounds j true).getD k true = false →
          (∀ e ∈ ok.after, Region.binds md e = true → e.on ≠ i) → oi.apart ops ok = true := fun k ok hk hki hun hno => by
        refine hfree k ok hk hki ?_ hno
        by_cases hjk : j = k
        · subst hjk; exact hjun
        · rw [getD_set_ne true hjk] at hun; exact hun
      refine wpOp_mono (fun a' w' h3 => ?_) h2
      have hS' : MoreM m (listed.setIfInBounds j true) → S w' := fun ⟨k, hk, hu⟩ => h3.2.1 ⟨k, hk, by
        rw [Array.setIfInBounds_comm _ _ (Ne.symm hji), getD_set_ne true (fun e => by subst e; rw [hp] at hk; cases hk)]
        exact hu⟩
      refine ⟨hS', ih (listed.setIfInBounds j true) a' w' hfree' hp (ready_mono hr (Ne.symm hji)) h3.1 hS' ?_⟩
      rw [Array.setIfInBounds_comm _ _ hji]
      exact h3.2.2
def waitsMB (md : Region.Mode) (ops : Array Oper) (m : Nat → Bool) (listed : Array Bool) (i : Nat) : Bool := (List.range ops.size).any fun p => m p && !listed.getD p true && match ops[p]? with
  | some op => op.after.any fun e => Region.binds md e && e.on == i
  | none => false
theorem waitsMB_spec {listed : Array Bool} {i : Nat} (h : waitsMB md ops m listed i = true) : WaitsM md ops m listed i := by
  simp only [waitsMB, List.any_eq_true, List.mem_range, Bool.and_eq_true] at h
  obtain ⟨p, _, ⟨hp, h1⟩, h2⟩ := h
  cases ho : ops[p]? with
  | none => simp [ho] at h2
  | some op =>
    rw [ho] at h2
    obtain ⟨k, hk, hb⟩ := Array.any_eq_true.1 h2
    simp only [Bool.and_eq_true, beq_iff_eq] at hb
    exact ⟨p, op, hp, ho, by simpa using h1, op.after[k], Array.getElem_mem _, hb.1, hb.2⟩
end
section
variable {P : Program} {l rest : List Oper} {Q : Exit → Act → World → Prop} {md : Region.Mode} {S : World → Prop} {oi : Oper} {fuel : Nat} {m : Nat → Bool} {listed : Array Bool} {a : Act} {w : World}
theorem rgnM (m : Nat → Bool) {id : Nat} (hm : P.follows .mixedOrders = true) (hS : S w.drew) (h : S w.drew → wpAnyM P .any l.toArray Q S m l.toArray.size (Array.replicate l.toArray.size false) a w.drew) : (Code.region id l.toArray true).wp P Q a w :=
  wp_region_any hm (wpAny_of_M _ _ _ _ (h hS))
theorem takeM (i : Nat) {v : Value} (hn : l.drop i = oi :: rest) (hs : Region.noSelect l.toArray = true) (hf : Region.free md l.toArray listed i = true) (hr : (Region.ready md l.toArray listed).contains i = true) (hp : waitsMB md l.toArray m listed i = true)
    (hQ : ∀ c a w, Q (.panic c) (a.put oi.dst v) w → Q (.panic c) a w) (hw : Region.wanted oi (yielded l.toArray a.tmps) = true) (hrun : ∀ w, S w → (execOp a.eval oi).run P w = .ok (.value v) w) (hS : S w)
    (h : wpAnyM P md l.toArray Q S m fuel (listed.setIfInBounds i true) (a.put oi.dst v) w) : wpAnyM P md l.toArray Q S m (fuel + 1) listed a w :=
  wpAnyM_first (at_drop hn) (Region.noSelect_spec hs) hQ fuel listed a w (Region.free_spec (at_drop hn) hf) (waitsMB_spec hp) (by simpa using hr) (Or.inl ⟨hw, hrun⟩) hS h
theorem skipM (i : Nat) (hn : l.drop i = oi :: rest) (hs : Region.noSelect l.toArray = true) (hf : Region.free md l.toArray listed i = true) (hr : (Region.ready md l.toArray listed).contains i = true) (hp : waitsMB md l.toArray m listed i = true)
    (hQ : ∀ c a w, Q (.panic c) (a.put oi.dst undef) w → Q (.panic c) a w) (hw : Region.wanted oi (yielded l.toArray a.tmps) = false) (hS : S w)
    (h : wpAnyM P md l.toArray Q S m fuel (listed.setIfInBounds i true) (a.put oi.dst undef) w) : wpAnyM P md l.toArray Q S m (fuel + 1) listed a w :=
  wpAnyM_first (at_drop hn) (Region.noSelect_spec hs) hQ fuel listed a w (Region.free_spec (at_drop hn) hf) (waitsMB_spec hp) (by simpa using hr) (Or.inr ⟨hw, rfl⟩) hS h
/-- one that looks at no memory -/
theorem pureM (i : Nat) {v : Value} (hn : l.drop i = oi :: rest) (hs : Region.noSelect l.toArray = true) (hf : Region.free md l.toArray listed i = true) (hr : (Region.ready md l.toArray listed).contains i = true) (hp : m i = false)
    (hQ : ∀ c a w, Q (.panic c) (a.put oi.dst v) w → Q (.panic c) a w) (hw : Region.wanted oi (yielded l.toArray a.tmps) = true) (hrun : ∀ w, (execOp a.eval oi).run P w = .ok (.value v) w) (hS : MoreM m listed → S w)
    (h : wpAnyM P md l.toArray Q S m fuel (listed.setIfInBounds i true) (a.put oi.dst v) w) : wpAnyM P md l.toArray Q S m (fuel + 1) listed a w :=
  wpAnyM_pure (at_drop hn) (Region.noSelect_spec hs) hQ fuel listed a w (Region.free_spec (at_drop hn) hf) hp (by simpa using hr) (Or.inl ⟨hw, fun w _ => hrun w⟩) hS h
/-- the only one that may come up; S behind it -/
theorem oneM (i : Nat) (hn : l.drop i = oi :: rest) (hr : Region.ready md l.toArray listed = [i]) (hw : Region.wanted oi (yielded l.toArray a.tmps) = true)
    (h : ∀ K' : Act → World → Prop, Shut (∀ a w, S w → (S w → wpAnyM P md l.toArray Q S m fuel (listed.setIfInBounds i true) a w) → K' a w) → Oper.wp P oi a w K' Q) : wpAnyM P md l.toArray Q S m (fuel + 1) listed a w := by
  refine ⟨fun h0 => absurd (hr ▸ h0) (by simp), fun j hj => ?_⟩
  rw [hr] at hj
  obtain rfl : j = i := by simpa using hj
  exact wpOp_step (at_drop hn) fun K' hK => by rw [if_pos hw]; exact h K' (fun a w hS hW => hK a w ⟨fun _ => hS, hW hS⟩)
/-- the only one that may come up; the first m are done -/
theorem freeM (i : Nat) (hn : l.drop i = oi :: rest) (hr : Region.ready md l.toArray listed = [i]) (hl : ((List.range listed.size).all fun k => !m k || (listed.setIfInBounds i true).getD k true) = true) (hw : Region.wanted oi (yielded l.toArray a.tmps) = true)
    (h : ∀ K' : Act → World → Prop, Shut (∀ a w, wpAnyM P md l.toArray Q S m fuel (listed.setIfInBounds i true) a w → K' a w) → Oper.wp P oi a w K' Q) : wpAnyM P md l.toArray Q S m (fuel + 1) listed a w := by
  refine ⟨fun h0 => absurd (hr ▸ h0) (by simp), fun j hj => ?_⟩
  rw [hr] at hj
  obtain rfl : j = i := by simpa using hj
  refine wpOp_step (at_drop hn) fun K' hK => by
    rw [if_pos hw]
    refine h K' fun a w hq => hK a w ⟨fun ⟨k, hk, hm⟩ => ?_, hq⟩
    have hlt : k < listed.size := by
      rcases Nat.lt_or_ge k listed.size with h' | h'
      · exact h'
      · simp [h'] at hm
    have := List.all_eq_true.1 hl k (List.mem_range.2 hlt)
    rw [hm, hk] at this
    cases this
theorem doneM (hd : Region.ready md l.toArray listed = []) (hq : Q .normal a w) : wpAnyM P md l.toArray Q S m fuel listed a w := by
  cases fuel with
  | zero => exact ⟨hd, hq⟩
  | succ n => exact ⟨fun _ => hq, by rw [hd]; simp⟩
end
end Go.Proofs.YtfongpdeflfioaaGreat
/- A range over a function, by a world's items: what is walked in a round is walked as elsewhere; the law. Laws over whatever program. -/
namespace Go.Proofs.YtfongpdeflfioaaGreat
open Go.RowKit Go.Shelf
set_option linter.unusedVariables false

section
variable {P : Program} {ops : Array Oper} {l rest : List Oper} {Q : Exit → Act → World → Prop} {md : Region.Mode} {r n : Nat} {o : Oper} {a : Act} {w : World}
def calm (o : Oper) : Bool := match o.op with
  | .defer _ => false
  | _ => true
theorem calm_spec {o : Oper} (h : calm o = true) : ∀ c, o.op ≠ .defer c := fun c e => by rw [calm, e] at h; cases h
theorem rowsIn_of {row : String} {args : Array Value} {w : World} {R : Value → World → Prop} (h : Rows P row args w R) : RowsIn (Fence.wide.inRound r) n P row args w R :=
  fun c cs _ => let ⟨v, w', q, s⟩ := h c cs; ⟨v, w', q, stepsIn_wide.2 s⟩
/-- in a round an operation that is no 'defer' goes as elsewhere -/
theorem opIn_of {K : Act → World → Prop} (hc : calm o = true) (h : o.wp P a w K Q) : o.wpIn (Fence.wide.inRound r) n P a w K Q := by
  refine ⟨fun _ _ => trivial, ?_⟩
  rw [Oper.semAt_plain _ _ _ (calm_spec hc)]
  unfold Oper.wp at h
  generalize (execOp a.eval o).run P w = x at *
  cases x with
  | ok x w' =>
    cases x <;> simp only [Oper.upon, Oper.uponIn] at h ⊢
    case value v => exact h
    case skip => exact h
    case defer d => exact h
    case enter f args => exact ⟨fun h => by simp [Fence.wide] at h, CallsIn.inRound r (callsIn_wide.2 h)⟩
    case row row args => exact ⟨fun h => by simp [Fence.wide] at h, rowsIn_of h⟩
  | halt x w' => cases x <;> simp only [Oper.upon, Oper.uponIn] at h ⊢ <;> exact h
theorem listIn_of (hL : ¬ LetsOut Q) : ∀ (l : List Oper) (a : Act) (w : World), l.all calm = true → wpList P ops Q l a w → wpListIn (Fence.wide.inRound r) n P ops Q l a w
  | [], _, _, _, h => h
  | o :: l, a, w, hc, h => by
    rw [List.all_cons, Bool.and_eq_true] at hc
    simp only [wpList, wpListIn] at h ⊢
    split at h
    · rename_i hw
      rw [if_pos hw]
      rcases h with h | ⟨_, h⟩
      · exact opIn_of hc.1 (Oper.wp_mono (fun a w => listIn_of hL l a w hc.2) h)
      · exact absurd h hL
    · rename_i hw
      rw [if_neg hw]
      exact ⟨fun _ _ => trivial, listIn_of hL l _ _ hc.2 h⟩
theorem opAtIn_of (hL : ¬ LetsOut Q) (hc : ops.toList.all calm = true) {K : Act → World → Prop} {i : Nat} (h : wpOp P ops Q i K a w) : wpOpIn (Fence.wide.inRound r) n P ops Q i K a w := by
  unfold wpOp at h
  unfold wpOpIn
  cases ho : ops[i]? with
  | none => rw [ho] at h; exact h
  | some o =>
    rw [ho] at h
    simp only at h ⊢
    have hco : calm o = true := List.all_eq_true.1 hc o (by
      obtain ⟨hi, rfl⟩ := Array.getElem?_eq_some_iff.1 ho
      exact Array.getElem_mem_toList hi)
    split at h
    · rename_i hw
      rw [if_pos hw]
      rcases h with h | ⟨_, h⟩
      · exact opIn_of hco h
      · exact absurd h hL
    · rename_i hw
      rw [if_neg hw]
      exact ⟨fun _ _ => trivial, h⟩
theorem anyIn_of (hL : ¬ LetsOut Q) (hc : ops.toList.all calm = true) : ∀ (fuel : Nat) (listed : Array Bool) (a : Act) (w : World), wpAny P md ops Q fuel listed a w → wpAnyIn (Fence.wide.inRound r) n P md ops Q fuel listed a w
  | 0, _, _, _, h => h
  | fuel + 1, _, _, _, h => ⟨h.1, fun i hi => opAtIn_of hL hc (wpOp_mono (fun a w => anyIn_of hL hc fuel _ a w) (h.2 i hi))⟩
/-- a plain region in a round -/
theorem regionIn {id : Nat} (hL : ¬ LetsOut Q) (hc : l.all calm = true) (h : wpList P l.toArray Q l a w) : (Code.region id l.toArray false).wpIn (Fence.wide.inRound r) n P Q a w :=
  wpIn_region_lit (listIn_of hL l a w hc h)
/-- a region that draws, in a round -/
theorem regionInD {id : Nat} (hL : ¬ LetsOut Q) (hc : l.all calm = true) (hm : P.follows .mixedOrders = true) (h : wpAny P .any l.toArray Q l.toArray.size (Array.replicate l.toArray.size false) a w.drew) :
    (Code.region id l.toArray true).wpIn (Fence.wide.inRound r) n P Q a w :=
  wpIn_region_any hm (anyIn_of hL (by simpa using hc) _ _ _ _ h)
theorem heldIn {id : Nat} {S : World → Prop} (hL : ¬ LetsOut Q) (hc : l.all calm = true) (hm : P.follows .mixedOrders = true) (hS : S w.drew) (h : S w.drew → wpAnyH P .any l.toArray Q S l.toArray.size (Array.replicate l.toArray.size false) a w.drew) :
    (Code.region id l.toArray true).wpIn (Fence.wide.inRound r) n P Q a w :=
  regionInD hL hc hm (wpAny_of_held _ _ _ _ (h hS))
theorem rgnMIn {id : Nat} {S : World → Prop} (m : Nat → Bool) (hL : ¬ LetsOut Q) (hc : l.all calm = true) (hm : P.follows .mixedOrders = true) (hS : S w.drew) (h : S w.drew → wpAnyM P .any l.toArray Q S m l.toArray.size (Array.replicate l.toArray.size false) a w.drew) :
    (Code.region id l.toArray true).wpIn (Fence.wide.inRound r) n P Q a w :=
  regionInD hL hc hm (wpAny_of_M _ _ _ _ (h hS))
end

/-- one object that is no cells -/
abbrev It.obj (b : Nat) (o : Obj) : It := .any (fun k => k = b) (fun w => w.heap[b]? = some o) (fun w k h e => by rw [e]; exact (Array.getElem?_eq_some_iff.1 h).1) (fun w w' _ hk h => (hk b rfl).trans h)
/-- many objects -/
abbrev It.objs (f : Nat → Option Obj) : It := .any (fun k => (f k).isSome = true) (fun w => ∀ k o, f k = some o → w.heap[k]? = some o)
  (fun w k h e => by
    obtain ⟨o, ho⟩ := Option.isSome_iff_exists.1 e
    exact (Array.getElem?_eq_some_iff.1 (h k o ho)).1) (fun w w' _ hk h k o ho => (hk k (by rw [ho]; rfl)).trans (h k o ho))
/-- the item lies below B, or in cells -/
def Calm (B : Nat) (x : It) : Prop := ∀ (base : Nat) (W : World) (k : Nat), x.holds base W → x.at' k → k < B ∨ ∃ o : Obj, W.heap[k]? = some o ∧ o.isCells = true
theorem calm_cell {w : World} {p : Addr} {v : Value} (hv : w.cell? p = some v) : ∃ o : Obj, w.heap[p.block]? = some o ∧ o.isCells = true := by
  unfold World.cell? at hv
  cases hh : w.heap[p.block]? with
  | none => rw [hh] at hv; cases hv
  | some o =>
    rw [hh] at hv
    refine ⟨o, rfl, ?_⟩
    cases o <;> first | rfl | (simp at hv)
theorem calm_box {B b : Nat} {v : Value} {vs : List Value} : Calm B (.box b (v :: vs)) := fun base W k h ha => .inr (by
  cases ha
  exact calm_cell (p := ⟨b, 0, none⟩) (h.2.cell 0 v rfl))
theorem calm_row {B size n : Nat} {e : TypeId} {v : Value} {xs : List Value} : Calm B (.row e size v n xs) := fun base W k h ha => .inr (by
  rcases h.2 with ⟨hv, _⟩ | ⟨g, cap, cur, hv, h2, h3, h4⟩
  · rw [hv] at ha; cases ha
  · rw [hv] at ha
    cases ha
    exact ⟨_, h3, rfl⟩)
theorem calm_rd {B : Nat} {A : Option Addr} {cs : List Value} : Calm B (.rd A cs) := fun base W k h ha => .inr (by
  obtain ⟨hn, a, rfl, rfl⟩ := ha
  obtain ⟨b, o, he, h1, h2, h3⟩ := h hn
  cases he
  obtain ⟨c, cs', rfl⟩ : ∃ c cs', cs = c :: cs' := by cases cs with
    | nil => exact absurd rfl hn
    | cons c cs' => exact ⟨c, cs', rfl⟩
  exact calm_cell (p := ⟨b, o + 0, none⟩) (h3 0 c rfl))
theorem calm_low {B : Nat} {S : Nat → Prop} {p : World → Prop} {lt keep} (h : ∀ k, S k → k < B) : Calm B (.any S p lt keep) := fun base W k _ ha => .inl (h k ha)
theorem walk_cells {o : Obj} (h : o.isWalk = true) (k : o.isCells = true) : False := by cases o <;> simp [Obj.isWalk, Obj.isCells] at h k
/-- what a round keeps for the iterator -/
def KeepW (lo B : Nat) (W W' : World) : Prop := ∀ (k : Nat) (o : Obj), (k < lo ∨ B ≤ k) → W.heap[k]? = some o → o.isWalk = true → W'.heap[k]? = some o

section
variable {P : Program} {w0 w w' : World} {its : List It} {i : Nat}
theorem Heap.objAt {b : Nat} {o : Obj} (h : Heap w0 its w) (i : Nat) (hi : its[i]? = some (.obj b o)) : w.heap[b]? = some o := (h.all i _ hi).2
theorem Heap.addObj (h : Heap w0 its w) (o : Obj) : Heap w0 (.obj w.heap.size o :: its) (w.alloc o) :=
  h.add ((Ext.refl w).alloc o) ⟨fun k hk => by subst hk; exact h.ext.size, World.alloc_heap_new w o⟩ fun k hk => by cases hk; exact Nat.le_refl _
theorem keep_putObj (w : World) (b : Nat) (o : Obj) : Keep (fun k => k ≠ b) w (w.putObj b o) :=
  ⟨rfl, rfl, rfl, by simp, fun k _ hk => World.putObj_heap_other hk⟩
theorem Heap.putObj {b : Nat} {o : Obj} (h : Heap w0 its w) (i : Nat) (hi : its[i]? = some (.obj b o)) (o' : Obj) : Heap w0 (its.set i (.obj b o')) (w.putObj b o') :=
  h.upd hi ((keep_putObj w b o').mono fun k hk e => hk e) ⟨(h.all i _ hi).1, World.putObj_heap_same (Array.getElem?_eq_some_iff.1 (h.objAt i hi)).1⟩ (fun k hk => .inl hk) (fun k hk => .inl hk) fun k hk => (h.all i _ hi).1 k hk
/-- an item beside the others, in blocks that are none of theirs -/
theorem Heap.beside {x : It} (h : Heap w0 its w) (hx : x.holds w0.heap.size w) (hn : ∀ k, x.at' k → ∀ y ∈ its, ¬ y.at' k) : Heap w0 (x :: its) w := by
  refine ⟨h.ext, fun j y hy => ?_, fun j l y z k hjl hy hz ho hat => ?_⟩
  · cases j with
    | zero => cases hy; exact hx
    | succ j => exact h.all j y hy
  · cases j with
    | zero =>
      cases hy
      cases l with
      | zero => exact hjl rfl
      | succ l => exact hn k (It.own_at ho) z (List.mem_of_getElem? hz) hat
    | succ j =>
      cases l with
      | zero => cases hz; exact hn k hat y (List.mem_of_getElem? hy) (It.own_at ho)
      | succ l => exact h.apart j l y z k (fun e => hjl (by omega)) hy hz ho hat
/-- an iterator's step turns none of the items -/
theorem Heap.turned {B : Nat} {row : Option Nat} (h : Heap w0 its w) (hB : w0.heap.size ≤ B) (hc : ∀ x ∈ its, Calm B x) (hg : w.grownBy w' row) (hr : ∀ r, row = some r → B ≤ r ∧ ∃ o : Obj, w.heap[r]? = some o ∧ o.isWalk = true) : Heap w0 its w' := by
  refine ⟨Below.grown h.ext hg h.ext.size (fun k e => Nat.le_trans hB (hr k e).1), fun i x hx => ?_, h.apart⟩
  refine It.keeps (h.all i x hx) hg.size fun k hk => hg.block k (It.at_lt (h.all i x hx) hk) fun e => ?_
  obtain ⟨hb, o, ho, hw⟩ := hr k e.symm
  rcases hc x (List.mem_of_getElem? hx) _ _ k (h.all i x hx) hk with h1 | ⟨o', h1, h2⟩
  · omega
  · rw [ho] at h1
    cases h1
    exact walk_cells hw h2

/-- a range over a function, by items: its rounds turn items of which R pre holds to such of which R (pre ++ [x]) does; ok: what the iterator promises of what comes next -/
theorem rangeH {α : Type} {N : Nat} {g : Operand} {ps : Array Tmp} {assign body : Code} {Q : Exit → Act → World → Prop} {a : Act} {gf : Nat} {lb : Array Value} {encs : α → Array Value} {ok : List α → α → Prop} {S : List α → Prop} (R : List α → List It → Prop) (turns : Bool)
    (hg : a.eval g = .func (.func gf) #[] lb) (eg : ∀ args w, (callFunc gf args).run P w = .ok (.enter gf args) w) (hps : ∀ x, (encs x).size = ps.size)
    (hcalm : turns = true → ∀ pre L, R pre L → ∀ x ∈ L, Calm w.heap.size x)
    (hseq : ∀ (l : Nat) (J : List α → World → Prop) (W : World), Ext w W → (∀ pre W, J pre W → ∃ x y L, R pre L ∧ Heap w0 (x :: y :: L) W) → (∀ pre W, J pre W → J pre W.drew) → (turns = true → AbidesFrom W.heap.size J) →
      (∀ pre x W1, J pre W1 → pre.length < N → ok pre x → YieldAt Fence.wide 0 P l (encs x) W1 fun e W' => e = .returned (.bool true) ∧ J (pre ++ [x]) W' ∧ (turns = true → KeepW w0.heap.size W.heap.size W1 W')) → J [] W →
      Calls P gf (#[.func (.yield l) #[] #[]] ++ lb) W fun e W' => (∃ v, e = .returned v) ∧ ∃ xs, S xs ∧ J xs W')
    {L0 : List It} (hR0 : R [] L0) (h0 : Heap w0 L0 w) (a₁ : α → Act)
    (hassign : ∀ (l : Nat) (x : α) (W : World) (K : Act → World → Prop), K (a₁ x) W →
      assign.wpIn (Fence.wide.inRound l) 0 P (Exit.then K (fun _ _ _ => False)) { tmps := (ps.zip (encs x)).foldl (fun t (p, v) => t.setIfInBounds p v) a.tmps, defers := [] } W)
    (hbody : ∀ (l : Nat) (pre : List α) (x : α) (y1 y2 y3 : It) (L : List It) (W : World), pre.length < N → ok pre x → R pre L → Heap w0 (y1 :: y2 :: y3 :: L) W → body.wpIn (Fence.wide.inRound l) 0 P (fun e _ W' => e = .normal ∧ ∃ L', R (pre ++ [x]) L' ∧ Heap w0 (y1 :: y2 :: y3 :: L') W') (a₁ x) W)
    (hdone : ∀ (D : Nat) (y : It) (xs : List α) (L : List It) (W : World), S xs → R xs L → Heap w0 (y :: .obj D (.deferred (some [])) :: L) W → Q .normal { a with defers := { target := .collected D, args := #[] } :: a.defers } W) :
    (Code.rangeFunc g ps assign body).wp P Q a w := by
  refine (wpIn_wide (n := 0)).1 (wpIn_rangeFunc ?_)
  intro fn _
  obtain ⟨rc, hrc⟩ : ∃ rc : LoopState → Option Code → Loop, rc = fun st pe => { state := st, pending := pe, fn, tmps := a.tmps, params := ps, assign, body, defers := w.heap.size } := ⟨_, rfl⟩
  obtain ⟨W1, hW1⟩ : ∃ W1, (w.alloc (.deferred (some []))).alloc (.loop (rc .ready none)) = W1 := ⟨_, rfl⟩
  have H1 : Heap w0 (.obj (w.heap.size + 1) (.loop (rc .ready none)) :: .obj w.heap.size (.deferred (some [])) :: L0) W1 := by
    have h := (h0.addObj (.deferred (some []))).addObj (.loop (rc .ready none))
    rw [← hW1]
    simpa only [World.size_alloc] using h
  have E1 : Ext w W1 := by rw [← hW1]; exact ((Ext.refl w).alloc _).alloc _
  have hs1 : W1.heap.size = w.heap.size + 1 + 1 := by rw [← hW1]; simp
  have hcl : turns = true → ∀ pre L, R pre L → ∀ o1 o2, ∀ x ∈ It.obj (w.heap.size + 1) o1 :: It.obj w.heap.size o2 :: L, Calm W1.heap.size x := fun ht pre L hL o1 o2 x hx => by
    rcases List.mem_cons.1 hx with rfl | hx
    · exact calm_low fun k e => by subst e; omega
    rcases List.mem_cons.1 hx with rfl | hx
    · exact calm_low fun k e => by subst e; omega
    intro base W k h ha
    rcases hcalm ht pre L hL x hx base W k h ha with h1 | h1
    · exact .inl (by omega)
    · exact .inr h1
  refine ⟨w.heap.size + 1, [{ target := .collected w.heap.size, args := #[] }], W1, { target := .fn (.func gf) lb, args := #[.func (.yield (w.heap.size + 1)) #[] #[]] }, W1, gf,
    #[.func (.yield (w.heap.size + 1)) #[] #[]] ++ lb, W1, ?_, ?_, ?_, ?_, fun h => by simp [Fence.wide] at h, ?_⟩
  · rw [← hW1, hrc]
    exact run_enterLoop_outer _ _ _ _ _
  · simp only [resolve, hg]
    simp [go_sem]
  · intro f' _
    trivial
  · simp [invoke, go_sem, eg]
  · refine callsIn_wide.2 ((hseq (w.heap.size + 1) (fun pre W => ∃ L, R pre L ∧ Heap w0 (.obj (w.heap.size + 1) (.loop (rc .ready none)) :: .obj w.heap.size (.deferred (some [])) :: L) W) W1 E1 (fun k W h => let ⟨L, h1, h2⟩ := h; ⟨_, _, L, h1, h2⟩) (fun k W h => let ⟨L, h1, h2⟩ := h; ⟨L, h1, h2.drew⟩) (fun ht pre A B row hA hgr hrow => let ⟨L, h1, h2⟩ := hA; ⟨L, h1, h2.turned (Nat.le_trans h0.ext.size E1.size) (hcl ht pre L h1 _ _) hgr hrow⟩) ?_ ⟨L0, hR0, H1⟩).mono ?_)
    · rintro pre x W ⟨L, hRL, H⟩ hk hok
      have hl := H.objAt 0 rfl
      have hy := run_yield (P := P) (args := encs x) hl (by rw [hrc]; exact hps x)
      rw [hrc] at hy
      refine ⟨fn, _, assign, body, hy, roundIn_of_wpIn trivial (hassign _ x W _ ?_)⟩
      clear hy
      refine ⟨_, run_beginRound hl (by rw [hrc]), ?_⟩
      have H2 := H.putObj 0 rfl (.loop { rc .ready none with state := .busy })
      obtain ⟨W2, hW2⟩ : ∃ W2, W.putObj (w.heap.size + 1) (.loop { rc .ready none with state := .busy }) = W2 := ⟨_, rfl⟩
      rw [hW2] at H2 ⊢
      have hother : ∀ k, k ≠ w.heap.size + 1 → W2.heap[k]? = W.heap[k]? := fun k hk => by rw [← hW2]; exact World.putObj_heap_other hk
      have hsz2 : W2.heap.size = W.heap.size := by rw [← hW2]; simp
      let f : Nat → Option Obj := fun k => if turns = true ∧ W1.heap.size ≤ k then (match W2.heap[k]? with
        | some o => if o.isWalk then some o else none
        | none => none) else none
      have hf : ∀ k o, f k = some o → turns = true ∧ W1.heap.size ≤ k ∧ W2.heap[k]? = some o ∧ o.isWalk = true := fun k o h => by
        simp only [f] at h
        split at h
        · rename_i hc
          split at h
          · rename_i o' ho'
            split at h
            · rename_i hw
              cases h
              exact ⟨hc.1, hc.2, ho', hw⟩
            · cases h
          · cases h
        · cases h
      have H3 := Heap.beside (x := .objs f) H2 ⟨fun k hk => by
          obtain ⟨o, ho⟩ := Option.isSome_iff_exists.1 hk
          have := (hf k o ho).2.1
          have := H1.ext.size
          omega, fun k o ho => (hf k o ho).2.2.1⟩ (fun k hk y hy hat => by
          obtain ⟨o, ho⟩ := Option.isSome_iff_exists.1 hk
          obtain ⟨ht, hle, ho2, hw⟩ := hf k o ho
          obtain ⟨j, hj⟩ := List.getElem?_of_mem hy
          rcases hcl ht pre L hRL _ _ y hy w0.heap.size W2 k (H2.all j y hj) hat with h1 | ⟨o', h1, h2⟩
          · omega
          · rw [ho2] at h1
            cases h1
            exact walk_cells hw h2)
      refine wpIn_mono (hbody _ pre x _ _ _ L W2 hk hok hRL H3) ?_
      rintro e a3 W3 ⟨rfl, L', hRL', H4⟩
      have H5 := H4.tail
      have hl3 := H5.objAt 0 rfl
      refine ⟨_, _, run_endRound (P := P) none hl3, rfl, ?_, fun ht => ?_⟩
      · have H6 := H5.putObj 0 rfl (.loop (rc .ready none))
        rw [hrc] at H6 ⊢
        exact ⟨L', hRL', H6⟩
      intro k o hk ho hw
      have hne : k ≠ w.heap.size + 1 := by
        have := h0.ext.size
        rcases hk with h | h
        · omega
        · omega
      have ho2 : W2.heap[k]? = some o := (hother k hne).trans ho
      have ho3 : W3.heap[k]? = some o := by
        rcases hk with h | h
        · exact ((H4.ext.block k h).trans (H2.ext.block k h).symm).trans ho2
        · refine (H4.all 0 _ rfl).2 k o ?_
          simp only [f]
          rw [if_pos ⟨ht, h⟩, ho2]
          simp only [hw, if_true]
      exact (World.putObj_heap_other hne).trans ho3
    · rintro e W2 ⟨⟨v, rfl⟩, xs, hS, L, hRL, H⟩
      have hl := H.objAt 0 rfl
      exact ⟨_, _, run_endLoop (P := P) hl (by rw [hrc]; simp), by
        simp only [hrc]
        exact hdone _ _ xs L _ hS hRL (H.putObj 0 rfl _)⟩
end
end Go.Proofs.YtfongpdeflfioaaGreat
