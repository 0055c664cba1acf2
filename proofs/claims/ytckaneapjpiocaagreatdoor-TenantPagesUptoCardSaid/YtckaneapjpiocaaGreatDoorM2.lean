/- The texts Reg, Dat, Mem, Regm, Sho in one file. -/
import Derived.Test.YtckaneapjpiocaaGreatDoorM1
import Derived.IntWalk
import Derived.Deep.DeepCutAuto
/- Steps through a region that draws its order, operation by operation: laws over whatever program. -/
namespace Go.Proofs.YtckaneapjpiocaaGreatDoor
open Go.RowKit
section
variable {P : Program} {l rest : List Oper} {Q : Exit → Act → World → Prop} {md : Region.Mode} {S : World → Prop} {oi : Oper} {fuel : Nat} {listed : Array Bool} {a : Act} {w : World}
theorem at_drop {i : Nat} (hn : l.drop i = oi :: rest) : l.toArray[i]? = some oi := by
  have : (l.drop i)[0]? = some oi := by rw [hn]; rfl
  simpa using this
theorem takeL (i : Nat) {v : Value} (hn : l.drop i = oi :: rest) (hs : Region.noSelect l.toArray = true) (hf : Region.free md l.toArray listed i = true) (hr : (Region.ready md l.toArray listed).contains i = true)
    (hQ : ∀ c a w, Q (.panic c) (a.put oi.dst v) w → Q (.panic c) a w) (hw : Region.wanted oi (yielded l.toArray a.tmps) = true) (hrun : ∀ w, S w → (execOp a.eval oi).run P w = .ok (.value v) w) (hS : S w)
    (h : wpAnyH P md l.toArray Q S fuel (listed.setIfInBounds i true) (a.put oi.dst v) w) : wpAnyH P md l.toArray Q S (fuel + 1) listed a w :=
  wpAnyH_take (at_drop hn) hs hf hr hQ (Or.inl ⟨hw, hrun⟩) hS h
theorem skipL (i : Nat) (hn : l.drop i = oi :: rest) (hs : Region.noSelect l.toArray = true) (hf : Region.free md l.toArray listed i = true) (hr : (Region.ready md l.toArray listed).contains i = true)
    (hQ : ∀ c a w, Q (.panic c) (a.put oi.dst undef) w → Q (.panic c) a w) (hw : Region.wanted oi (yielded l.toArray a.tmps) = false) (hS : S w)
    (h : wpAnyH P md l.toArray Q S fuel (listed.setIfInBounds i true) (a.put oi.dst undef) w) : wpAnyH P md l.toArray Q S (fuel + 1) listed a w :=
  wpAnyH_take (at_drop hn) hs hf hr hQ (Or.inr ⟨hw, rfl⟩) hS h
theorem oneL (i : Nat) (hn : l.drop i = oi :: rest) (hr : Region.ready md l.toArray listed = [i]) (hw : Region.wanted oi (yielded l.toArray a.tmps) = true)
    (h : ∀ K' : Act → World → Prop, Shut (∀ a w, S w → (S w → wpAnyH P md l.toArray Q S fuel (listed.setIfInBounds i true) a w) → K' a w) → Oper.wp P oi a w K' Q) : wpAnyH P md l.toArray Q S (fuel + 1) listed a w :=
  wpAnyH_ready hr (by simp) (AllReadyH.cons (at_drop hn) (fun K' hK => by rw [if_pos hw]; exact h K' hK) AllReadyH.nil)
theorem tU (i : Nat) {v : Value} (hn : l.drop i = oi :: rest) (hc : (Region.noSelect l.toArray && Region.free md l.toArray listed i && (Region.ready md l.toArray listed).contains i && Region.wanted oi (yielded l.toArray a.tmps)) = true)
    (hQ : ∀ c a w, Q (.panic c) (a.put oi.dst v) w → Q (.panic c) a w) (hrun : ∀ w, S w → (execOp a.eval oi).run P w = .ok (.value v) w) (hS : S w)
    (h : wpAnyH P md l.toArray Q S fuel (listed.setIfInBounds i true) (a.put oi.dst v) w) : wpAnyH P md l.toArray Q S (fuel + 1) listed a w := by
  simp only [Bool.and_eq_true] at hc
  exact takeL i hn hc.1.1.1 hc.1.1.2 hc.1.2 hQ hc.2 hrun hS h
theorem sU (i : Nat) (hn : l.drop i = oi :: rest) (hc : (Region.noSelect l.toArray && Region.free md l.toArray listed i && (Region.ready md l.toArray listed).contains i && !Region.wanted oi (yielded l.toArray a.tmps)) = true)
    (hQ : ∀ c a w, Q (.panic c) (a.put oi.dst undef) w → Q (.panic c) a w) (hS : S w)
    (h : wpAnyH P md l.toArray Q S fuel (listed.setIfInBounds i true) (a.put oi.dst undef) w) : wpAnyH P md l.toArray Q S (fuel + 1) listed a w := by
  simp only [Bool.and_eq_true, Bool.not_eq_true'] at hc
  exact skipL i hn hc.1.1.1 hc.1.1.2 hc.1.2 hQ hc.2 hS h
end

/-! Steps through a region whose last operation may write what the region reads: S is asked behind each operation but the last. -/
section
variable {P : Program} {ops : Array Oper} {Q : Exit → Act → World → Prop} {md : Region.Mode} {S : World → Prop}
/-- some operation has not come up -/
def More (ops : Array Oper) (listed : Array Bool) : Prop := ∃ k, k < ops.size ∧ listed.getD k true = false
def wpAnyE (P : Program) (md : Region.Mode) (ops : Array Oper) (Q : Exit → Act → World → Prop) (S : World → Prop) : Nat → Array Bool → Act → World → Prop
  | 0, listed, a, w => Region.ready md ops listed = [] ∧ Q .normal a w
  | fuel + 1, listed, a, w =>
    (Region.ready md ops listed = [] → Q .normal a w) ∧
    ∀ i ∈ Region.ready md ops listed, wpOp P ops Q i (fun a' w' => (More ops (listed.setIfInBounds i true) → S w') ∧ wpAnyE P md ops Q S fuel (listed.setIfInBounds i true) a' w') a w
theorem wpAny_of_E : ∀ (fuel : Nat) (listed : Array Bool) (a : Act) (w : World), wpAnyE P md ops Q S fuel listed a w → wpAny P md ops Q fuel listed a w
  | 0, _, _, _, h => h
  | fuel + 1, _, _, _, h => ⟨h.1, fun i hi => wpOp_mono (fun a' w' h' => wpAny_of_E fuel _ a' w' h'.2) (h.2 i hi)⟩
/-- an operation p that has not come up waits for i -/
def Waits (md : Region.Mode) (ops : Array Oper) (listed : Array Bool) (i : Nat) : Prop :=
  ∃ p op, ops[p]? = some op ∧ listed.getD p true = false ∧ ∃ e ∈ op.after, Region.binds md e = true ∧ e.on = i
theorem waits_ne {listed : Array Bool} {i j p : Nat} {op : Oper} (hp : ops[p]? = some op) (he : ∃ e ∈ op.after, Region.binds md e = true ∧ e.on = i) (hun : listed.getD i true = false) (hj : j ∈ Region.ready md ops listed) : j ≠ p := by
  rintro rfl
  obtain ⟨_, oj, hoj, hall⟩ := mem_ready.1 hj
  rw [hp] at hoj
  cases hoj
  obtain ⟨e, he, hb, rfl⟩ := he
  have h1 := hall e he hb
  rcases Nat.lt_or_ge e.on listed.size with h' | h'
  · simp [h'] at hun h1
    rw [hun] at h1
    cases h1
  · simp [Array.getElem?_eq_none h'] at h1
theorem lt_of_some {p : Nat} {op : Oper} (hp : ops[p]? = some op) : p < ops.size := (Array.getElem?_eq_some_iff.1 hp).1
theorem wpAnyE_first {i : Nat} {oi : Oper} {v : Value} (hi : ops[i]? = some oi) (hsel : ∀ (j : Nat) (o : Oper) cs b, ops[j]? = some o → o.op ≠ .select cs b)
    (hQ : ∀ c a w, Q (.panic c) (a.put oi.dst v) w → Q (.panic c) a w) :
    ∀ (fuel : Nat) (listed : Array Bool) (a : Act) (w : World),
      (∀ j oj, ops[j]? = some oj → j ≠ i → listed.getD j true = false → (∀ e ∈ oj.after, Region.binds md e = true → e.on ≠ i) → oi.apart ops oj = true) →
      Waits md ops listed i → i ∈ Region.ready md ops listed → YieldsIf P ops S oi v a → S w →
      wpAnyE P md ops Q S fuel (listed.setIfInBounds i true) (a.put oi.dst v) w → wpAnyE P md ops Q S (fuel + 1) listed a w := by
  intro fuel
  induction fuel with
  | zero =>
    intro listed a w _ _ hr hy hS H
    refine ⟨fun h => (by rw [h] at hr; cases hr), fun j hj => ?_⟩
    by_cases hji : j = i
    · subst hji
      exact hy.wpOp hi hS ⟨fun _ => hS, H⟩
    · have := ready_mono hj hji
      rw [H.1] at this
      cases this
  | succ fuel ih =>
    intro listed a w hfree hp hr hy hS H
    refine ⟨fun h => (by rw [h] at hr; cases hr), fun j hj => ?_⟩
    by_cases hji : j = i
    · subst hji
      exact hy.wpOp hi hS ⟨fun _ => hS, H⟩
    · have h1 := H.2 j (ready_mono hj hji)
      obtain ⟨hjun, oj, hoj, hall⟩ := mem_ready.1 hj
      have hiun := (mem_ready.1 hr).1
      obtain ⟨p, op, hop, hpun, hpe⟩ := hp
      have hjp : j ≠ p := waits_ne hop hpe hiun hj
      have hip : i ≠ p := waits_ne hop hpe hiun hr
      have hnot : ∀ e ∈ oj.after, Region.binds md e = true → e.on ≠ i := fun e he hb heq => waits_ne hoj ⟨e, he, hb, heq⟩ hiun hj rfl
      have hpun' : (listed.setIfInBounds j true).getD p true = false := by rw [getD_set_ne true hjp]; exact hpun
      have hpun2 : ((listed.setIfInBounds i true).setIfInBounds j true).getD p true = false := by rw [getD_set_ne true hjp, getD_set_ne true hip]; exact hpun
      have h2 := wpOp_putIf hoj (hfree j oj hoj hji hjun hnot) (fun cs b => hsel i oi cs b hi) (fun cs b => hsel j oj cs b hoj) hQ hy h1
      have hfree' : ∀ k ok, ops[k]? = some ok → k ≠ i → (listed.setIfInBounds j true).getD k true = false →
          (∀ e ∈ ok.after, Region.binds md e = true → e.on ≠ i) → oi.apart ops ok = true := fun k ok hk hki hun hno => by
        refine hfree k ok hk hki ?_ hno
        by_cases hjk : j = k
        · subst hjk; exact hjun
        · rw [getD_set_ne true hjk] at hun; exact hun
      refine wpOp_mono (fun a' w' h3 => ?_) h2
      have hS' : S w' := h3.2.1 ⟨p, lt_of_some hop, hpun2⟩
      refine ⟨fun _ => hS', ih (listed.setIfInBounds j true) a' w' hfree' ⟨p, op, hop, hpun', hpe⟩ (ready_mono hr (Ne.symm hji)) h3.1 hS' ?_⟩
      rw [Array.setIfInBounds_comm _ _ hji]
      exact h3.2.2
/-- does an operation that has not come up wait for i? -/
def waitsB (md : Region.Mode) (ops : Array Oper) (listed : Array Bool) (i : Nat) : Bool := (List.range ops.size).any fun p => !listed.getD p true && match ops[p]? with
  | some op => op.after.any fun e => Region.binds md e && e.on == i
  | none => false
theorem waitsB_spec {listed : Array Bool} {i : Nat} (h : waitsB md ops listed i = true) : Waits md ops listed i := by
  simp only [waitsB, List.any_eq_true, List.mem_range, Bool.and_eq_true] at h
  obtain ⟨p, _, h1, h2⟩ := h
  cases ho : ops[p]? with
  | none => simp [ho] at h2
  | some op =>
    rw [ho] at h2
    obtain ⟨k, hk, hb⟩ := Array.any_eq_true.1 h2
    simp only [Bool.and_eq_true, beq_iff_eq] at hb
    exact ⟨p, op, ho, by simpa using h1, op.after[k], Array.getElem_mem _, hb.1, hb.2⟩
end
section
variable {P : Program} {l rest : List Oper} {Q : Exit → Act → World → Prop} {md : Region.Mode} {S : World → Prop} {oi : Oper} {fuel : Nat} {listed : Array Bool} {a : Act} {w : World}
theorem rgnE {id : Nat} (hm : P.follows .mixedOrders = true) (hS : S w.drew) (h : S w.drew → wpAnyE P .any l.toArray Q S l.toArray.size (Array.replicate l.toArray.size false) a w.drew) : (Code.region id l.toArray true).wp P Q a w :=
  wp_region_any hm (wpAny_of_E _ _ _ _ (h hS))
theorem takeE (i : Nat) {v : Value} (hn : l.drop i = oi :: rest) (hs : Region.noSelect l.toArray = true) (hf : Region.free md l.toArray listed i = true) (hr : (Region.ready md l.toArray listed).contains i = true) (hp : waitsB md l.toArray listed i = true)
    (hQ : ∀ c a w, Q (.panic c) (a.put oi.dst v) w → Q (.panic c) a w) (hw : Region.wanted oi (yielded l.toArray a.tmps) = true) (hrun : ∀ w, S w → (execOp a.eval oi).run P w = .ok (.value v) w) (hS : S w)
    (h : wpAnyE P md l.toArray Q S fuel (listed.setIfInBounds i true) (a.put oi.dst v) w) : wpAnyE P md l.toArray Q S (fuel + 1) listed a w :=
  wpAnyE_first (at_drop hn) (Region.noSelect_spec hs) hQ fuel listed a w (Region.free_spec (at_drop hn) hf) (waitsB_spec hp) (by simpa using hr) (Or.inl ⟨hw, hrun⟩) hS h
theorem skipE (i : Nat) (hn : l.drop i = oi :: rest) (hs : Region.noSelect l.toArray = true) (hf : Region.free md l.toArray listed i = true) (hr : (Region.ready md l.toArray listed).contains i = true) (hp : waitsB md l.toArray listed i = true)
    (hQ : ∀ c a w, Q (.panic c) (a.put oi.dst undef) w → Q (.panic c) a w) (hw : Region.wanted oi (yielded l.toArray a.tmps) = false) (hS : S w)
    (h : wpAnyE P md l.toArray Q S fuel (listed.setIfInBounds i true) (a.put oi.dst undef) w) : wpAnyE P md l.toArray Q S (fuel + 1) listed a w :=
  wpAnyE_first (at_drop hn) (Region.noSelect_spec hs) hQ fuel listed a w (Region.free_spec (at_drop hn) hf) (waitsB_spec hp) (by simpa using hr) (Or.inr ⟨hw, rfl⟩) hS h
/-- the only one that may come up; more follow -/
theorem oneE (i : Nat) (hn : l.drop i = oi :: rest) (hr : Region.ready md l.toArray listed = [i]) (hw : Region.wanted oi (yielded l.toArray a.tmps) = true)
    (h : ∀ K' : Act → World → Prop, Shut (∀ a w, S w → (S w → wpAnyE P md l.toArray Q S fuel (listed.setIfInBounds i true) a w) → K' a w) → Oper.wp P oi a w K' Q) : wpAnyE P md l.toArray Q S (fuel + 1) listed a w := by
  refine ⟨fun h0 => absurd (hr ▸ h0) (by simp), fun j hj => ?_⟩
  rw [hr] at hj
  obtain rfl : j = i := by simpa using hj
  exact wpOp_step (at_drop hn) fun K' hK => by rw [if_pos hw]; exact h K' (fun a w hS hW => hK a w ⟨fun _ => hS, hW hS⟩)
/-- the last one -/
theorem lastE (i : Nat) (hn : l.drop i = oi :: rest) (hr : Region.ready md l.toArray listed = [i]) (hl : ((List.range l.toArray.size).all fun k => (listed.setIfInBounds i true).getD k true) = true) (hd : Region.ready md l.toArray (listed.setIfInBounds i true) = [])
    (hw : Region.wanted oi (yielded l.toArray a.tmps) = true)
    (h : ∀ K' : Act → World → Prop, Shut (∀ a w, Q .normal a w → K' a w) → Oper.wp P oi a w K' Q) : wpAnyE P md l.toArray Q S (fuel + 1) listed a w := by
  refine ⟨fun h0 => absurd (hr ▸ h0) (by simp), fun j hj => ?_⟩
  rw [hr] at hj
  obtain rfl : j = i := by simpa using hj
  refine wpOp_step (at_drop hn) fun K' hK => by
    rw [if_pos hw]
    refine h K' fun a w hq => hK a w ⟨fun ⟨k, hk, hm⟩ => ?_, ?_⟩
    · have := List.all_eq_true.1 hl k (List.mem_range.2 hk)
      rw [hm] at this
      cases this
    · cases fuel with
      | zero => exact ⟨hd, hq⟩
      | succ n => exact ⟨fun _ => hq, by rw [hd]; simp⟩
end
end Go.Proofs.YtckaneapjpiocaaGreatDoor
/- Slices whose elements are read as Lean's own data; octets; a device. -/
namespace Go.Proofs.YtckaneapjpiocaaGreatDoor
open Go.RowKit

theorem retB {a b : Bool} (h : a = b) : Ending.returned (.bool a) = Ending.returned (.bool b) := by rw [h]
theorem retI {k : IntKind} {a b : Int} (h : a = b) : Ending.returned (.int k a) = Ending.returned (.int k b) := by rw [h]
theorem bcell {W w1 : World} (hb : Ext W w1) : (∀ b o, b < W.heap.size → w1.cell? ⟨b, o, none⟩ = W.cell? ⟨b, o, none⟩) ∧ (∀ b o, b < W.heap.size → w1.frozen? ⟨b, o, none⟩ = W.frozen? ⟨b, o, none⟩) :=
  ⟨fun b o h => Below.cell (p := ⟨b, o, none⟩) hb h, fun b o h => Below.frozen (p := ⟨b, o, none⟩) hb h⟩

theorem callF {P : Program} {f : FuncId} {fn : Func} {c : Code} (hf : P.funcs[f]? = some fn) (hname : (fn.name == "runtime.NumGoroutine") = false) (hb : fn.body = some c) : ∀ args w, (callFunc f args).run P w = .ok (.enter f args) w := fun args w => by
  have h1 : fn.name ≠ "runtime.NumGoroutine" := by simpa using hname
  simp [callFunc, hf, h1, hb]

/-- element k of a row of structs -/
theorem rd_flat {α : Type} {cells : α → List Value} {size : Nat} (hs : ∀ a, (cells a).length = size) (h0 : 0 < size) {w : World} {lo hi : Nat} {A : Option Addr} {xs : List α} (h : Rd w lo hi A (xs.flatMap cells)) {k : Nat} (hk : k < xs.length) :
    ∃ b o, A = some ⟨b, o, none⟩ ∧ lo ≤ b ∧ b < hi ∧ ∀ j u, (cells xs[k])[j]? = some u → w.cell? ⟨b, o + k * size + j, none⟩ = some u := by
  obtain ⟨b, o, h1, h2, h3, h4⟩ := h (fun e => by
    have := flat_length hs xs
    rw [e] at this
    have := Nat.mul_pos (show 0 < xs.length by omega) h0
    simp at *
    omega)
  refine ⟨b, o, h1, h2, h3, fun j u hu => ?_⟩
  have hj : j < size := by
    have := (List.getElem?_eq_some_iff.1 hu).1
    rwa [hs] at this
  rw [Nat.add_assoc]
  exact h4 _ u (by rw [flat_get hs xs k j hj hk]; exact hu)

/-- a slice that reads, between two heap sizes, as a list of which each element is so -/
structure Sl.At {α : Type} (w : World) (lo hi : Nat) (cells : α → List Value) (I : α → Prop) (s : Sl α) : Prop where
  len : s.n = s.xs.length
  le : s.n ≤ s.c
  cap : s.c ≤ maxLen
  rd : Rd w lo hi s.A (s.xs.flatMap cells)
  all : ∀ x ∈ s.xs, I x
theorem Sl.At.imp {α : Type} {w w' : World} {lo hi lo' hi' : Nat} {cells : α → List Value} {I I' : α → Prop} {s : Sl α} (h : Sl.At w lo hi cells I s) (hr : Rd w lo hi s.A (s.xs.flatMap cells) → Rd w' lo' hi' s.A (s.xs.flatMap cells)) (hi : ∀ x, I x → I' x) : Sl.At w' lo' hi' cells I' s :=
  ⟨h.len, h.le, h.cap, hr h.rd, fun x hx => hi x (h.all x hx)⟩
def octc (b : UInt8) : List Value := [.int .u8 (b.toNat : Int)]
theorem octs_flat (l : List UInt8) : l.flatMap octc = bytes l := by
  induction l with
  | nil => rfl
  | cons b l ih => rw [List.flatMap_cons, ih]; rfl
abbrev Oct := Sl UInt8
abbrev Oct.At (w : World) (lo hi : Nat) (s : Oct) : Prop := Sl.At w lo hi octc (fun _ => True) s
theorem Oct.At.rdb {w : World} {lo hi : Nat} {s : Oct} (h : Oct.At w lo hi s) : Rd w lo hi s.A (bytes s.xs) := by rw [← octs_flat]; exact h.rd
def octv (s : Oct) : List Value := [s.val]
structure Wrt where
  pos : Int
  data : Oct
def Wrt.cells (x : Wrt) : List Value := [.int .i64 x.pos, x.data.val]
structure Wrt.At (w : World) (lo hi : Nat) (x : Wrt) : Prop where
  p0 : -9223372036854775808 ≤ x.pos
  p1 : x.pos ≤ 9223372036854775807
  data : Oct.At w lo hi x.data
structure Dev where
  secs : Sl Oct
  waits : Sl Wrt
def Dev.cells (d : Dev) : List Value := [d.secs.val, d.waits.val]
structure Dev.At (w : World) (lo hi : Nat) (d : Dev) : Prop where
  secs : Sl.At w lo hi octv (Oct.At w lo hi) d.secs
  waits : Sl.At w lo hi Wrt.cells (Wrt.At w lo hi) d.waits
section
variable {w w' : World} {lo hi lo' hi' : Nat}
theorem Oct.At.imp {s : Oct} (h : Oct.At w lo hi s) (hr : ∀ A cs, Rd w lo hi A cs → Rd w' lo' hi' A cs) : Oct.At w' lo' hi' s := Sl.At.imp h (hr _ _) (fun _ h => h)
theorem Wrt.At.imp {x : Wrt} (h : Wrt.At w lo hi x) (hr : ∀ A cs, Rd w lo hi A cs → Rd w' lo' hi' A cs) : Wrt.At w' lo' hi' x := ⟨h.p0, h.p1, Oct.At.imp h.data hr⟩
theorem Dev.At.imp {d : Dev} (h : Dev.At w lo hi d) (hr : ∀ A cs, Rd w lo hi A cs → Rd w' lo' hi' A cs) : Dev.At w' lo' hi' d :=
  ⟨Sl.At.imp h.secs (hr _ _) (fun _ hx => Oct.At.imp hx hr), Sl.At.imp h.waits (hr _ _) (fun _ hx => Wrt.At.imp hx hr)⟩
/-- what reads reads on, up to the later world's end -/
theorem rd_on (e : Ext w w') (hh : hi ≤ w.heap.size) : ∀ A cs, Rd w lo hi A cs → Rd w' lo w'.heap.size A cs := fun _ _ h => Rd.at h (Below.mono e hh) hh
theorem Dev.At.on {d : Dev} (h : Dev.At w lo hi d) (e : Ext w w') (hh : hi ≤ w.heap.size) : Dev.At w' lo w'.heap.size d := h.imp (rd_on e hh)
theorem Oct.At.on {d : Oct} (h : Oct.At w lo hi d) (e : Ext w w') (hh : hi ≤ w.heap.size) : Oct.At w' lo w'.heap.size d := Oct.At.imp h (rd_on e hh)
theorem Dev.At.low {d : Dev} (h : Dev.At w lo hi d) (hl : lo' ≤ lo) : Dev.At w lo' hi d := h.imp fun _ _ h => h.more hl (Nat.le_refl _)
theorem Oct.At.low {d : Oct} (h : Oct.At w lo hi d) (hl : lo' ≤ lo) : Oct.At w lo' hi d := Oct.At.imp h fun _ _ h => h.more hl (Nat.le_refl _)
end
end Go.Proofs.YtckaneapjpiocaaGreatDoor
/- Blocks that hold just certain values; worlds in which certain blocks are as they were; what reads in such blocks. Laws over whatever program. -/
namespace Go.Proofs.YtckaneapjpiocaaGreatDoor
open Go.RowKit

theorem frozen_new {w w1 : World} {cs : Array Value} {t : TypeId} (h : w.alloc (.cells cs t) = w1) (j : Nat) : ∀ w', Ext w1 w' → w'.frozen? ⟨w.heap.size, j, none⟩ = false := fun w' e => by
  subst h
  rw [Below.frozen e (by simp)]
  have := heap_alloc_new w (.cells cs t)
  unfold World.frozen?
  rw [this]
  simp
/-- block b holds just these values, from its first cell on, and may be written -/
structure Bx (w : World) (b : Nat) (vs : List Value) : Prop where
  lt : b < w.heap.size
  cells : ∀ j u, vs[j]? = some u → w.cell? ⟨b, j, none⟩ = some u ∧ w.frozen? ⟨b, j, none⟩ = false
section
variable {w w' : World} {b : Nat} {vs : List Value}
theorem Bx.cell (h : Bx w b vs) (j : Nat) (u : Value) (hu : vs[j]? = some u) : w.cell? ⟨b, j, none⟩ = some u := (h.cells j u hu).1
theorem Bx.frozen (h : Bx w b vs) (j : Nat) (u : Value) (hu : vs[j]? = some u) : w.frozen? ⟨b, j, none⟩ = false := (h.cells j u hu).2
theorem Bx.ext (h : Bx w b vs) (e : Ext w w') : Bx w' b vs :=
  ⟨Nat.lt_of_lt_of_le h.lt e.size, fun j u hu => ⟨(Below.cell (p := ⟨b, j, none⟩) e h.lt).trans (h.cell j u hu), (Below.frozen (p := ⟨b, j, none⟩) e h.lt).trans (h.frozen j u hu)⟩⟩
theorem Bx.below {B : Nat} (h : Bx w b vs) (e : Below B w w') (hb : b < B) : Bx w' b vs :=
  ⟨Nat.lt_of_lt_of_le h.lt e.size, fun j u hu => ⟨(Below.cell (p := ⟨b, j, none⟩) e hb).trans (h.cell j u hu), (Below.frozen (p := ⟨b, j, none⟩) e hb).trans (h.frozen j u hu)⟩⟩
theorem Bx.grown {v : Value} (h : Bx w b vs) (hg : w.grownBy w' v.ownBlock) (hb : v.ownBlock ≠ some b) : Bx w' b vs := by
  have hk := hg.block b h.lt (fun e => hb e.symm)
  exact ⟨Nat.lt_of_lt_of_le h.lt hg.size, fun j u hu => ⟨(World.cell?_of_block hk).trans (h.cell j u hu), (World.frozen?_of_block hk).trans (h.frozen j u hu)⟩⟩
theorem Bx.new {cs : Array Value} {t : TypeId} (h : w.alloc (.cells cs t) = w') : Bx w' w.heap.size cs.toList := by
  subst h
  exact ⟨by simp, fun j u hu => ⟨cell_new w cs t j (by simpa using hu), frozen_new rfl j _ (Ext.refl _)⟩⟩
theorem Bx.set (h : Bx w b vs) (j : Nat) (v : Value) : Bx (w.setCell ⟨b, j, none⟩ v) b (vs.set j v) := by
  refine ⟨by simpa using h.lt, fun k u hu => ⟨?_, (World.frozen?_setCell _ _ _ _).trans ?_⟩⟩
  · rw [List.getElem?_set] at hu
    by_cases e : j = k
    · subst e
      simp only [if_true] at hu
      split at hu
      · rename_i hl
        cases hu
        exact World.cell?_setCell_same _ _ _ (h.cell j _ (List.getElem?_eq_getElem hl))
      · cases hu
    · rw [if_neg e] at hu
      exact (World.cell?_setCell_other _ _ _ _ (fun h' => e (by simp at h'))).trans (h.cell k u hu)
  · by_cases hl : k < vs.length
    · exact h.frozen k _ (List.getElem?_eq_getElem hl)
    · rw [List.getElem?_eq_none (by rw [List.length_set]; omega)] at hu; cases hu
theorem Bx.set_ne (h : Bx w b vs) {p : Addr} (hp : p.block ≠ b) (v : Value) : Bx (w.setCell p v) b vs :=
  ⟨by simpa using h.lt, fun j u hu => ⟨(World.cell?_setCell_other _ _ _ _ (fun e => hp (by rw [e]))).trans (h.cell j u hu), (World.frozen?_setCell _ _ _ _).trans (h.frozen j u hu)⟩⟩
/-- two cells written -/
theorem Bx.put2 {u0 u1 v0 v1 : Value} (h : Bx w b [u0, u1]) (hw : (w.setCell ⟨b, 0, none⟩ v0).setCell ⟨b, 1, none⟩ v1 = w') : Bx w' b [v0, v1] := by
  subst hw
  exact (h.set 0 v0).set 1 v1
end
/-- of the old blocks those that ok holds of are as they were -/
structure Keep (ok : Nat → Prop) (w w' : World) : Prop where
  os : w'.os = w.os
  tape : w'.tape = w.tape
  output : w'.output = w.output
  size : w.heap.size ≤ w'.heap.size
  block : ∀ k, k < w.heap.size → ok k → w'.heap[k]? = w.heap[k]?
section
variable {ok ok' : Nat → Prop} {a b w w' : World}
theorem Keep.refl (ok : Nat → Prop) (w : World) : Keep ok w w := ⟨rfl, rfl, rfl, Nat.le_refl _, fun _ _ _ => rfl⟩
theorem Keep.trans {c : World} (h : Keep ok a b) (k : Keep ok b c) : Keep ok a c :=
  ⟨k.os.trans h.os, k.tape.trans h.tape, k.output.trans h.output, Nat.le_trans h.size k.size, fun i hi ho => (k.block i (Nat.lt_of_lt_of_le hi h.size) ho).trans (h.block i hi ho)⟩
theorem Keep.mono (h : Keep ok w w') (hk : ∀ b, ok' b → ok b) : Keep ok' w w' := ⟨h.os, h.tape, h.output, h.size, fun k hk' ho => h.block k hk' (hk k ho)⟩
theorem Keep.of_ext (e : Ext w w') : Keep ok w w' := ⟨e.os, e.tape, e.output, e.size, fun k hk _ => e.block k hk⟩
theorem Keep.ext (h : Keep ok a w) (e : Ext w w') : Keep ok a w' := h.trans (Keep.of_ext e)
theorem Keep.setCell (h : Keep ok a w) {p : Addr} (hp : ¬ ok p.block) (u : Value) : Keep ok a (w.setCell p u) :=
  h.trans ⟨rfl, rfl, rfl, by simp, fun k _ ho => Below.heap_setCell _ _ _ _ (fun e => hp (e ▸ ho))⟩
theorem Keep.grown {row : Option Nat} (h : Keep ok a w) (hg : w.grownBy w' row) (hr : ∀ k, row = some k → ¬ ok k) : Keep ok a w' :=
  h.trans ⟨hg.os, hg.tape, hg.output, hg.size, fun k hk ho => hg.block k hk (fun e => hr k e.symm ho)⟩
theorem Keep.cell (h : Keep ok w w') {p : Addr} (hp : p.block < w.heap.size) (ho : ok p.block) : w'.cell? p = w.cell? p := World.cell?_of_block (w := w) (h.block p.block hp ho)
theorem Keep.frozen (h : Keep ok w w') {p : Addr} (hp : p.block < w.heap.size) (ho : ok p.block) : w'.frozen? p = w.frozen? p := World.frozen?_of_block (w := w) (h.block p.block hp ho)
theorem Keep.to_ext (h : Keep ok a w) (e : Ext b a) (hk : ∀ k, k < b.heap.size → ok k) : Ext b w :=
  ⟨h.os.trans e.os, h.tape.trans e.tape, h.output.trans e.output, Nat.le_trans e.size h.size, fun k hk' => (h.block k (Nat.lt_of_lt_of_le hk' e.size) (hk k hk')).trans (e.block k hk')⟩
theorem Bx.keep {g : Nat} {vs : List Value} (h : Bx w g vs) (k : Keep ok w w') (ho : ok g) : Bx w' g vs :=
  ⟨Nat.lt_of_lt_of_le h.lt k.size, fun j u hu => ⟨(k.cell (p := ⟨g, j, none⟩) h.lt ho).trans (h.cell j u hu), (k.frozen (p := ⟨g, j, none⟩) h.lt ho).trans (h.frozen j u hu)⟩⟩
theorem own_keep {base : Nat} {e : TypeId} {size n : Nat} {v : Value} {xs : List Value} (h : w.ownsRow base e size v n xs) (k : Keep ok w w') (ho : ∀ g, v.ownBlock = some g → ok g) : w'.ownsRow base e size v n xs := by
  refine ⟨h.1, ?_⟩
  rcases h.2 with h' | ⟨g, cap, cur, h1, h2, h3, h4⟩
  · exact .inl h'
  · have hlt := h.lt g (by rw [h1]; rfl)
    exact .inr ⟨g, cap, cur, h1, h2, (k.block g hlt.2 (ho g (by rw [h1]; rfl))).trans h3, h4⟩
theorem Rd.keep_ok {lo hi : Nat} {A : Option Addr} {cs : List Value} (h : Rd w lo hi A cs) (k : Keep ok w w') (hh : hi ≤ w.heap.size) (ho : ∀ b, lo ≤ b → b < hi → ok b) : Rd w' lo hi A cs :=
  fun hn => by
    obtain ⟨b, o, e, h1, h2, h3⟩ := h hn
    exact ⟨b, o, e, h1, h2, fun j u hu => (k.cell (p := ⟨b, o + j, none⟩) (Nat.lt_of_lt_of_le h2 hh) (ho b h1 h2)).trans (h3 j u hu)⟩
end
/-- cells that stand in a block of which ok holds -/
def RdK (w : World) (ok : Nat → Prop) (A : Option Addr) (cs : List Value) : Prop :=
  cs ≠ [] → ∃ b o, A = some ⟨b, o, none⟩ ∧ b < w.heap.size ∧ ok b ∧ ∀ j u, cs[j]? = some u → w.cell? ⟨b, o + j, none⟩ = some u
section
variable {ok ok' : Nat → Prop} {w w' : World} {A : Option Addr} {cs : List Value}
theorem RdK.nil : RdK w ok A [] := fun h => absurd rfl h
theorem RdK.mono (h : RdK w ok A cs) (hk : ∀ b, b < w.heap.size → ok b → ok' b) : RdK w ok' A cs := fun hn => by
  obtain ⟨b, o, e, h1, h2, h3⟩ := h hn
  exact ⟨b, o, e, h1, hk b h1 h2, h3⟩
theorem RdK.keep (h : RdK w ok A cs) (k : Keep ok' w w') (hk : ∀ b, ok b → ok' b) : RdK w' ok A cs := fun hn => by
  obtain ⟨b, o, e, h1, h2, h3⟩ := h hn
  exact ⟨b, o, e, Nat.lt_of_lt_of_le h1 k.size, h2, fun j u hu => (k.cell (p := ⟨b, o + j, none⟩) h1 (hk b h2)).trans (h3 j u hu)⟩
theorem RdK.ext (h : RdK w ok A cs) (e : Ext w w') : RdK w' ok A cs := h.keep (Keep.of_ext (ok := fun _ => True) e) fun _ _ => trivial
theorem RdK.rd {lo : Nat} (h : RdK w ok A cs) (hl : ∀ b, ok b → lo ≤ b) : Rd w lo w.heap.size A cs := fun hn => by
  obtain ⟨b, o, e, h1, h2, h3⟩ := h hn
  exact ⟨b, o, e, hl b h2, h1, h3⟩
theorem Rd.rdK {lo hi : Nat} (h : Rd w lo hi A cs) (hh : hi ≤ w.heap.size) : RdK w (fun b => lo ≤ b ∧ b < hi) A cs := fun hn => by
  obtain ⟨b, o, e, h1, h2, h3⟩ := h hn
  exact ⟨b, o, e, Nat.lt_of_lt_of_le h2 hh, ⟨h1, h2⟩, h3⟩
end
theorem Bx.putk2 {w w' : World} {b : Nat} {u0 u1 v0 v1 : Value} (h : Bx w b [u0, u1]) (hw : (w.setCell ⟨b, 0, none⟩ v0).setCell ⟨b, 1, none⟩ v1 = w') : Bx w' b [v0, v1] ∧ Keep (fun k => k ≠ b) w w' := by
  subst hw
  exact ⟨(h.set 0 v0).set 1 v1, ((Keep.refl (fun k => k ≠ b) w).setCell (p := ⟨b, 0, none⟩) (fun h => h rfl) v0).setCell (p := ⟨b, 1, none⟩) (fun h => h rfl) v1⟩
theorem Bx.putk3 {w w' : World} {b : Nat} {u0 u1 u2 v0 v1 v2 : Value} (h : Bx w b [u0, u1, u2]) (hw : ((w.setCell ⟨b, 0, none⟩ v0).setCell ⟨b, 1, none⟩ v1).setCell ⟨b, 2, none⟩ v2 = w') : Bx w' b [v0, v1, v2] ∧ Keep (fun k => k ≠ b) w w' := by
  subst hw
  exact ⟨((h.set 0 v0).set 1 v1).set 2 v2, (((Keep.refl (fun k => k ≠ b) w).setCell (p := ⟨b, 0, none⟩) (fun h => h rfl) v0).setCell (p := ⟨b, 1, none⟩) (fun h => h rfl) v1).setCell (p := ⟨b, 2, none⟩) (fun h => h rfl) v2⟩
theorem Bx.putk4 {w w' : World} {b : Nat} {u0 u1 u2 u3 v0 v1 v2 v3 : Value} (h : Bx w b [u0, u1, u2, u3]) (hw : (((w.setCell ⟨b, 0, none⟩ v0).setCell ⟨b, 1, none⟩ v1).setCell ⟨b, 2, none⟩ v2).setCell ⟨b, 3, none⟩ v3 = w') : Bx w' b [v0, v1, v2, v3] ∧ Keep (fun k => k ≠ b) w w' := by
  subst hw
  exact ⟨(((h.set 0 v0).set 1 v1).set 2 v2).set 3 v3, ((((Keep.refl (fun k => k ≠ b) w).setCell (p := ⟨b, 0, none⟩) (fun h => h rfl) v0).setCell (p := ⟨b, 1, none⟩) (fun h => h rfl) v1).setCell (p := ⟨b, 2, none⟩) (fun h => h rfl) v2).setCell (p := ⟨b, 3, none⟩) (fun h => h rfl) v3⟩
theorem Bx.putk9 {w w' : World} {b : Nat} {u0 u1 u2 u3 u4 u5 u6 u7 u8 v0 v1 v2 v3 v4 v5 v6 v7 v8 : Value} (h : Bx w b [u0, u1, u2, u3, u4, u5, u6, u7, u8]) (hw : ((((((((w.setCell ⟨b, 0, none⟩ v0).setCell ⟨b, 1, none⟩ v1).setCell ⟨b, 2, none⟩ v2).setCell ⟨b, 3, none⟩ v3).setCell ⟨b, 4, none⟩ v4).setCell ⟨b, 5, none⟩ v5).setCell ⟨b, 6, none⟩ v6).setCell ⟨b, 7, none⟩ v7).setCell ⟨b, 8, none⟩ v8 = w') : Bx w' b [v0, v1, v2, v3, v4, v5, v6, v7, v8] ∧ Keep (fun k => k ≠ b) w w' := by
  subst hw
  exact ⟨((((((((h.set 0 v0).set 1 v1).set 2 v2).set 3 v3).set 4 v4).set 5 v5).set 6 v6).set 7 v7).set 8 v8, (((((((((Keep.refl (fun k => k ≠ b) w).setCell (p := ⟨b, 0, none⟩) (fun h => h rfl) v0).setCell (p := ⟨b, 1, none⟩) (fun h => h rfl) v1).setCell (p := ⟨b, 2, none⟩) (fun h => h rfl) v2).setCell (p := ⟨b, 3, none⟩) (fun h => h rfl) v3).setCell (p := ⟨b, 4, none⟩) (fun h => h rfl) v4).setCell (p := ⟨b, 5, none⟩) (fun h => h rfl) v5).setCell (p := ⟨b, 6, none⟩) (fun h => h rfl) v6).setCell (p := ⟨b, 7, none⟩) (fun h => h rfl) v7).setCell (p := ⟨b, 8, none⟩) (fun h => h rfl) v8⟩
end Go.Proofs.YtckaneapjpiocaaGreatDoor
/- Steps through a region that draws its order, some of whose last operations write what the region reads: S is asked as long as one of certain operations (nd) has not come up. Laws over whatever program. -/
namespace Go.Proofs.YtckaneapjpiocaaGreatDoor
open Go.RowKit
section
variable {P : Program} {ops : Array Oper} {Q : Exit → Act → World → Prop} {md : Region.Mode} {S : World → Prop} {m : Nat → Bool}
def MoreM (m : Nat → Bool) (listed : Array Bool) : Prop := ∃ k, m k = true ∧ listed.getD k true = false
def wpAnyM (P : Program) (md : Region.Mode) (ops : Array Oper) (Q : Exit → Act → World → Prop) (S : World → Prop) (m : Nat → Bool) : Nat → Array Bool → Act → World → Prop
  | 0, listed, a, w => Region.ready md ops listed = [] ∧ Q .normal a w
  | fuel + 1, listed, a, w =>
    (Region.ready md ops listed = [] → Q .normal a w) ∧
    ∀ i ∈ Region.ready md ops listed, wpOp P ops Q i (fun a' w' => (MoreM m (listed.setIfInBounds i true) → S w') ∧ wpAnyM P md ops Q S m fuel (listed.setIfInBounds i true) a' w') a w
theorem wpAny_of_M : ∀ (fuel : Nat) (listed : Array Bool) (a : Act) (w : World), wpAnyM P md ops Q S m fuel listed a w → wpAny P md ops Q fuel listed a w
  | 0, _, _, _, h => h
  | fuel + 1, _, _, _, h => ⟨h.1, fun i hi => wpOp_mono (fun a' w' h' => wpAny_of_M fuel _ a' w' h'.2) (h.2 i hi)⟩
/-- one of the first m operations has not come up and waits for i -/
def WaitsM (md : Region.Mode) (ops : Array Oper) (m : Nat → Bool) (listed : Array Bool) (i : Nat) : Prop :=
  ∃ p op, m p = true ∧ ops[p]? = some op ∧ listed.getD p true = false ∧ ∃ e ∈ op.after, Region.binds md e = true ∧ e.on = i
theorem wpAnyM_first {i : Nat} {oi : Oper} {v : Value} (hi : ops[i]? = some oi) (hsel : ∀ (j : Nat) (o : Oper) cs b, ops[j]? = some o → o.op ≠ .select cs b)
    (hQ : ∀ c a w, Q (.panic c) (a.put oi.dst v) w → Q (.panic c) a w) :
    ∀ (fuel : Nat) (listed : Array Bool) (a : Act) (w : World),
      (∀ j oj, ops[j]? = some oj → j ≠ i → listed.getD j true = false → (∀ e ∈ oj.after, Region.binds md e = true → e.on ≠ i) → oi.apart ops oj = true) →
      WaitsM md ops m listed i → i ∈ Region.ready md ops listed → YieldsIf P ops S oi v a → S w →
      wpAnyM P md ops Q S m fuel (listed.setIfInBounds i true) (a.put oi.dst v) w → wpAnyM P md ops Q S m (fuel + 1) listed a w := by
  intro fuel
  induction fuel with
  | zero =>
    intro listed a w _ _ hr hy hS H
    refine ⟨fun h => (by rw [h] at hr; cases hr), fun j hj => ?_⟩
    by_cases hji : j = i
    · subst hji
      exact hy.wpOp hi hS ⟨fun _ => hS, H⟩
    · have := ready_mono hj hji
      rw [H.1] at this
      cases this
  | succ fuel ih =>
    intro listed a w hfree hp hr hy hS H
    refine ⟨fun h => (by rw [h] at hr; cases hr), fun j hj => ?_⟩
    by_cases hji : j = i
    · subst hji
      exact hy.wpOp hi hS ⟨fun _ => hS, H⟩
    · have h1 := H.2 j (ready_mono hj hji)
      obtain ⟨hjun, oj, hoj, hall⟩ := mem_ready.1 hj
      have hiun := (mem_ready.1 hr).1
      obtain ⟨p, op, hpm, hop, hpun, hpe⟩ := hp
      have hjp : j ≠ p := waits_ne hop hpe hiun hj
      have hip : i ≠ p := waits_ne hop hpe hiun hr
      have hnot : ∀ e ∈ oj.after, Region.binds md e = true → e.on ≠ i := fun e he hb heq => waits_ne hoj ⟨e, he, hb, heq⟩ hiun hj rfl
      have hpun' : (listed.setIfInBounds j true).getD p true = false := by rw [getD_set_ne true hjp]; exact hpun
      have hpun2 : ((listed.setIfInBounds i true).setIfInBounds j true).getD p true = false := by rw [getD_set_ne true hjp, getD_set_ne true hip]; exact hpun
      have h2 := wpOp_putIf hoj (hfree j oj hoj hji hjun hnot) (fun cs b => hsel i oi cs b hi) (fun cs b => hsel j oj cs b hoj) hQ hy h1
      have hfree' : ∀ k ok, ops[k]? = some ok → k ≠ i → (listed.setIfInBounds j true).getD k true = false →
          (∀ e ∈ ok.after, Region.binds md e = true → e.on ≠ i) → oi.apart ops ok = true := fun k ok hk hki hun hno => by
        refine hfree k ok hk hki ?_ hno
        by_cases hjk : j = k
        · subst hjk; exact hjun
        · rw [getD_set_ne true hjk] at hun; exact hun
      refine wpOp_mono (fun a' w' h3 => ?_) h2
      have hS' : S w' := h3.2.1 ⟨p, hpm, hpun2⟩
      refine ⟨fun _ => hS', ih (listed.setIfInBounds j true) a' w' hfree' ⟨p, op, hpm, hop, hpun', hpe⟩ (ready_mono hr (Ne.symm hji)) h3.1 hS' ?_⟩
      rw [Array.setIfInBounds_comm _ _ hji]
      exact h3.2.2
theorem more_of_set {listed : Array Bool} {i : Nat} (h : MoreM m (listed.setIfInBounds i true)) : MoreM m listed := by
  obtain ⟨k, hk, hu⟩ := h
  refine ⟨k, hk, ?_⟩
  by_cases e : i = k
  · subst e
    rcases Nat.lt_or_ge i listed.size with h' | h'
    · simp [h'] at hu
    · simp [h'] at hu
  · rwa [getD_set_ne true e] at hu
theorem wpAnyM_pure {i : Nat} {oi : Oper} {v : Value} (hi : ops[i]? = some oi) (hsel : ∀ (j : Nat) (o : Oper) cs b, ops[j]? = some o → o.op ≠ .select cs b)
    (hQ : ∀ c a w, Q (.panic c) (a.put oi.dst v) w → Q (.panic c) a w) :
    ∀ (fuel : Nat) (listed : Array Bool) (a : Act) (w : World),
      (∀ j oj, ops[j]? = some oj → j ≠ i → listed.getD j true = false → (∀ e ∈ oj.after, Region.binds md e = true → e.on ≠ i) → oi.apart ops oj = true) →
      m i = false → i ∈ Region.ready md ops listed → YieldsIf P ops (fun _ => True) oi v a → (MoreM m listed → S w) →
      wpAnyM P md ops Q S m fuel (listed.setIfInBounds i true) (a.put oi.dst v) w → wpAnyM P md ops Q S m (fuel + 1) listed a w := by
  intro fuel
  induction fuel with
  | zero =>
    intro listed a w _ _ hr hy hS H
    refine ⟨fun h => (by rw [h] at hr; cases hr), fun j hj => ?_⟩
    by_cases hji : j = i
    · subst hji
      exact hy.wpOp hi trivial ⟨fun hM => hS (more_of_set hM), H⟩
    · have := ready_mono hj hji
      rw [H.1] at this
      cases this
  | succ fuel ih =>
    intro listed a w hfree hp hr hy hS H
    refine ⟨fun h => (by rw [h] at hr; cases hr), fun j hj => ?_⟩
    by_cases hji : j = i
    · subst hji
      exact hy.wpOp hi trivial ⟨fun hM => hS (more_of_set hM), H⟩
    · have h1 := H.2 j (ready_mono hj hji)
      obtain ⟨hjun, oj, hoj, hall⟩ := mem_ready.1 hj
      have hiun := (mem_ready.1 hr).1
      have hnot : ∀ e ∈ oj.after, Region.binds md e = true → e.on ≠ i := fun e he hb heq => waits_ne hoj ⟨e, he, hb, heq⟩ hiun hj rfl
      have h2 := wpOp_putIf hoj (hfree j oj hoj hji hjun hnot) (fun cs b => hsel i oi cs b hi) (fun cs b => hsel j oj cs b hoj) hQ hy h1
      have hfree' : ∀ k ok, ops[k]? = some ok → k ≠ i → (listed.setIfInBounds j true).getD k true = false →
          (∀ e ∈ ok.after, Region.binds md e = true → e.on ≠ i) → oi.apart ops ok = true := fun k ok hk hki hun hno => by
        refine hfree k ok hk hki ?_ hno
        by_cases hjk : j = k
        · subst hjk; exact hjun
        · rw [getD_set_ne true hjk] at hun; exact hun
      refine wpOp_mono (fun a' w' h3 => ?_) h2
      have hS' : MoreM m (listed.setIfInBounds j true) → S w' := fun ⟨k, hk, hu⟩ => h3.2.1 ⟨k, hk, by
        rw [Array.setIfInBounds_comm _ _ (Ne.symm hji), getD_set_ne true (fun e => by subst e; rw [hp] at hk; cases hk)]
        exact hu⟩
      refine ⟨hS', ih (listed.setIfInBounds j true) a' w' hfree' hp (ready_mono hr (Ne.symm hji)) h3.1 hS' ?_⟩
      rw [Array.setIfInBounds_comm _ _ hji]
      exact h3.2.2
def waitsMB (md : Region.Mode) (ops : Array Oper) (m : Nat → Bool) (listed : Array Bool) (i : Nat) : Bool := (List.range ops.size).any fun p => m p && !listed.getD p true && match ops[p]? with
  | some op => op.after.any fun e => Region.binds md e && e.on == i
  | none => false
theorem waitsMB_spec {listed : Array Bool} {i : Nat} (h : waitsMB md ops m listed i = true) : WaitsM md ops m listed i := by
  simp only [waitsMB, List.any_eq_true, List.mem_range, Bool.and_eq_true] at h
  obtain ⟨p, _, ⟨hp, h1⟩, h2⟩ := h
  cases ho : ops[p]? with
  | none => simp [ho] at h2
  | some op =>
    rw [ho] at h2
    obtain ⟨k, hk, hb⟩ := Array.any_eq_true.1 h2
    simp only [Bool.and_eq_true, beq_iff_eq] at hb
    exact ⟨p, op, hp, ho, by simpa using h1, op.after[k], Array.getElem_mem _, hb.1, hb.2⟩
end
section
variable {P : Program} {l rest : List Oper} {Q : Exit → Act → World → Prop} {md : Region.Mode} {S : World → Prop} {oi : Oper} {fuel : Nat} {m : Nat → Bool} {listed : Array Bool} {a : Act} {w : World}
theorem rgnM (m : Nat → Bool) {id : Nat} (hm : P.follows .mixedOrders = true) (hS : S w.drew) (h : S w.drew → wpAnyM P .any l.toArray Q S m l.toArray.size (Array.replicate l.toArray.size false) a w.drew) : (Code.region id l.toArray true).wp P Q a w :=
  wp_region_any hm (wpAny_of_M _ _ _ _ (h hS))
theorem takeM (i : Nat) {v : Value} (hn : l.drop i = oi :: rest) (hs : Region.noSelect l.toArray = true) (hf : Region.free md l.toArray listed i = true) (hr : (Region.ready md l.toArray listed).contains i = true) (hp : waitsMB md l.toArray m listed i = true)
    (hQ : ∀ c a w, Q (.panic c) (a.put oi.dst v) w → Q (.panic c) a w) (hw : Region.wanted oi (yielded l.toArray a.tmps) = true) (hrun : ∀ w, S w → (execOp a.eval oi).run P w = .ok (.value v) w) (hS : S w)
    (h : wpAnyM P md l.toArray Q S m fuel (listed.setIfInBounds i true) (a.put oi.dst v) w) : wpAnyM P md l.toArray Q S m (fuel + 1) listed a w :=
  wpAnyM_first (at_drop hn) (Region.noSelect_spec hs) hQ fuel listed a w (Region.free_spec (at_drop hn) hf) (waitsMB_spec hp) (by simpa using hr) (Or.inl ⟨hw, hrun⟩) hS h
theorem skipM (i : Nat) (hn : l.drop i = oi :: rest) (hs : Region.noSelect l.toArray = true) (hf : Region.free md l.toArray listed i = true) (hr : (Region.ready md l.toArray listed).contains i = true) (hp : waitsMB md l.toArray m listed i = true)
    (hQ : ∀ c a w, Q (.panic c) (a.put oi.dst undef) w → Q (.panic c) a w) (hw : Region.wanted oi (yielded l.toArray a.tmps) = false) (hS : S w)
    (h : wpAnyM P md l.toArray Q S m fuel (listed.setIfInBounds i true) (a.put oi.dst undef) w) : wpAnyM P md l.toArray Q S m (fuel + 1) listed a w :=
  wpAnyM_first (at_drop hn) (Region.noSelect_spec hs) hQ fuel listed a w (Region.free_spec (at_drop hn) hf) (waitsMB_spec hp) (by simpa using hr) (Or.inr ⟨hw, rfl⟩) hS h
/-- one that looks at no memory -/
theorem pureM (i : Nat) {v : Value} (hn : l.drop i = oi :: rest) (hs : Region.noSelect l.toArray = true) (hf : Region.free md l.toArray listed i = true) (hr : (Region.ready md l.toArray listed).contains i = true) (hp : m i = false)
    (hQ : ∀ c a w, Q (.panic c) (a.put oi.dst v) w → Q (.panic c) a w) (hw : Region.wanted oi (yielded l.toArray a.tmps) = true) (hrun : ∀ w, (execOp a.eval oi).run P w = .ok (.value v) w) (hS : MoreM m listed → S w)
    (h : wpAnyM P md l.toArray Q S m fuel (listed.setIfInBounds i true) (a.put oi.dst v) w) : wpAnyM P md l.toArray Q S m (fuel + 1) listed a w :=
  wpAnyM_pure (at_drop hn) (Region.noSelect_spec hs) hQ fuel listed a w (Region.free_spec (at_drop hn) hf) hp (by simpa using hr) (Or.inl ⟨hw, fun w _ => hrun w⟩) hS h
/-- the only one that may come up; S behind it -/
theorem oneM (i : Nat) (hn : l.drop i = oi :: rest) (hr : Region.ready md l.toArray listed = [i]) (hw : Region.wanted oi (yielded l.toArray a.tmps) = true)
    (h : ∀ K' : Act → World → Prop, Shut (∀ a w, S w → (S w → wpAnyM P md l.toArray Q S m fuel (listed.setIfInBounds i true) a w) → K' a w) → Oper.wp P oi a w K' Q) : wpAnyM P md l.toArray Q S m (fuel + 1) listed a w := by
  refine ⟨fun h0 => absurd (hr ▸ h0) (by simp), fun j hj => ?_⟩
  rw [hr] at hj
  obtain rfl : j = i := by simpa using hj
  exact wpOp_step (at_drop hn) fun K' hK => by rw [if_pos hw]; exact h K' (fun a w hS hW => hK a w ⟨fun _ => hS, hW hS⟩)
/-- the only one that may come up; the first m are done -/
theorem freeM (i : Nat) (hn : l.drop i = oi :: rest) (hr : Region.ready md l.toArray listed = [i]) (hl : ((List.range listed.size).all fun k => !m k || (listed.setIfInBounds i true).getD k true) = true) (hw : Region.wanted oi (yielded l.toArray a.tmps) = true)
    (h : ∀ K' : Act → World → Prop, Shut (∀ a w, wpAnyM P md l.toArray Q S m fuel (listed.setIfInBounds i true) a w → K' a w) → Oper.wp P oi a w K' Q) : wpAnyM P md l.toArray Q S m (fuel + 1) listed a w := by
  refine ⟨fun h0 => absurd (hr ▸ h0) (by simp), fun j hj => ?_⟩
  rw [hr] at hj
  obtain rfl : j = i := by simpa using hj
  refine wpOp_step (at_drop hn) fun K' hK => by
    rw [if_pos hw]
    refine h K' fun a w hq => hK a w ⟨fun ⟨k, hk, hm⟩ => ?_, hq⟩
    have hlt : k < listed.size := by
      rcases Nat.lt_or_ge k listed.size with h' | h'
      · exact h'
      · simp [h'] at hm
    have := List.all_eq_true.1 hl k (List.mem_range.2 hlt)
    rw [hm, hk] at this
    cases this
theorem doneM (hd : Region.ready md l.toArray listed = []) (hq : Q .normal a w) : wpAnyM P md l.toArray Q S m fuel listed a w := by
  cases fuel with
  | zero => exact ⟨hd, hq⟩
  | succ n => exact ⟨fun _ => hq, by rw [hd]; simp⟩
end
end Go.Proofs.YtckaneapjpiocaaGreatDoor
/- The steps of a region in short: their conditions are reckoned where nothing else is said. -/
namespace Go.Proofs.YtckaneapjpiocaaGreatDoor
open Go.RowKit
theorem Rd.m0 {w : World} {lo hi : Nat} {A : Option Addr} {cs : List Value} (h : Rd w lo hi A cs) : Rd w 0 hi A cs := h.more (Nat.zero_le _) (Nat.le_refl _)
theorem blo {p : Prop} (h : p := by (repeat (first | exact Below.refl _ _ | exact Ext.refl _ | assumption | refine Below.drew ?_ | refine below_drewN ?_ _ | refine below_alloc ?_ (by first | exact Nat.le_refl _ | assumption | (simp; done) | omega | (simp; omega)) _ | refine below_ext ?_ (by assumption) (by first | exact Nat.le_refl _ | assumption | (simp; done) | omega | (simp; omega)) | refine Ext.drew ?_ | refine Ext.drewN ?_ _ | refine Ext.alloc ?_ _ | refine Ext.setCell ?_ (by first | assumption | (simp; done) | (simp; omega)) _ | refine Below.setCell ?_ (by first | assumption | (simp; done) | (simp; omega)) _ | refine Ext.trans ?_ (by assumption)))) : p := h
section
variable {P : Program} {l rest : List Oper} {Q : Exit → Act → World → Prop} {md : Region.Mode} {S : World → Prop} {oi : Oper} {fuel : Nat} {m : Nat → Bool} {listed : Array Bool} {a : Act} {w : World}
theorem tG (i : Nat) {v : Value} (hn : l.drop i = oi :: rest) (hrun : ∀ w, S w → (execOp a.eval oi).run P w = .ok (.value v) w) (hS : S w) (h : wpAnyH P md l.toArray Q S fuel (listed.setIfInBounds i true) (a.put oi.dst v) w)
    (hc : (Region.noSelect l.toArray && Region.free md l.toArray listed i && (Region.ready md l.toArray listed).contains i && Region.wanted oi (yielded l.toArray a.tmps)) = true := by kernel_rfl)
    (hQ : ∀ c a w, Q (.panic c) (a.put oi.dst v) w → Q (.panic c) a w := by exact fun _ _ _ h => h) : wpAnyH P md l.toArray Q S (fuel + 1) listed a w := by
  simp only [Bool.and_eq_true] at hc
  exact takeL i hn hc.1.1.1 hc.1.1.2 hc.1.2 hQ hc.2 hrun hS h
theorem tS (i : Nat) {v : Value} (h : wpAnyH P md l.toArray Q S fuel (listed.setIfInBounds i true) (a.put oi.dst v) w)
    (hn : l.drop i = oi :: rest := by exact rfl) (hc : (Region.noSelect l.toArray && Region.free md l.toArray listed i && (Region.ready md l.toArray listed).contains i && Region.wanted oi (yielded l.toArray a.tmps)) = true := by kernel_rfl)
    (hQ : ∀ c a w, Q (.panic c) (a.put oi.dst v) w → Q (.panic c) a w := by exact fun _ _ _ h => h)
    (hrun : ∀ w, S w → (execOp a.eval oi).run P w = .ok (.value v) w := by intro w hSw; (try dsimp only at hSw); go_simp <;> with_reducible rfl) (hS : S w := by assumption) : wpAnyH P md l.toArray Q S (fuel + 1) listed a w := tG i hn hrun hS h hc hQ
theorem sS (i : Nat) (h : wpAnyH P md l.toArray Q S fuel (listed.setIfInBounds i true) (a.put oi.dst undef) w)
    (hn : l.drop i = oi :: rest := by exact rfl) (hc : (Region.noSelect l.toArray && Region.free md l.toArray listed i && (Region.ready md l.toArray listed).contains i && !Region.wanted oi (yielded l.toArray a.tmps)) = true := by kernel_rfl)
    (hQ : ∀ c a w, Q (.panic c) (a.put oi.dst undef) w → Q (.panic c) a w := by exact fun _ _ _ h => h) (hS : S w := by assumption) : wpAnyH P md l.toArray Q S (fuel + 1) listed a w := by
  simp only [Bool.and_eq_true, Bool.not_eq_true'] at hc
  exact skipL i hn hc.1.1.1 hc.1.1.2 hc.1.2 hQ hc.2 hS h
theorem oS (i : Nat) (h : ∀ K' : Act → World → Prop, Shut (∀ a w, S w → (S w → wpAnyH P md l.toArray Q S fuel (listed.setIfInBounds i true) a w) → K' a w) → Oper.wp P oi a w K' Q)
    (hn : l.drop i = oi :: rest := by exact rfl) (hr : Region.ready md l.toArray listed = [i] := by kernel_rfl) (hw : Region.wanted oi (yielded l.toArray a.tmps) = true := by kernel_rfl) : wpAnyH P md l.toArray Q S (fuel + 1) listed a w := oneL i hn hr hw h
theorem mG (i : Nat) {v : Value} (hn : l.drop i = oi :: rest) (hrun : ∀ w, S w → (execOp a.eval oi).run P w = .ok (.value v) w) (hS : S w) (h : wpAnyM P md l.toArray Q S m fuel (listed.setIfInBounds i true) (a.put oi.dst v) w)
    (hc : (Region.noSelect l.toArray && Region.free md l.toArray listed i && (Region.ready md l.toArray listed).contains i && waitsMB md l.toArray m listed i && Region.wanted oi (yielded l.toArray a.tmps)) = true := by kernel_rfl)
    (hQ : ∀ c a w, Q (.panic c) (a.put oi.dst v) w → Q (.panic c) a w := by exact fun _ _ _ h => h) : wpAnyM P md l.toArray Q S m (fuel + 1) listed a w := by
  simp only [Bool.and_eq_true] at hc
  exact takeM i hn hc.1.1.1.1 hc.1.1.1.2 hc.1.1.2 hc.1.2 hQ hc.2 hrun hS h
theorem mS (i : Nat) {v : Value} (h : wpAnyM P md l.toArray Q S m fuel (listed.setIfInBounds i true) (a.put oi.dst v) w)
    (hn : l.drop i = oi :: rest := by exact rfl) (hc : (Region.noSelect l.toArray && Region.free md l.toArray listed i && (Region.ready md l.toArray listed).contains i && waitsMB md l.toArray m listed i && Region.wanted oi (yielded l.toArray a.tmps)) = true := by kernel_rfl)
    (hQ : ∀ c a w, Q (.panic c) (a.put oi.dst v) w → Q (.panic c) a w := by exact fun _ _ _ h => h)
    (hrun : ∀ w, S w → (execOp a.eval oi).run P w = .ok (.value v) w := by intro w hSw; (try dsimp only at hSw); (try go_split_ands); go_simp <;> with_reducible rfl) (hS : S w := by assumption) : wpAnyM P md l.toArray Q S m (fuel + 1) listed a w := mG i hn hrun hS h hc hQ
theorem mN (i : Nat) (h : wpAnyM P md l.toArray Q S m fuel (listed.setIfInBounds i true) (a.put oi.dst undef) w)
    (hn : l.drop i = oi :: rest := by exact rfl) (hc : (Region.noSelect l.toArray && Region.free md l.toArray listed i && (Region.ready md l.toArray listed).contains i && waitsMB md l.toArray m listed i && !Region.wanted oi (yielded l.toArray a.tmps)) = true := by kernel_rfl)
    (hQ : ∀ c a w, Q (.panic c) (a.put oi.dst undef) w → Q (.panic c) a w := by exact fun _ _ _ h => h) (hS : S w := by assumption) : wpAnyM P md l.toArray Q S m (fuel + 1) listed a w := by
  simp only [Bool.and_eq_true, Bool.not_eq_true'] at hc
  exact skipM i hn hc.1.1.1.1 hc.1.1.1.2 hc.1.1.2 hc.1.2 hQ hc.2 hS h
theorem eG (i : Nat) {v : Value} (hn : l.drop i = oi :: rest) (hrun : ∀ w, S w → (execOp a.eval oi).run P w = .ok (.value v) w) (hS : S w) (h : wpAnyE P md l.toArray Q S fuel (listed.setIfInBounds i true) (a.put oi.dst v) w)
    (hc : (Region.noSelect l.toArray && Region.free md l.toArray listed i && (Region.ready md l.toArray listed).contains i && waitsB md l.toArray listed i && Region.wanted oi (yielded l.toArray a.tmps)) = true := by kernel_rfl)
    (hQ : ∀ c a w, Q (.panic c) (a.put oi.dst v) w → Q (.panic c) a w := by exact fun _ _ _ h => h) : wpAnyE P md l.toArray Q S (fuel + 1) listed a w := by
  simp only [Bool.and_eq_true] at hc
  exact takeE i hn hc.1.1.1.1 hc.1.1.1.2 hc.1.1.2 hc.1.2 hQ hc.2 hrun hS h
theorem eS (i : Nat) {v : Value} (h : wpAnyE P md l.toArray Q S fuel (listed.setIfInBounds i true) (a.put oi.dst v) w)
    (hn : l.drop i = oi :: rest := by exact rfl) (hc : (Region.noSelect l.toArray && Region.free md l.toArray listed i && (Region.ready md l.toArray listed).contains i && waitsB md l.toArray listed i && Region.wanted oi (yielded l.toArray a.tmps)) = true := by kernel_rfl)
    (hQ : ∀ c a w, Q (.panic c) (a.put oi.dst v) w → Q (.panic c) a w := by exact fun _ _ _ h => h)
    (hrun : ∀ w, S w → (execOp a.eval oi).run P w = .ok (.value v) w := by intro w hSw; (try dsimp only at hSw); (try go_split_ands); go_simp <;> with_reducible rfl) (hS : S w := by assumption) : wpAnyE P md l.toArray Q S (fuel + 1) listed a w := eG i hn hrun hS h hc hQ
end
end Go.Proofs.YtckaneapjpiocaaGreatDoor
