/- The texts HeapR, Rng, Put in one file. -/
import Derived.Test.YtfongpdeflfioaaGreatS2
import Derived.RangeFuncNested
import Derived.RangeFuncBound
import Derived.RangeFuncCalls
import Derived.RangeFuncLeaves
import Derived.Shelf.Abstract
import Derived.Shelf.RegionOpen
import Derived.OwnWalkIn
import Derived.TacticsInMore
import Derived.LoopNIn
import Derived.LoopIn
import Derived.Test.YtfongpdeflfioaaGreatS1
/- Rows of the call's own among a world's items: loads out of them, stores into them. Laws over whatever program. -/
namespace Go.Proofs.YtfongpdeflfioaaGreat
open Go.RowKit
set_option linter.unusedVariables false
section
variable {w0 w w' : World} {its : List It} {e : TypeId} {size n c g : Nat}
theorem row_sets : ∀ (cs : List Value) (p : Nat) (xs : List Value) (w : World) (base : Nat), w.ownsRow base e size (.slice (some ⟨g, 0, none⟩) n c) n xs → p + cs.length ≤ xs.length →
    (w.setCells g p cs).ownsRow base e size (.slice (some ⟨g, 0, none⟩) n c) n (xs.take p ++ cs ++ xs.drop (p + cs.length))
  | [], p, vs, w, base, h, _ => by simpa [World.setCells] using h
  | u :: cs, p, vs, w, base, h, hl => by
    have h1 := (h.stored p u).1
    rw [List.length_cons] at hl
    have h2 := row_sets cs (p + 1) (vs.set p u) (w.setCell ⟨g, p, none⟩ u) base h1 (by simp; omega)
    have e1 : (vs.set p u).take (p + 1) = vs.take p ++ [u] := by
      rw [List.take_set, List.take_succ_eq_append_getElem (by omega), List.set_append_right _ _ (by simp; omega)]
      simp [show p - min p vs.length = 0 by omega]
    have e2 : (vs.set p u).drop (p + 1 + cs.length) = vs.drop (p + (cs.length + 1)) := by
      rw [List.drop_set_of_lt (by omega), show p + 1 + cs.length = p + (cs.length + 1) by omega]
    rw [e1, e2] at h2
    simpa [World.setCells, List.append_assoc] using h2
theorem Heap.rowPut {p : Nat} {xs cs : List Value} (H : Heap w0 its w) (i : Nat) (hi : its[i]? = some (.row e size (.slice (some ⟨g, 0, none⟩) n c) n xs)) (hl : p + cs.length ≤ xs.length) :
    Heap w0 (its.set i (.row e size (.slice (some ⟨g, 0, none⟩) n c) n (xs.take p ++ cs ++ xs.drop (p + cs.length)))) (w.setCells g p cs) :=
  H.upd hi ((keep_sets cs p w).mono fun k hk e => hk (by subst e; rfl)) (row_sets cs p xs w _ (H.rowAt i hi) hl) (fun k hk => .inl hk) (fun k hk => .inl hk) fun k hk => (World.ownsRow.lt (H.rowAt i hi) k hk).1
theorem Heap.rowForm {v : Value} {xs : List Value} (H : Heap w0 its w) (i : Nat) (hi : its[i]? = some (.row e size v n xs)) (hn : 0 < n) : ∃ g c, v = .slice (some ⟨g, 0, none⟩) n c :=
  (World.ownsRow.form (H.rowAt i hi) hn).elim fun g h => h.elim fun c h => ⟨g, c, h.1⟩
theorem Heap.rowRd {A : Option Addr} {xs : List Value} (H : Heap w0 its w) (i : Nat) (hi : its[i]? = some (.row e size (.slice A n c) n xs)) : Rd w w0.heap.size w.heap.size A xs := Rd.of_own (H.rowAt i hi)
theorem Heap.rowLen {v : Value} {xs : List Value} (H : Heap w0 its w) (i : Nat) (hi : its[i]? = some (.row e size v n xs)) : xs.length = n * size := (H.rowAt i hi).1
theorem Heap.addRd2 {A B : Option Addr} {cs ds : List Value} (h : Heap w0 its w) (hw : Ext w w') (hr : Rd w' w.heap.size w'.heap.size A cs) (hr2 : Rd w' w.heap.size w'.heap.size B ds) : Heap w0 (.rd B ds :: .rd A cs :: its) w' := by
  have h1 := h.addRd hw hr (Nat.le_refl _)
  refine ⟨h1.ext, fun j y hy => ?_, fun j l y z k hjl hy hz ho hat => ?_⟩
  · cases j with
    | zero =>
      cases hy
      intro hn
      obtain ⟨b, o, he, h1, h2, h3⟩ := hr2 hn
      exact ⟨b, o, he, h2, Nat.le_trans h.ext.size h1, h3⟩
    | succ j => exact h1.all j y hy
  · cases j with
    | zero => cases hy; exact ho.elim
    | succ j =>
      cases l with
      | zero =>
        cases hz
        obtain ⟨hn, a, rfl, rfl⟩ := hat
        obtain ⟨b, o, he, h2, _⟩ := hr2 hn
        cases he
        cases j with
        | zero => cases hy; exact ho.elim
        | succ j =>
          have := It.at_lt (h.all j y hy) (It.own_at ho)
          exact absurd (Nat.lt_of_lt_of_le this h2) (Nat.lt_irrefl _)
      | succ l => exact h1.apart j l y z k (fun e => hjl (by omega)) hy hz ho hat
end
section
variable {P : Program} {w0 w : World} {its : List It} {o : Oper} {a : Act} {K : Act → World → Prop} {ops : Array Oper} {rest : List Oper} {Q : Exit → Act → World → Prop} {e : TypeId} {size n c g : Nat}
theorem sh_rstore {t : TypeId} {x y : Operand} {p m : Nat} {xs cs : List Value} (H : Heap w0 its w) (hs : (P.info? t).map (·.size) = some m) (ho : o.op = .store t x y) (hx : a.eval x = .pointer (some ⟨g, p, none⟩)) (hy : a.eval y = .agg cs.toArray) (i : Nat)
    (hi : its[i]? = some (.row e size (.slice (some ⟨g, 0, none⟩) n c) n xs)) (hn : cs.length = m) (hl : p + m ≤ n * size)
    (h1 : cs.all (·.oneCell') = true) (k : ∀ w', Heap w0 (its.set i (.row e size (.slice (some ⟨g, 0, none⟩) n c) n (xs.take p ++ cs ++ xs.drop (p + m)))) w' → K (a.put o.dst undef) w') : o.wp P a w K Q := by
  subst hn
  have hb := H.rowAt i hi
  have hxl := hb.1
  have ht : w.there g p cs.toArray.size := fun j hj => by
    have hj' : j < cs.length := by simpa using hj
    exact ⟨by rw [hb.cellAt (p + j) (by omega), List.getElem?_eq_getElem (by omega)]; rfl, hb.frozenAt (p + j)⟩
  have hr := run_storeVar_mid (P := P) w g p t cs.toArray ht (by simpa using hs) (all_oneCell_toArray (fun v hv => List.all_eq_true.1 h1 v hv))
  unfold Oper.wp execOp
  simp only [ho, hx, hy, Instr.storeAt, Instr.sureAddr, Sem.run_bind, Sem.run_pure, Result.andThen_ok, hr]
  exact k _ (H.rowPut i hi (by omega))
theorem sh_rstore1 {t : TypeId} {x y : Operand} {p : Nat} {xs : List Value} {v : Value} (H : Heap w0 its w) (ho : o.op = .store t x y) (hx : a.eval x = .pointer (some ⟨g, p, none⟩)) (hy : a.eval y = v) (i : Nat)
    (hi : its[i]? = some (.row e size (.slice (some ⟨g, 0, none⟩) n c) n xs)) (hl : p < n * size)
    (h1 : v.oneCell' = true) (hs : (P.info? t).map (·.size) = some 1) (k : ∀ w', Heap w0 (its.set i (.row e size (.slice (some ⟨g, 0, none⟩) n c) n (xs.take p ++ [v] ++ xs.drop (p + 1)))) w' → K (a.put o.dst undef) w') : o.wp P a w K Q := by
  have hb := H.rowAt i hi
  have hxl := hb.1
  have hvc : v.cells = #[v] := by cases v <;> first | rfl | cases h1
  have hc : (w.cell? ⟨g, p, none⟩).isSome = true := by rw [hb.cellAt p hl, List.getElem?_eq_getElem (by omega)]; rfl
  have hst := run_storeCells_cells (P := P) g p [v] 0 w (fun j hj => (by
    obtain rfl : j = 0 := by simpa using hj
    exact hc)) (fun j hj => hb.frozenAt (p + 0 + j)) (by simpa using h1)
  have hr : (storeVar t ⟨g, p, none⟩ v).run P w = .ok () (w.setCell ⟨g, p, none⟩ v) := by
    simp only [storeVar, hvc, Sem.run_bind, sizeOf_run hs, Result.andThen_ok]
    simpa [World.setCells] using hst
  unfold Oper.wp execOp
  simp only [ho, hx, hy, Instr.storeAt, Instr.sureAddr, Sem.run_bind, Sem.run_pure, Result.andThen_ok, hr]
  have h2 := H.rowPut (p := p) (cs := [v]) i hi (by simp; omega)
  exact k _ (by simpa [World.setCells] using h2)
theorem shl_rstore {t : TypeId} {x y : Operand} {p m : Nat} {xs cs : List Value} (H : Heap w0 its w) (hs : (P.info? t).map (·.size) = some m) (ho : o.op = .store t x y) (hgd : o.guard = none) (hx : a.eval x = .pointer (some ⟨g, p, none⟩)) (hy : a.eval y = .agg cs.toArray) (i : Nat)
    (hi : its[i]? = some (.row e size (.slice (some ⟨g, 0, none⟩) n c) n xs)) (hn : cs.length = m) (hl : p + m ≤ n * size)
    (h1 : cs.all (·.oneCell') = true) (k : ∀ w', Heap w0 (its.set i (.row e size (.slice (some ⟨g, 0, none⟩) n c) n (xs.take p ++ cs ++ xs.drop (p + m)))) w' → wpList P ops Q rest (a.put o.dst undef) w') : wpList P ops Q (o :: rest) a w :=
  wpList_plain hgd fun _ hK => sh_rstore H hs ho hx hy i hi hn hl h1 fun w' h => hK _ _ (k w' h)
theorem shl_rstore1 {t : TypeId} {x y : Operand} {p : Nat} {xs : List Value} {v : Value} (H : Heap w0 its w) (ho : o.op = .store t x y) (hgd : o.guard = none) (hx : a.eval x = .pointer (some ⟨g, p, none⟩)) (hy : a.eval y = v) (i : Nat)
    (hi : its[i]? = some (.row e size (.slice (some ⟨g, 0, none⟩) n c) n xs)) (hl : p < n * size)
    (h1 : v.oneCell' = true) (hs : (P.info? t).map (·.size) = some 1) (k : ∀ w', Heap w0 (its.set i (.row e size (.slice (some ⟨g, 0, none⟩) n c) n (xs.take p ++ [v] ++ xs.drop (p + 1)))) w' → wpList P ops Q rest (a.put o.dst undef) w') : wpList P ops Q (o :: rest) a w :=
  wpList_plain hgd fun _ hK => sh_rstore1 H ho hx hy i hi hl h1 hs fun w' h => hK _ _ (k w' h)
theorem shl_app (s x : Operand) (t : TypeId) (ho : o.op = .call { callee := .builtin .append, args := #[s, x], argTypes := #[t, t] }) (hgd : o.guard = none)
    {e : TypeId} {inf : TypeInfo} {z : Value} {size bytes : Nat} (ht : P.underlying t = some (.slice e)) (hinf : P.info? e = some inf) (hz : inf.zero = some z)
    (hsize : inf.size = size) (hby : inf.bytes = bytes) (hzs : z.cells.size = size) (hsz : 0 < size)
    {v : Value} {n : Nat} {xs : List Value} (H : Heap w0 its w) (i : Nat) (hi : its[i]? = some (.row e size v n xs)) (hs : a.eval s = v)
    {lo h' : Nat} {A : Option Addr} {m c : Nat} {news : List Value} (hx : a.eval x = .slice A m c) (hl : news.length = m * size) (hr : Rd w lo h' A news) (h1 : ∀ u ∈ news, u.oneCell' = true)
    (h63 : n + m ≤ maxLen) (hbytes : (n + m) * bytes ≤ 140737488355328)
    (k : ∀ v' w', Heap w0 (its.set i (.row e size v' (n + m) (xs ++ news))) w' → (∃ A c, v' = .slice A (n + m) c) → wpList P ops Q rest (a.put o.dst v') w') : wpList P ops Q (o :: rest) a w :=
  wpList_plain hgd fun _ hK => sh_app s x t ho ht hinf hz hsize hby hzs hsz H i hi hs hx hl hr h1 h63 hbytes fun v' w' h h2 => hK _ _ (k v' w' h h2)
theorem shl_app0 (s x : Operand) (t : TypeId) (ho : o.op = .call { callee := .builtin .append, args := #[s, x], argTypes := #[t, t] }) (hgd : o.guard = none)
    {e : TypeId} {inf : TypeInfo} {z : Value} {size bytes : Nat} (ht : P.underlying t = some (.slice e)) (hinf : P.info? e = some inf) (hz : inf.zero = some z)
    (hsize : inf.size = size) (hby : inf.bytes = bytes) (hzs : z.cells.size = size) (hsz : 0 < size)
    (H : Heap w0 its w) (hs : a.eval s = .slice none 0 0)
    {lo h' : Nat} {A : Option Addr} {m c : Nat} {news : List Value} (hx : a.eval x = .slice A m c) (hl : news.length = m * size) (hr : Rd w lo h' A news) (h1 : ∀ u ∈ news, u.oneCell' = true)
    (h63 : m ≤ maxLen) (hbytes : m * bytes ≤ 140737488355328)
    (k : ∀ v' w', Heap w0 (.row e size v' m news :: its) w' → (∃ A c, v' = .slice A m c) → wpList P ops Q rest (a.put o.dst v') w') : wpList P ops Q (o :: rest) a w :=
  wpList_plain hgd fun _ hK => sh_app0 s x t ho ht hinf hz hsize hby hzs hsz H hs hx hl hr h1 h63 hbytes fun v' w' h h2 => hK _ _ (k v' w' h h2)
theorem Heap.row0 {e : TypeId} {size : Nat} (H : Heap w0 its w) : Heap w0 (.row e size (.slice none 0 0) 0 [] :: its) w :=
  H.add (Ext.refl w) (World.ownsRow_nil w w0.heap.size e size) fun k hk => by cases hk
end
end Go.Proofs.YtfongpdeflfioaaGreat
/- A range over a function, by a world's items: what is walked in a round is walked as elsewhere; the law. Laws over whatever program. -/
namespace Go.Proofs.YtfongpdeflfioaaGreat
open Go.RowKit Go.Shelf
set_option linter.unusedVariables false
section
variable {P : Program} {ops : Array Oper} {l rest : List Oper} {Q : Exit → Act → World → Prop} {md : Region.Mode} {r n : Nat} {o : Oper} {a : Act} {w : World}
def calm (o : Oper) : Bool := match o.op with
  | .defer _ => false
  | _ => true
theorem calm_spec {o : Oper} (h : calm o = true) : ∀ c, o.op ≠ .defer c := fun c e => by rw [calm, e] at h; cases h
theorem rowsIn_of {row : String} {args : Array Value} {w : World} {R : Value → World → Prop} (h : Rows P row args w R) : RowsIn (Fence.wide.inRound r) n P row args w R :=
  fun c cs _ => let ⟨v, w', q, s⟩ := h c cs; ⟨v, w', q, stepsIn_wide.2 s⟩
theorem opIn_of {K : Act → World → Prop} (hc : calm o = true) (h : o.wp P a w K Q) : o.wpIn (Fence.wide.inRound r) n P a w K Q := by
  refine ⟨fun _ _ => trivial, ?_⟩
  rw [Oper.semAt_plain _ _ _ (calm_spec hc)]
  unfold Oper.wp at h
  generalize (execOp a.eval o).run P w = x at *
  cases x with
  | ok x w' =>
    cases x <;> simp only [Oper.upon, Oper.uponIn] at h ⊢
    case value v => exact h
    case skip => exact h
    case defer d => exact h
    case enter f args => exact ⟨fun h => by simp [Fence.wide] at h, CallsIn.inRound r (callsIn_wide.2 h)⟩
    case row row args => exact ⟨fun h => by simp [Fence.wide] at h, rowsIn_of h⟩
  | halt x w' => cases x <;> simp only [Oper.upon, Oper.uponIn] at h ⊢ <;> exact h
theorem listIn_of (hL : ¬ LetsOut Q) : ∀ (l : List Oper) (a : Act) (w : World), l.all calm = true → wpList P ops Q l a w → wpListIn (Fence.wide.inRound r) n P ops Q l a w
  | [], _, _, _, h => h
  | o :: l, a, w, hc, h => by
    rw [List.all_cons, Bool.and_eq_true] at hc
    simp only [wpList, wpListIn] at h ⊢
    split at h
    · rename_i hw
      rw [if_pos hw]
      rcases h with h | ⟨_, h⟩
      · exact opIn_of hc.1 (Oper.wp_mono (fun a w => listIn_of hL l a w hc.2) h)
      · exact absurd h hL
    · rename_i hw
      rw [if_neg hw]
      exact ⟨fun _ _ => trivial, listIn_of hL l _ _ hc.2 h⟩
theorem opAtIn_of (hL : ¬ LetsOut Q) (hc : ops.toList.all calm = true) {K : Act → World → Prop} {i : Nat} (h : wpOp P ops Q i K a w) : wpOpIn (Fence.wide.inRound r) n P ops Q i K a w := by
  unfold wpOp at h
  unfold wpOpIn
  cases ho : ops[i]? with
  | none => rw [ho] at h; exact h
  | some o =>
    rw [ho] at h
    simp only at h ⊢
    have hco : calm o = true := List.all_eq_true.1 hc o (by
      obtain ⟨hi, rfl⟩ := Array.getElem?_eq_some_iff.1 ho
      exact Array.getElem_mem_toList hi)
    split at h
    · rename_i hw
      rw [if_pos hw]
      rcases h with h | ⟨_, h⟩
      · exact opIn_of hco h
      · exact absurd h hL
    · rename_i hw
      rw [if_neg hw]
      exact ⟨fun _ _ => trivial, h⟩
theorem anyIn_of (hL : ¬ LetsOut Q) (hc : ops.toList.all calm = true) : ∀ (fuel : Nat) (listed : Array Bool) (a : Act) (w : World), wpAny P md ops Q fuel listed a w → wpAnyIn (Fence.wide.inRound r) n P md ops Q fuel listed a w
  | 0, _, _, _, h => h
  | fuel + 1, _, _, _, h => ⟨h.1, fun i hi => opAtIn_of hL hc (wpOp_mono (fun a w => anyIn_of hL hc fuel _ a w) (h.2 i hi))⟩
theorem regionIn {id : Nat} (hL : ¬ LetsOut Q) (hc : l.all calm = true) (h : wpList P l.toArray Q l a w) : (Code.region id l.toArray false).wpIn (Fence.wide.inRound r) n P Q a w :=
  wpIn_region_lit (listIn_of hL l a w hc h)
theorem regionInD {id : Nat} (hL : ¬ LetsOut Q) (hc : l.all calm = true) (hm : P.follows .mixedOrders = true) (h : wpAny P .any l.toArray Q l.toArray.size (Array.replicate l.toArray.size false) a w.drew) :
    (Code.region id l.toArray true).wpIn (Fence.wide.inRound r) n P Q a w :=
  wpIn_region_any hm (anyIn_of hL (by simpa using hc) _ _ _ _ h)
theorem heldIn {id : Nat} {S : World → Prop} (hL : ¬ LetsOut Q) (hc : l.all calm = true) (hm : P.follows .mixedOrders = true) (hS : S w.drew) (h : S w.drew → wpAnyH P .any l.toArray Q S l.toArray.size (Array.replicate l.toArray.size false) a w.drew) :
    (Code.region id l.toArray true).wpIn (Fence.wide.inRound r) n P Q a w :=
  regionInD hL hc hm (wpAny_of_held _ _ _ _ (h hS))
theorem rgnMIn {id : Nat} {S : World → Prop} (m : Nat → Bool) (hL : ¬ LetsOut Q) (hc : l.all calm = true) (hm : P.follows .mixedOrders = true) (hS : S w.drew) (h : S w.drew → wpAnyM P .any l.toArray Q S m l.toArray.size (Array.replicate l.toArray.size false) a w.drew) :
    (Code.region id l.toArray true).wpIn (Fence.wide.inRound r) n P Q a w :=
  regionInD hL hc hm (wpAny_of_M _ _ _ _ (h hS))
end
abbrev It.obj (b : Nat) (o : Obj) : It := .any (fun k => k = b) (fun w => w.heap[b]? = some o) (fun w k h e => by rw [e]; exact (Array.getElem?_eq_some_iff.1 h).1) (fun w w' _ hk h => (hk b rfl).trans h)
abbrev It.objs (f : Nat → Option Obj) : It := .any (fun k => (f k).isSome = true) (fun w => ∀ k o, f k = some o → w.heap[k]? = some o)
  (fun w k h e => by
    obtain ⟨o, ho⟩ := Option.isSome_iff_exists.1 e
    exact (Array.getElem?_eq_some_iff.1 (h k o ho)).1) (fun w w' _ hk h k o ho => (hk k (by rw [ho]; rfl)).trans (h k o ho))
def Calm (B : Nat) (x : It) : Prop := ∀ (base : Nat) (W : World) (k : Nat), x.holds base W → x.at' k → k < B ∨ ∃ o : Obj, W.heap[k]? = some o ∧ o.isCells = true
theorem calm_cell {w : World} {p : Addr} {v : Value} (hv : w.cell? p = some v) : ∃ o : Obj, w.heap[p.block]? = some o ∧ o.isCells = true := by
  unfold World.cell? at hv
  cases hh : w.heap[p.block]? with
  | none => rw [hh] at hv; cases hv
  | some o =>
    rw [hh] at hv
    refine ⟨o, rfl, ?_⟩
    cases o <;> first | rfl | (simp at hv)
theorem calm_box {B b : Nat} {v : Value} {vs : List Value} : Calm B (.box b (v :: vs)) := fun base W k h ha => .inr (by
  cases ha
  exact calm_cell (p := ⟨b, 0, none⟩) (h.2.cell 0 v rfl))
theorem calm_row {B size n : Nat} {e : TypeId} {v : Value} {xs : List Value} : Calm B (.row e size v n xs) := fun base W k h ha => .inr (by
  rcases h.2 with ⟨hv, _⟩ | ⟨g, cap, cur, hv, h2, h3, h4⟩
  · rw [hv] at ha; cases ha
  · rw [hv] at ha
    cases ha
    exact ⟨_, h3, rfl⟩)
theorem calm_rd {B : Nat} {A : Option Addr} {cs : List Value} : Calm B (.rd A cs) := fun base W k h ha => .inr (by
  obtain ⟨hn, a, rfl, rfl⟩ := ha
  obtain ⟨b, o, he, h1, h2, h3⟩ := h hn
  cases he
  obtain ⟨c, cs', rfl⟩ : ∃ c cs', cs = c :: cs' := by cases cs with
    | nil => exact absurd rfl hn
    | cons c cs' => exact ⟨c, cs', rfl⟩
  exact calm_cell (p := ⟨b, o + 0, none⟩) (h3 0 c rfl))
theorem calm_low {B : Nat} {S : Nat → Prop} {p : World → Prop} {lt keep} (h : ∀ k, S k → k < B) : Calm B (.any S p lt keep) := fun base W k _ ha => .inl (h k ha)
theorem walk_cells {o : Obj} (h : o.isWalk = true) (k : o.isCells = true) : False := by cases o <;> simp [Obj.isWalk, Obj.isCells] at h k
def KeepW (lo B : Nat) (W W' : World) : Prop := ∀ (k : Nat) (o : Obj), (k < lo ∨ B ≤ k) → W.heap[k]? = some o → o.isWalk = true → W'.heap[k]? = some o
section
variable {P : Program} {w0 w w' : World} {its : List It} {i : Nat}
theorem Heap.objAt {b : Nat} {o : Obj} (h : Heap w0 its w) (i : Nat) (hi : its[i]? = some (.obj b o)) : w.heap[b]? = some o := (h.all i _ hi).2
theorem Heap.addObj (h : Heap w0 its w) (o : Obj) : Heap w0 (.obj w.heap.size o :: its) (w.alloc o) :=
  h.add ((Ext.refl w).alloc o) ⟨fun k hk => by subst hk; exact h.ext.size, World.alloc_heap_new w o⟩ fun k hk => by cases hk; exact Nat.le_refl _
theorem keep_putObj (w : World) (b : Nat) (o : Obj) : Keep (fun k => k ≠ b) w (w.putObj b o) :=
  ⟨rfl, rfl, rfl, by simp, fun k _ hk => World.putObj_heap_other hk⟩
theorem Heap.putObj {b : Nat} {o : Obj} (h : Heap w0 its w) (i : Nat) (hi : its[i]? = some (.obj b o)) (o' : Obj) : Heap w0 (its.set i (.obj b o')) (w.putObj b o') :=
  h.upd hi ((keep_putObj w b o').mono fun k hk e => hk e) ⟨(h.all i _ hi).1, World.putObj_heap_same (Array.getElem?_eq_some_iff.1 (h.objAt i hi)).1⟩ (fun k hk => .inl hk) (fun k hk => .inl hk) fun k hk => (h.all i _ hi).1 k hk
theorem Heap.beside {x : It} (h : Heap w0 its w) (hx : x.holds w0.heap.size w) (hn : ∀ k, x.at' k → ∀ y ∈ its, ¬ y.at' k) : Heap w0 (x :: its) w := by
  refine ⟨h.ext, fun j y hy => ?_, fun j l y z k hjl hy hz ho hat => ?_⟩
  · cases j with
    | zero => cases hy; exact hx
    | succ j => exact h.all j y hy
  · cases j with
    | zero =>
      cases hy
      cases l with
      | zero => exact hjl rfl
      | succ l => exact hn k (It.own_at ho) z (List.mem_of_getElem? hz) hat
    | succ j =>
      cases l with
      | zero => cases hz; exact hn k hat y (List.mem_of_getElem? hy) (It.own_at ho)
      | succ l => exact h.apart j l y z k (fun e => hjl (by omega)) hy hz ho hat
theorem Heap.turned {B : Nat} {row : Option Nat} (h : Heap w0 its w) (hB : w0.heap.size ≤ B) (hc : ∀ x ∈ its, Calm B x) (hg : w.grownBy w' row) (hr : ∀ r, row = some r → B ≤ r ∧ ∃ o : Obj, w.heap[r]? = some o ∧ o.isWalk = true) : Heap w0 its w' := by
  refine ⟨Below.grown h.ext hg h.ext.size (fun k e => Nat.le_trans hB (hr k e).1), fun i x hx => ?_, h.apart⟩
  refine It.keeps (h.all i x hx) hg.size fun k hk => hg.block k (It.at_lt (h.all i x hx) hk) fun e => ?_
  obtain ⟨hb, o, ho, hw⟩ := hr k e.symm
  rcases hc x (List.mem_of_getElem? hx) _ _ k (h.all i x hx) hk with h1 | ⟨o', h1, h2⟩
  · omega
  · rw [ho] at h1
    cases h1
    exact walk_cells hw h2
theorem rangeH {α : Type} {N : Nat} {g : Operand} {ps : Array Tmp} {assign body : Code} {Q : Exit → Act → World → Prop} {a : Act} {gf : Nat} {lb : Array Value} {encs : α → Array Value} {ok : List α → α → Prop} {S : List α → Prop} (R : List α → List It → Prop) (turns : Bool)
    (hg : a.eval g = .func (.func gf) #[] lb) (eg : ∀ args w, (callFunc gf args).run P w = .ok (.enter gf args) w) (hps : ∀ x, (encs x).size = ps.size)
    (hcalm : turns = true → ∀ pre L, R pre L → ∀ x ∈ L, Calm w.heap.size x)
    (hseq : ∀ (l : Nat) (J : List α → World → Prop) (W : World), Ext w W → (∀ pre W, J pre W → ∃ x y L, R pre L ∧ Heap w0 (x :: y :: L) W) → (∀ pre W, J pre W → J pre W.drew) → (turns = true → AbidesFrom W.heap.size J) →
      (∀ pre x W1, J pre W1 → pre.length < N → ok pre x → YieldAt Fence.wide 0 P l (encs x) W1 fun e W' => e = .returned (.bool true) ∧ J (pre ++ [x]) W' ∧ (turns = true → KeepW w0.heap.size W.heap.size W1 W')) → J [] W →
      Calls P gf (#[.func (.yield l) #[] #[]] ++ lb) W fun e W' => (∃ v, e = .returned v) ∧ ∃ xs, S xs ∧ J xs W')
    {L0 : List It} (hR0 : R [] L0) (h0 : Heap w0 L0 w) (a₁ : α → Act)
    (hassign : ∀ (l : Nat) (x : α) (W : World) (K : Act → World → Prop), K (a₁ x) W →
      assign.wpIn (Fence.wide.inRound l) 0 P (Exit.then K (fun _ _ _ => False)) { tmps := (ps.zip (encs x)).foldl (fun t (p, v) => t.setIfInBounds p v) a.tmps, defers := [] } W)
    (hbody : ∀ (l : Nat) (pre : List α) (x : α) (y1 y2 y3 : It) (L : List It) (W : World), pre.length < N → ok pre x → R pre L → Heap w0 (y1 :: y2 :: y3 :: L) W → body.wpIn (Fence.wide.inRound l) 0 P (fun e _ W' => e = .normal ∧ ∃ L', R (pre ++ [x]) L' ∧ Heap w0 (y1 :: y2 :: y3 :: L') W') (a₁ x) W)
    (hdone : ∀ (D : Nat) (y : It) (xs : List α) (L : List It) (W : World), S xs → R xs L → Heap w0 (y :: .obj D (.deferred (some [])) :: L) W → Q .normal { a with defers := { target := .collected D, args := #[] } :: a.defers } W) :
    (Code.rangeFunc g ps assign body).wp P Q a w := by
  refine (wpIn_wide (n := 0)).1 (wpIn_rangeFunc ?_)
  intro fn _
  obtain ⟨rc, hrc⟩ : ∃ rc : LoopState → Option Code → Loop, rc = fun st pe => { state := st, pending := pe, fn, tmps := a.tmps, params := ps, assign, body, defers := w.heap.size } := ⟨_, rfl⟩
  obtain ⟨W1, hW1⟩ : ∃ W1, (w.alloc (.deferred (some []))).alloc (.loop (rc .ready none)) = W1 := ⟨_, rfl⟩
  have H1 : Heap w0 (.obj (w.heap.size + 1) (.loop (rc .ready none)) :: .obj w.heap.size (.deferred (some [])) :: L0) W1 := by
    have h := (h0.addObj (.deferred (some []))).addObj (.loop (rc .ready none))
    rw [← hW1]
    simpa only [World.size_alloc] using h
  have E1 : Ext w W1 := by rw [← hW1]; exact ((Ext.refl w).alloc _).alloc _
  have hs1 : W1.heap.size = w.heap.size + 1 + 1 := by rw [← hW1]; simp
  have hcl : turns = true → ∀ pre L, R pre L → ∀ o1 o2, ∀ x ∈ It.obj (w.heap.size + 1) o1 :: It.obj w.heap.size o2 :: L, Calm W1.heap.size x := fun ht pre L hL o1 o2 x hx => by
    rcases List.mem_cons.1 hx with rfl | hx
    · exact calm_low fun k e => by subst e; omega
    rcases List.mem_cons.1 hx with rfl | hx
    · exact calm_low fun k e => by subst e; omega
    intro base W k h ha
    rcases hcalm ht pre L hL x hx base W k h ha with h1 | h1
    · exact .inl (by omega)
    · exact .inr h1
  refine ⟨w.heap.size + 1, [{ target := .collected w.heap.size, args := #[] }], W1, { target := .fn (.func gf) lb, args := #[.func (.yield (w.heap.size + 1)) #[] #[]] }, W1, gf,
    #[.func (.yield (w.heap.size + 1)) #[] #[]] ++ lb, W1, ?_, ?_, ?_, ?_, fun h => by simp [Fence.wide] at h, ?_⟩
  · rw [← hW1, hrc]
    exact run_enterLoop_outer _ _ _ _ _
  · simp only [resolve, hg]
    simp [go_sem]
  · intro f' _
    trivial
  · simp [invoke, go_sem, eg]
  · refine callsIn_wide.2 ((hseq (w.heap.size + 1) (fun pre W => ∃ L, R pre L ∧ Heap w0 (.obj (w.heap.size + 1) (.loop (rc .ready none)) :: .obj w.heap.size (.deferred (some [])) :: L) W) W1 E1 (fun k W h => let ⟨L, h1, h2⟩ := h; ⟨_, _, L, h1, h2⟩) (fun k W h => let ⟨L, h1, h2⟩ := h; ⟨L, h1, h2.drew⟩) (fun ht pre A B row hA hgr hrow => let ⟨L, h1, h2⟩ := hA; ⟨L, h1, h2.turned (Nat.le_trans h0.ext.size E1.size) (hcl ht pre L h1 _ _) hgr hrow⟩) ?_ ⟨L0, hR0, H1⟩).mono ?_)
    · rintro pre x W ⟨L, hRL, H⟩ hk hok
      have hl := H.objAt 0 rfl
      have hy := run_yield (P := P) (args := encs x) hl (by rw [hrc]; exact hps x)
      rw [hrc] at hy
      refine ⟨fn, _, assign, body, hy, roundIn_of_wpIn trivial (hassign _ x W _ ?_)⟩
      clear hy
      refine ⟨_, run_beginRound hl (by rw [hrc]), ?_⟩
      have H2 := H.putObj 0 rfl (.loop { rc .ready none with state := .busy })
      obtain ⟨W2, hW2⟩ : ∃ W2, W.putObj (w.heap.size + 1) (.loop { rc .ready none with state := .busy }) = W2 := ⟨_, rfl⟩
      rw [hW2] at H2 ⊢
      have hother : ∀ k, k ≠ w.heap.size + 1 → W2.heap[k]? = W.heap[k]? := fun k hk => by rw [← hW2]; exact World.putObj_heap_other hk
      have hsz2 : W2.heap.size = W.heap.size := by rw [← hW2]; simp
      let f : Nat → Option Obj := fun k => if turns = true ∧ W1.heap.size ≤ k then (match W2.heap[k]? with
        | some o => if o.isWalk then some o else none
        | none => none) else none
      have hf : ∀ k o, f k = some o → turns = true ∧ W1.heap.size ≤ k ∧ W2.heap[k]? = some o ∧ o.isWalk = true := fun k o h => by
        simp only [f] at h
        split at h
        · rename_i hc
          split at h
          · rename_i o' ho'
            split at h
            · rename_i hw
              cases h
              exact ⟨hc.1, hc.2, ho', hw⟩
            · cases h
          · cases h
        · cases h
      have H3 := Heap.beside (x := .objs f) H2 ⟨fun k hk => by
          obtain ⟨o, ho⟩ := Option.isSome_iff_exists.1 hk
          have := (hf k o ho).2.1
          have := H1.ext.size
          omega, fun k o ho => (hf k o ho).2.2.1⟩ (fun k hk y hy hat => by
          obtain ⟨o, ho⟩ := Option.isSome_iff_exists.1 hk
          obtain ⟨ht, hle, ho2, hw⟩ := hf k o ho
          obtain ⟨j, hj⟩ := List.getElem?_of_mem hy
          rcases hcl ht pre L hRL _ _ y hy w0.heap.size W2 k (H2.all j y hj) hat with h1 | ⟨o', h1, h2⟩
          · omega
          · rw [ho2] at h1
            cases h1
            exact walk_cells hw h2)
      refine wpIn_mono (hbody _ pre x _ _ _ L W2 hk hok hRL H3) ?_
      rintro e a3 W3 ⟨rfl, L', hRL', H4⟩
      have H5 := H4.tail
      have hl3 := H5.objAt 0 rfl
      refine ⟨_, _, run_endRound (P := P) none hl3, rfl, ?_, fun ht => ?_⟩
      · have H6 := H5.putObj 0 rfl (.loop (rc .ready none))
        rw [hrc] at H6 ⊢
        exact ⟨L', hRL', H6⟩
      intro k o hk ho hw
      have hne : k ≠ w.heap.size + 1 := by
        have := h0.ext.size
        rcases hk with h | h
        · omega
        · omega
      have ho2 : W2.heap[k]? = some o := (hother k hne).trans ho
      have ho3 : W3.heap[k]? = some o := by
        rcases hk with h | h
        · exact ((H4.ext.block k h).trans (H2.ext.block k h).symm).trans ho2
        · refine (H4.all 0 _ rfl).2 k o ?_
          simp only [f]
          rw [if_pos ⟨ht, h⟩, ho2]
          simp only [hw, if_true]
      exact (World.putObj_heap_other hne).trans ho3
    · rintro e W2 ⟨⟨v, rfl⟩, xs, hS, L, hRL, H⟩
      have hl := H.objAt 0 rfl
      exact ⟨_, _, run_endLoop (P := P) hl (by rw [hrc]; simp), by
        simp only [hrc]
        exact hdone _ _ xs L _ hS hRL (H.putObj 0 rfl _)⟩
end
end Go.Proofs.YtfongpdeflfioaaGreat
/- octets.Put: a range over slices.Backward: the iterator's contract, the caller. -/
namespace Go.Proofs.YtfongpdeflfioaaGreat
open Go.RowKit Go.Shelf
attribute [local go_sem] Oper.semAt_some
def KeepB (Bs b m : Nat) (W W' : World) : Prop :=
  (∀ v, W.cell? ⟨Bs, 0, none⟩ = some v → W'.cell? ⟨Bs, 0, none⟩ = some v) ∧ ∀ j, j < m → (∃ v : Int, W.cell? ⟨b, j, none⟩ = some (.int .u8 v)) → ∃ v : Int, W'.cell? ⟨b, j, none⟩ = some (.int .u8 v)
theorem keepB_refl (Bs b m : Nat) (W : World) : KeepB Bs b m W W := ⟨fun _ h => h, fun _ _ h => h⟩
theorem keepB_t {Bs b m : Nat} {A B C : World} (h : KeepB Bs b m A B) (k : KeepB Bs b m B C) : KeepB Bs b m A C := ⟨fun v hv => k.1 v (h.1 v hv), fun j hj hv => k.2 j hj (h.2 j hj hv)⟩
theorem keepB_b {Bs b m : Nat} {w : World} (W : World) (l : Nat) (o o' : Obj) (_ : w.heap.size ≤ l) (h : W.heap[l]? = some o) (hc : o.isCells = false) (_ : o.isWalk = false) : KeepB Bs b m W (W.putObj l o') := by
  have key : ∀ (p : Addr) v, W.cell? p = some v → (W.putObj l o').cell? p = some v := fun p v hv => by
    have hne : p.block ≠ l := by
      rintro rfl
      unfold World.cell? at hv
      rw [h] at hv
      cases o <;> simp [Obj.isCells] at hc hv
    rw [World.cell?_of_block (World.putObj_heap_other hne)]
    exact hv
  exact ⟨fun v hv => key _ v hv, fun j _ ⟨v, hv⟩ => ⟨v, key _ _ hv⟩⟩
abbrev BackX (m : Nat) := { i : Nat // i < m } × Int
def backEnc (m : Nat) (x : BackX m) : Array Value := #[.int .i64 (x.1.1 : Int), .int .u8 x.2]
set_option maxRecDepth 100000 in
set_option maxHeartbeats 2000000 in
theorem back1_in (F : Fence) (n : Nat) (hf : F.fn 145) (hro : F.round = none) (hn : 1 ≤ n) (l Bs b m : Nat) (hm : m ≤ 8) (J Jx : List (BackX m) → World → Prop)
    (hY : ∀ pre x W, J pre W → pre.length < m → YieldAt F (n - 1) Tryz.prog l (backEnc m x) W fun e W' =>
      (e = .returned (.bool true) ∧ J (pre ++ [x]) W' ∧ KeepB Bs b m W W') ∨ (e = .returned (.bool false) ∧ Jx (pre ++ [x]) W'))
    (W : World) (hBs : W.cell? ⟨Bs, 0, none⟩ = some (.slice (some ⟨b, 0, none⟩) m m)) (hc : ∀ j, j < m → ∃ v : Int, W.cell? ⟨b, j, none⟩ = some (.int .u8 v)) (h0 : J [] W) :
    CallsIn F n Tryz.prog 145 #[.func (.yield l) #[] #[], .pointer (some ⟨Bs, 0, none⟩)] W fun e W' => (∃ v, e = .returned v) ∧
      ((∃ ys : List (BackX m), ys.map (·.1.1) = (List.range m).map (fun j => m - 1 - j) ∧ J ys W') ∨ (∃ pre, True ∧ Jx pre W')) := by
  refine callsIn_of_wp Tryz.func145 rfl hf ?_ hro
  simp only [Tryz.ntmps145, List.size_toArray, List.length_cons, List.length_nil, Nat.reduceAdd, Nat.reduceSub, Array.replicate_succ, Array.replicate_zero, List.push_toArray, List.append_toArray, List.nil_append, List.cons_append]
  gi_wp2
  gi_loopw [3] (fun i wr => ∃ (k : Nat) (pre : List (BackX m)), k ≤ m ∧ i = .int .i64 ((m : Int) - 1 - k) ∧ pre.length = k ∧ pre.map (·.1.1) = (List.range k).map (fun j => m - 1 - j) ∧ J pre wr ∧ KeepB Bs b m W wr)
    (fun i _ => (intOf i + 1).toNat)
  case atStart => exact ⟨0, [], Nat.zero_le _, by simp, rfl, rfl, h0, keepB_refl _ _ _ _⟩
  case round =>
    obtain ⟨k, pre, hk, rfl, hpl, hpm, hJs, hkp⟩ := hrel
    have HP := Lib.hid hpm
    have HL := Lib.hid hpl
    clear hpm hpl
    have hB' := hkp.1 _ hBs
    by_cases hlt : k < m
    · obtain ⟨v, hv⟩ := hkp.2 (m - 1 - k) (by omega) (hc (m - 1 - k) (by omega))
      obtain ⟨fn, tmps, assign, body, hy, hR⟩ := hY pre (⟨m - 1 - k, by omega⟩, v) wr hJs (by rw [HL.out]; exact hlt)
      have hcast : ((m - 1 - k : Nat) : Int) = (m : Int) - 1 - k := by omega
      simp only [backEnc, hcast] at hy
      clear hcast
      gi_wp2
      refine hR.mono ?_
      rintro e W3 (⟨rfl, hJ3, hk3⟩ | ⟨rfl, hJx3⟩)
      · have hkp3 := keepB_t hkp hk3
        gi_wp2
        go_roundw
        case rel =>
          refine ⟨k + 1, _, by omega, by congr 1; omega, ?_, ?_, hJ3, hkp3⟩
          · rw [List.length_append, HL.out]
            rfl
          · rw [List.map_append, HP.out, List.range_succ, List.map_append]
            rfl
        case measure => simp [intOf]; omega
      · gi_wp2
        refine bodyPost_ret (results_none rfl _ _ _) rfl ?_
        exact ⟨⟨_, rfl⟩, .inr ⟨_, trivial, hJx3⟩⟩
    · obtain rfl : k = m := by omega
      gi_wp2
      go_end0
      exact ⟨⟨_, rfl⟩, .inl ⟨pre, HP.out, hJs⟩⟩
theorem back_stops (F : Fence) (n : Nat) (hf : F.fn 145) (hro : F.round = none) (hn : 1 ≤ n) (Bs b m : Nat) (hm : m ≤ 8) (w : World) (hbl : b < w.heap.size) (hBl : Bs < w.heap.size)
    (hBs : w.cell? ⟨Bs, 0, none⟩ = some (.slice (some ⟨b, 0, none⟩) m m)) (hc : ∀ j, j < m → ∃ v : Int, w.cell? ⟨b, j, none⟩ = some (.int .u8 v)) :
    SeqStopsK F n Tryz.prog 145 #[.pointer (some ⟨Bs, 0, none⟩)] (backEnc m) (KeepB Bs b m) (fun ys => ys.map (·.1.1) = (List.range m).map (fun j => m - 1 - j)) (fun _ => True) m w :=
  fun l J Jx W hW _ _ hY h0 => back1_in F n hf hro hn l Bs b m hm J Jx hY W ((hW.cell (p := ⟨Bs, 0, none⟩) hBl).trans hBs) (fun j hj => by
    obtain ⟨v, hv⟩ := hc j hj
    exact ⟨v, (hW.cell (p := ⟨b, j, none⟩) hbl).trans hv⟩) h0
set_option maxRecDepth 100000 in
set_option maxHeartbeats 1000000 in
theorem backward_in (F : Fence) (n : Nat) (hf : F.fn 130) (hro : F.round = none) (a : Option Addr) (len cap : Nat) (w : World) :
    CallsIn F n Tryz.prog 130 #[.slice a len cap] w fun e w' => e = .returned (.func (.func 145) #[] #[.pointer (some ⟨w.heap.size, 0, none⟩)]) ∧ w' = w.alloc (.cells #[.slice a len cap] 33) := by
  refine callsIn_of_wp Tryz.func130 rfl hf ?_ hro
  simp only [Tryz.ntmps130, List.size_toArray, List.length_cons, List.length_nil, Nat.reduceAdd, Nat.reduceSub, Array.replicate_succ, Array.replicate_zero, List.push_toArray, List.append_toArray, List.nil_append, List.cons_append]
  gi_wp2
  go_ret
  exact ⟨rfl, rfl⟩
def bt (n : Int) (i : Nat) : UInt8 := UInt8.ofNat ((n / (256 : Int) ^ i) % 256).toNat
def puts (n : Int) (m : Nat) : List UInt8 := (List.range m).map fun j => bt n (m - 1 - j)
def putStep (s : Int × List UInt8) (i : Nat) : Int × List UInt8 := (s.1 / 256, s.2.set i (bt s.1 0))
def putState (n : Int) (m : Nat) (l : List Nat) : Int × List UInt8 := l.foldl putStep (n, List.replicate m 0)
theorem putState_snoc (n : Int) (m : Nat) (l : List Nat) (i : Nat) : putState n m (l ++ [i]) = putStep (putState n m l) i := by simp [putState]
theorem putState_len (n : Int) (m : Nat) (l : List Nat) : (putState n m l).2.length = m := by
  unfold putState
  suffices h : ∀ (s : Int × List UInt8), s.2.length = m → (l.foldl putStep s).2.length = m from h _ (by simp)
  induction l with
  | nil => exact fun s h => h
  | cons i l ih => exact fun s h => ih _ (by simp [putStep, h])
theorem putState_all (n : Int) (m k : Nat) (hk : k ≤ m) : (putState n m ((List.range k).map (fun j => m - 1 - j))).1 = n / (256 : Int) ^ k ∧ ∀ j, j < m → (putState n m ((List.range k).map (fun j => m - 1 - j))).2[j]? = some (if m - k ≤ j then bt n (m - 1 - j) else 0) := by
  induction k with
  | zero =>
    refine ⟨by simp [putState], fun j hj => ?_⟩
    simp [putState, hj]
    intro h
    omega
  | succ k ih =>
    obtain ⟨h1, h2⟩ := ih (by omega)
    rw [List.range_succ, List.map_append, List.map_cons, List.map_nil, putState_snoc]
    generalize putState n m ((List.range k).map (fun j => m - 1 - j)) = s at *
    constructor
    · rw [putStep, h1, Int.ediv_ediv_of_nonneg (by exact Int.pow_nonneg (by omega)), Int.pow_succ]
    · intro j hj
      simp only [putStep]
      rw [List.getElem?_set]
      have hl : m - 1 - k < s.2.length := by
        have := h2 (m - 1 - k) (by omega)
        exact (List.getElem?_eq_some_iff.1 this).1
      by_cases e : m - 1 - k = j
      · subst e
        rw [if_pos rfl, if_pos hl, if_pos (by omega)]
        congr 1
        rw [show m - 1 - (m - 1 - k) = k from by omega, h1, bt, bt]
        simp
      · rw [if_neg e, h2 j hj]
        by_cases e2 : m - k ≤ j
        · rw [if_pos e2, if_pos (by omega)]
        · rw [if_neg e2, if_neg (by omega)]
theorem putState_puts (n : Int) (m : Nat) : (putState n m ((List.range m).map (fun j => m - 1 - j))).2 = puts n m := by
  obtain ⟨_, h⟩ := putState_all n m m (Nat.le_refl _)
  apply List.ext_getElem?
  intro j
  by_cases hj : j < m
  · rw [h j hj, if_pos (by omega), puts, List.getElem?_map, List.getElem?_range hj]
    rfl
  · rw [List.getElem?_eq_none (by rw [putState_len]; omega), List.getElem?_eq_none (by simp [puts]; omega)]
theorem puts_length (n : Int) (m : Nat) : (puts n m).length = m := by simp [puts]
def BlkP (w : World) (g : Nat) (t : TypeId) (cs : Array Value) : Prop := w.heap[g]? = some (.cells cs t (0, 0))
theorem BlkP.cell {w : World} {g : Nat} {t : TypeId} {cs : Array Value} (h : BlkP w g t cs) (i : Nat) : w.cell? ⟨g, i, none⟩ = cs[i]? := by
  unfold BlkP at h
  unfold World.cell?
  rw [h]
  simp
theorem BlkP.frozen {w : World} {g : Nat} {t : TypeId} {cs : Array Value} (h : BlkP w g t cs) (i : Nat) : w.frozen? ⟨g, i, none⟩ = false := by
  unfold BlkP at h
  simp [World.frozen?, h]
theorem BlkP.new (w : World) (t : TypeId) (cs : Array Value) : BlkP (w.alloc (.cells cs t)) w.heap.size t cs := heap_alloc_new w _
theorem BlkP.lt {w : World} {g : Nat} {t : TypeId} {cs : Array Value} (h : BlkP w g t cs) : g < w.heap.size := (Array.getElem?_eq_some_iff.1 h).1
theorem BlkP.alloc {w : World} {g : Nat} {t : TypeId} {cs : Array Value} (h : BlkP w g t cs) (o : Obj) : BlkP (w.alloc o) g t cs := (Below.heap_alloc w o g h.lt).trans h
theorem BlkP.set_ {w : World} {g : Nat} {t : TypeId} {cs : Array Value} (h : BlkP w g t cs) (i : Nat) (u : Value) : BlkP (w.setCell ⟨g, i, none⟩ u) g t (cs.setIfInBounds i u) := by
  unfold BlkP at h ⊢
  simp [World.setCell, Array.getElem?_modify, h]
theorem BlkP.far {w : World} {g : Nat} {t : TypeId} {cs : Array Value} (h : BlkP w g t cs) {p : Addr} (hp : g ≠ p.block) (u : Value) : BlkP (w.setCell p u) g t cs := (Below.heap_setCell w p u g hp).trans h
theorem BlkP.kept {W W' : World} {g : Nat} {t : TypeId} {cs : Array Value} {row : Option Nat} (h : BlkP W g t cs) (hg : W.grownBy W' row) (hr : ∀ r, row = some r → ∃ o : Obj, W.heap[r]? = some o ∧ o.isCells = false) : BlkP W' g t cs :=
  (hg.block g h.lt (fun e => by
    obtain ⟨o, ho, hc⟩ := hr g e.symm
    unfold BlkP at h
    rw [h] at ho
    cases ho
    cases hc)).trans h
theorem BlkP.own {w : World} {g : Nat} {t : TypeId} {base n : Nat} {cs : List Value} (h : BlkP w g t cs.toArray) (hb : base ≤ g) (hn : cs.length = n) (hm : n ≤ maxLen) : w.ownsRow base t 1 (.slice (some ⟨g, 0, none⟩) n n) n cs :=
  ⟨by omega, .inr ⟨g, n, cs.toArray, rfl, hb, h, Nat.le_refl _, hm, by simp [hn], by simp [← hn]⟩⟩
theorem putState_bd (n : Int) (m : Nat) (l : List Nat) (h1 : -9223372036854775808 ≤ n) (h2 : n ≤ 9223372036854775807) : -9223372036854775808 ≤ (putState n m l).1 ∧ (putState n m l).1 ≤ 9223372036854775807 := by
  unfold putState
  suffices h : ∀ (s : Int × List UInt8), -9223372036854775808 ≤ s.1 → s.1 ≤ 9223372036854775807 → -9223372036854775808 ≤ (l.foldl putStep s).1 ∧ (l.foldl putStep s).1 ≤ 9223372036854775807 from h _ h1 h2
  induction l with
  | nil => exact fun s a b => ⟨a, b⟩
  | cons i l ih => exact fun s a b => ih _ (by simp only [putStep]; omega) (by simp only [putStep]; omega)
theorem bt_zero (n : Int) : ((bt n 0).toNat : Int) = n % 256 := by
  have h1 : 0 ≤ n % 256 := Int.emod_nonneg _ (by omega)
  have h2 : n % 256 < 256 := Int.emod_lt_of_pos _ (by omega)
  simp only [bt, Int.pow_zero, Int.ediv_one]
  rw [UInt8.toNat_ofNat']
  omega
theorem bytes_set (l : List UInt8) (i : Nat) (b : UInt8) : bytes (l.set i b) = (bytes l).set i (.int .u8 (b.toNat : Int)) := by
  simp [bytes, List.map_set]
theorem info5 : (Tryz.prog.info? 5).map (fun i => (i.zero, i.size, i.bytes)) = some (some (.int .u8 0), 1, 1) := by kernel_rfl
theorem zeros_eq (m : Nat) : madeCells (Value.int .u8 0).cells m = (bytes (List.replicate m 0)).toArray := by
  apply Array.toList_inj.1
  show (madeCells #[Value.int .u8 0] m).toList = _
  rw [toList_madeCells_one]
  simp [bytes]
theorem mk_bytes (m : Nat) (hm : m ≤ 140737488355328) (u : World) : (Instr.makeSlice 33 (.int .i64 (m : Int)) (.int .i64 (m : Int))).run Tryz.prog u = .ok (.slice (some ⟨u.heap.size, 0, none⟩) m m) (u.alloc (.cells (bytes (List.replicate m 0)).toArray 5)) := by
  obtain ⟨i0, hi0, hz0, hz1, hz2⟩ := info_parts info5
  have h := run_make (P := Tryz.prog) u 33 5 i0 _ Tryz.underlying33 hi0 hz0 .i64 .i64 m m (by omega) (by omega) (by rw [hz2]; omega) (by omega)
  rw [hz1, Int.toNat_natCast, Nat.mul_one, zeros_eq] at h
  exact h
set_option maxRecDepth 100000 in
set_option maxHeartbeats 2000000 in
theorem put_in (F : Fence) (n : Nat) (h3 : F.fn 99) (h5 : F.fn 130) (h6 : F.fn 145) (hro : F.round = none) (hn : 3 ≤ n) (x size : Int) (m : Nat) (hm : m ≤ 8) (hs : size = (m : Int)) (w : World) (hx1 : -9223372036854775808 ≤ x) (hx2 : x ≤ 9223372036854775807) :
    CallsIn F n Tryz.prog 99 #[.int .i64 x, .int .i64 size] w fun e W' => ∃ v, e = .returned v ∧ W'.ownsRow w.heap.size 5 1 v m (bytes (puts x m)) ∧ Ext w W' := by
  subst hs
  have h1 : 1 ≤ n := by omega
  have hmk := mk_bytes m (by omega)
  refine callsIn_of_wp_marks Tryz.func99 rfl h3 ?_ hro
  simp only [Tryz.ntmps99, List.size_toArray, List.length_cons, List.length_nil, Nat.reduceAdd, Nat.reduceSub, Array.replicate_succ, Array.replicate_zero, List.push_toArray, List.append_toArray, List.nil_append, List.cons_append]
  gi_wp2_with (gi_at_call 130; refine (backward_in F (n - 1) h5 hro _ _ _ _).mono ?_; rintro e w' ⟨rfl, rfl⟩)
  have B0 : BlkP ((((w.alloc (Obj.cells #[Value.int IntKind.i64 x] 3)).alloc (Obj.cells (bytes (List.replicate m 0)).toArray 5)).alloc (Obj.cells #[Value.slice (some { block := w.heap.size + 1, off := 0 }) m m] 33)).alloc (Obj.cells #[Value.slice (some { block := w.heap.size + 1, off := 0 }) m m] 33)) w.heap.size 3 #[.int .i64 x] := (((BlkP.new w _ _).alloc _).alloc _).alloc _
  have B1 : BlkP ((((w.alloc (Obj.cells #[Value.int IntKind.i64 x] 3)).alloc (Obj.cells (bytes (List.replicate m 0)).toArray 5)).alloc (Obj.cells #[Value.slice (some { block := w.heap.size + 1, off := 0 }) m m] 33)).alloc (Obj.cells #[Value.slice (some { block := w.heap.size + 1, off := 0 }) m m] 33)) (w.heap.size + 1) 5 (bytes (List.replicate m 0)).toArray := by
    have := ((BlkP.new (w.alloc (Obj.cells #[Value.int IntKind.i64 x] 3)) 5 (bytes (List.replicate m 0)).toArray).alloc (Obj.cells #[Value.slice (some { block := w.heap.size + 1, off := 0 }) m m] 33)).alloc (Obj.cells #[Value.slice (some { block := w.heap.size + 1, off := 0 }) m m] 33)
    rwa [World.size_alloc] at this
  have B2 : BlkP ((((w.alloc (Obj.cells #[Value.int IntKind.i64 x] 3)).alloc (Obj.cells (bytes (List.replicate m 0)).toArray 5)).alloc (Obj.cells #[Value.slice (some { block := w.heap.size + 1, off := 0 }) m m] 33)).alloc (Obj.cells #[Value.slice (some { block := w.heap.size + 1, off := 0 }) m m] 33)) (w.heap.size + 1 + 1) 33 #[Value.slice (some { block := w.heap.size + 1, off := 0 }) m m] := by
    have := (BlkP.new ((w.alloc (Obj.cells #[Value.int IntKind.i64 x] 3)).alloc (Obj.cells (bytes (List.replicate m 0)).toArray 5)) 33 #[Value.slice (some { block := w.heap.size + 1, off := 0 }) m m]).alloc (Obj.cells #[Value.slice (some { block := w.heap.size + 1, off := 0 }) m m] 33)
    rwa [World.size_alloc, World.size_alloc] at this
  have B3 : BlkP ((((w.alloc (Obj.cells #[Value.int IntKind.i64 x] 3)).alloc (Obj.cells (bytes (List.replicate m 0)).toArray 5)).alloc (Obj.cells #[Value.slice (some { block := w.heap.size + 1, off := 0 }) m m] 33)).alloc (Obj.cells #[Value.slice (some { block := w.heap.size + 1, off := 0 }) m m] 33)) (w.heap.size + 1 + 1 + 1) 33 #[Value.slice (some { block := w.heap.size + 1, off := 0 }) m m] := by
    have := BlkP.new (((w.alloc (Obj.cells #[Value.int IntKind.i64 x] 3)).alloc (Obj.cells (bytes (List.replicate m 0)).toArray 5)).alloc (Obj.cells #[Value.slice (some { block := w.heap.size + 1, off := 0 }) m m] 33)) 33 #[Value.slice (some { block := w.heap.size + 1, off := 0 }) m m]
    rwa [World.size_alloc, World.size_alloc, World.size_alloc] at this
  have hB : Below w.heap.size w ((((w.alloc (Obj.cells #[Value.int IntKind.i64 x] 3)).alloc (Obj.cells (bytes (List.replicate m 0)).toArray 5)).alloc (Obj.cells #[Value.slice (some { block := w.heap.size + 1, off := 0 }) m m] 33)).alloc (Obj.cells #[Value.slice (some { block := w.heap.size + 1, off := 0 }) m m] 33)) :=
    (((Ext.refl w).alloc _).alloc _).alloc _ |>.alloc _
  generalize hW0 : ((((w.alloc (Obj.cells #[Value.int IntKind.i64 x] 3)).alloc (Obj.cells (bytes (List.replicate m 0)).toArray 5)).alloc (Obj.cells #[Value.slice (some { block := w.heap.size + 1, off := 0 }) m m] 33)).alloc (Obj.cells #[Value.slice (some { block := w.heap.size + 1, off := 0 }) m m] 33)) = W0 at *
  have hz0 : W0.heap.size = w.heap.size + 1 + 1 + 1 + 1 := by rw [← hW0]; simp
  clear hmk
  refine wpIn_rangeFunc_ownF hro h1 (gf := 145) (lb := #[.pointer (some ⟨w.heap.size + 1 + 1 + 1, 0, none⟩)]) rfl h6 (enters_of Tryz.func145 (by kernel_rfl) rfl)
    (back_stops F (n - 1) h6 hro (by omega) (w.heap.size + 1 + 1 + 1) (w.heap.size + 1) m hm W0 (by omega) (by omega) (B3.cell 0) (fun j hj => ⟨0, by rw [B1.cell j]; simp [bytes, hj]⟩)) keepB_t keepB_b (Below.refl _ _) (fun _ => rfl)
    (fun pre W => (BlkP W w.heap.size 3 #[.int .i64 (putState x m (pre.map (·.1.1))).1] ∧ BlkP W (w.heap.size + 1) 5 (bytes (putState x m (pre.map (·.1.1))).2).toArray ∧ BlkP W (w.heap.size + 1 + 1) 33 #[Value.slice (some { block := w.heap.size + 1, off := 0 }) m m]) ∧ Below w.heap.size w W)
    (fun _ _ _ => False)
    (OwnFrom.and (Own.from (fun s A B row hs hg hr => ⟨hs.1.kept hg hr, hs.2.1.kept hg hr, hs.2.2.kept hg hr⟩) _) (ownFrom_below (Nat.le_refl _) (by omega)))
    (fun _ _ _ _ _ hs _ _ => hs)
    ⟨⟨B0, B1, B2⟩, hB⟩
    (fun y => { tmps := #[Value.int IntKind.i64 x, Value.int IntKind.i64 ↑m, Value.pointer (some { block := w.heap.size, off := 0 }),
          undef, Value.slice none 0 0, Value.pointer (some { block := w.heap.size + 1 + 1, off := 0 }), Value.int IntKind.i64 (y.1.1 : Int),
          Value.int IntKind.i64 ↑m, Value.int IntKind.i64 ↑m, Value.int IntKind.i64 ↑m, Value.int IntKind.i64 ↑m,
          Value.slice (some { block := w.heap.size + 1, off := 0 }) m m,
          Value.slice (some { block := w.heap.size + 1, off := 0 }) m m,
          Value.func (Fn.func 145) #[] #[Value.pointer (some { block := w.heap.size + 1 + 1 + 1, off := 0 })], Value.int IntKind.i64 (y.1.1 : Int),
          Value.int IntKind.u8 y.2, undef, undef, undef, undef, undef, undef, undef, undef], defers := [] }) ?assign ?body ?done ?stop
  case assign =>
    intro l y W K hK
    simp only [backEnc]
    gi_wp2
    exact hK
  case body =>
    rintro l pre ⟨⟨i, hi⟩, y⟩ W ⟨⟨C0, C1, C2⟩, hBW⟩ _
    have hbd := putState_bd x m (pre.map (·.1.1)) hx1 hx2
    have hsl := putState_len x m (pre.map (·.1.1))
    generalize hst : putState x m (pre.map (·.1.1)) = st at *
    have c0 : W.cell? ⟨w.heap.size, 0, none⟩ = some (.int .i64 st.1) := C0.cell 0
    have f0 := C0.frozen 0
    have c2 : W.cell? ⟨w.heap.size + 1 + 1, 0, none⟩ = some (Value.slice (some { block := w.heap.size + 1, off := 0 }) m m) := C2.cell 0
    obtain ⟨u1, c1⟩ : ∃ u, W.cell? ⟨w.heap.size + 1, i, none⟩ = some u := ⟨_, by rw [C1.cell i]; simp only [List.getElem?_toArray, bytes, List.getElem?_map]; rw [List.getElem?_eq_getElem (by omega)]; rfl⟩
    have f1 := C1.frozen i
    have HS := Lib.hid hst
    have HZ := Lib.hid hsl
    clear hst hsl
    gi_wp2
    have hbt : ((bt st.1 0).toNat : Int) = st.1 % 256 := bt_zero _
    refine ⟨(KeepsOthers.setCell W _ _).trans (KeepsOthers.setCell _ _ _), ⟨fun v hv => ?_, fun j hj ⟨v, hv⟩ => ?_⟩, ⟨?_, ?_, ?_⟩, ?_⟩
    · rw [World.cell?_setCell_other _ _ _ _ (by simp), World.cell?_setCell_other _ _ _ _ (by simp)]
      exact hv
    · rw [World.cell?_setCell_other _ _ _ _ (by simp)]
      by_cases e : i = j
      · subst e
        exact ⟨_, World.cell?_setCell_same _ _ _ c1⟩
      · exact ⟨v, by rw [World.cell?_setCell_other _ _ _ _ (by simp)]; exact hv⟩
    · rw [List.map_append, List.map_cons, List.map_nil, putState_snoc, HS.out]
      exact (C0.far (p := ⟨w.heap.size + 1, i, none⟩) (by simp) _).set_ 0 _
    · rw [List.map_append, List.map_cons, List.map_nil, putState_snoc, HS.out]
      have h := (C1.set_ i (.int .u8 (st.1 % 256))).far (p := ⟨w.heap.size, 0, none⟩) (by simp) (.int .i64 (st.1 / 256))
      have e : (bytes st.2).toArray.setIfInBounds i (.int .u8 (st.1 % 256)) = (bytes (putStep st i).2).toArray := by
        rw [List.setIfInBounds_toArray, putStep, bytes_set, hbt]
      rw [e] at h
      exact h
    · exact (C2.far (p := ⟨w.heap.size + 1, i, none⟩) (by simp) _).far (p := ⟨w.heap.size, 0, none⟩) (by simp; omega) _
    · exact (hBW.setCell (p := ⟨w.heap.size + 1, i, none⟩) (by simp) _).setCell (p := ⟨w.heap.size, 0, none⟩) (by simp) _
  case done =>
    rintro D ys W hD hys ⟨⟨C0, C1, C2⟩, hBW⟩ hK
    rw [hys, putState_puts] at C1
    have c2 : W.cell? ⟨w.heap.size + 1 + 1, 0, none⟩ = some (Value.slice (some { block := w.heap.size + 1, off := 0 }) m m) := C2.cell 0
    clear hys C0
    gi_wp2
    refine ⟨by simp, .inl ⟨_, _, rfl, run_takeDeferred hK, ?_⟩⟩
    have hne : w.heap.size + 1 ≠ D := by omega
    have C1' : BlkP (W.putObj D (.deferred none)) (w.heap.size + 1) 5 (bytes (puts x m)).toArray := (World.putObj_heap_other hne).trans C1
    exact ⟨_, results_tmp rfl _ _ _, _, rfl, C1'.own (by omega) (by rw [bytes_length, puts_length]) (by simp only [maxLen]; omega), Below.trans hBW (belowK_b (w := w) (Nat.le_refl _) W D _ _ (by omega) hK rfl rfl)⟩
  case stop =>
    rintro D c pre W _ _ h _
    exact h.elim
theorem put_any (x size : Int) (m : Nat) (hm : m ≤ 8) (hs : size = (m : Int)) (w : World) (hx1 : -9223372036854775808 ≤ x) (hx2 : x ≤ 9223372036854775807) :
    Calls Tryz.prog 99 #[.int .i64 x, .int .i64 size] w fun e W' => ∃ v, e = .returned v ∧ W'.ownsRow w.heap.size 5 1 v m (bytes (puts x m)) ∧ Ext w W' :=
  (callsIn_wide (n := 3)).1 (put_in Fence.wide 3 trivial trivial trivial rfl (Nat.le_refl _) x size m hm hs w hx1 hx2)
end Go.Proofs.YtfongpdeflfioaaGreat
