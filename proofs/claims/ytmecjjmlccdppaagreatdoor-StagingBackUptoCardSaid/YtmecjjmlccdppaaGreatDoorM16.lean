/- The texts Bix, Rpt, Clr, Bdl in one file. -/
import Derived.Test.YtmecjjmlccdppaaGreatDoorM15
import Derived.Test.YtmecjjmlccdppaaGreatDoorM12
import Derived.Test.YtmecjjmlccdppaaGreatDoorM1
/- The closure of blocks.Free; slices.IndexFunc over blocks with it. -/
namespace Go.Proofs.YtmecjjmlccdppaaGreatDoor
open Go.RowKit
set_option linter.unusedVariables false
set_option linter.unusedSimpArgs false

def goes (i j : Int) (x : Blk) : Bool := decide (i ≤ x.index) && decide (x.index < i + j)
theorem goes_stays (i j : Int) (x : Blk) : goes i j x = !stays i j x := by
  have h : (decide (i ≤ x.index) && decide (x.index < i + j)) = !(decide (x.index < i) || decide (i + j ≤ x.index)) := by
    rw [Bool.not_or, ← decide_not, ← decide_not]
    congr 1 <;> (congr 1; rw [eq_iff_iff]; omega)
  exact h

set_option maxRecDepth 100000 in
set_option maxHeartbeats 1000000 in
theorem goes_any (w : World) (p q : Nat) (i j xi : Int) (xd : ByteArray) (hp : w.cell? ⟨p, 0, none⟩ = some (.int .i64 i)) (hq : w.cell? ⟨q, 0, none⟩ = some (.int .i64 j)) (h0 : 0 ≤ i ∧ i < 1024) (h1 : 1 ≤ j ∧ j ≤ 1024 - i) :
    Calls Tryz.prog 77 #[.agg #[.int .i64 xi, .string xd], .pointer (some ⟨p, 0, none⟩), .pointer (some ⟨q, 0, none⟩)] w fun e w' => e = .returned (.bool (goes i j ⟨xi, xd⟩)) ∧ Ext w w' := by
  have hbp : p < w.heap.size := World.block_lt_of_cell? w _ hp
  have hbq : q < w.heap.size := World.block_lt_of_cell? w _ hq
  have HG := Lib.hid (show goes i j ⟨xi, xd⟩ = (decide (i ≤ xi) && decide (xi < i + j)) from rfl)
  generalize goes i j ⟨xi, xd⟩ = B at *
  by_cases a1 : i ≤ xi
  · have HV := Lib.hid (show B = decide (xi < i + j) by rw [HG.out, decide_eq_true a1]; rfl)
    go_enter Tryz.func77, Tryz.ntmps77
    go_wp2_with fail
    generalize hw1 : World.alloc w _ = w1
    obtain ⟨ew1, zw1, Gw1⟩ := box_cells hw1
    have g0 := Gw1 0 _ rfl w1 (Ext.refl _)
    have g1 := Gw1 1 _ rfl w1 (Ext.refl _)
    have hp1 : w1.cell? ⟨p, 0, none⟩ = some (.int .i64 i) := (Below.cell ew1 hbp).trans hp
    have hq1 : w1.cell? ⟨q, 0, none⟩ = some (.int .i64 j) := (Below.cell ew1 hbq).trans hq
    clear hw1 Gw1 zw1 hp hq hbp hbq
    go_wp2
    go_ret
    exact ⟨by rw [HV.out]; rfl, by (repeat (first | exact Below.refl _ _ | exact Ext.refl _ | assumption | refine Below.drew ?_ | refine below_drewN ?_ _ | refine below_alloc ?_ (by first | exact Nat.le_refl _ | assumption | (simp; done) | omega | (simp; omega)) _ | refine below_ext ?_ (by assumption) (by first | exact Nat.le_refl _ | assumption | (simp; done) | omega | (simp; omega)) | refine Ext.drew ?_ | refine Ext.drewN ?_ _ | refine Ext.alloc ?_ _ | refine Ext.setCell ?_ (by first | assumption | (simp; done) | (simp; omega)) _ | refine Below.setCell ?_ (by first | assumption | (simp; done) | (simp; omega)) _ | refine Ext.trans ?_ (by assumption)))⟩
  · have HV := Lib.hid (show B = false by rw [HG.out, decide_eq_false a1]; rfl)
    go_enter Tryz.func77, Tryz.ntmps77
    go_wp2_with fail
    generalize hw1 : World.alloc w _ = w1
    obtain ⟨ew1, zw1, Gw1⟩ := box_cells hw1
    have g0 := Gw1 0 _ rfl w1 (Ext.refl _)
    have g1 := Gw1 1 _ rfl w1 (Ext.refl _)
    have hp1 : w1.cell? ⟨p, 0, none⟩ = some (.int .i64 i) := (Below.cell ew1 hbp).trans hp
    have hq1 : w1.cell? ⟨q, 0, none⟩ = some (.int .i64 j) := (Below.cell ew1 hbq).trans hq
    clear hw1 Gw1 zw1 hp hq hbp hbq
    go_wp2
    go_ret
    exact ⟨by rw [HV.out]; rfl, by (repeat (first | exact Below.refl _ _ | exact Ext.refl _ | assumption | refine Below.drew ?_ | refine below_drewN ?_ _ | refine below_alloc ?_ (by first | exact Nat.le_refl _ | assumption | (simp; done) | omega | (simp; omega)) _ | refine below_ext ?_ (by assumption) (by first | exact Nat.le_refl _ | assumption | (simp; done) | omega | (simp; omega)) | refine Ext.drew ?_ | refine Ext.drewN ?_ _ | refine Ext.alloc ?_ _ | refine Ext.setCell ?_ (by first | assumption | (simp; done) | (simp; omega)) _ | refine Below.setCell ?_ (by first | assumption | (simp; done) | (simp; omega)) _ | refine Ext.trans ?_ (by assumption)))⟩

/-- IndexFunc's answer: the first that goes, or -1 and all stay -/
def BixOk (i j : Int) (xs : List Blk) (w : World) (e : Ending) (w' : World) : Prop :=
  ∃ r : Int, e = .returned (.int .i64 r) ∧ ((r = -1 ∧ xs.all (stays i j) = true) ∨ ∃ k : Nat, r = k ∧ ∃ h : k < xs.length, stays i j xs[k] = false ∧ (xs.take k).all (stays i j) = true) ∧ Ext w w'

set_option maxRecDepth 100000 in
set_option maxHeartbeats 1000000 in
theorem bix_any (w : World) (A : Option Addr) (n c lo hi : Nat) (p q : Nat) (i j : Int) (xs : List Blk) (hn : n = xs.length) (hm : n ≤ 100000000000) (hr : Rd w lo hi A (blks xs)) (hh : hi ≤ w.heap.size) (hp : w.cell? ⟨p, 0, none⟩ = some (.int .i64 i)) (hq : w.cell? ⟨q, 0, none⟩ = some (.int .i64 j)) (h0 : 0 ≤ i ∧ i < 1024) (h1 : 1 ≤ j ∧ j ≤ 1024 - i) :
    Calls Tryz.prog 108 #[.slice A n c, .func (.func 77) #[] #[.pointer (some ⟨p, 0, none⟩), .pointer (some ⟨q, 0, none⟩)]] w (BixOk i j xs w) := by
  have hbp : p < w.heap.size := World.block_lt_of_cell? w _ hp
  have hbq : q < w.heap.size := World.block_lt_of_cell? w _ hq
  have Hn := Lib.hid hn
  clear hn
  go_enter Tryz.func108, Tryz.ntmps108
  go_wp2_with fail
  go_loopw [8] (fun a wr => ∃ k : Nat, k ≤ n ∧ a = .int .i64 k ∧ (xs.take k).all (stays i j) = true ∧ Ext w wr) (fun a _ => n - (intOf a).toNat)
  case atStart => exact ⟨0, Nat.zero_le _, rfl, rfl, Ext.refl _⟩
  case round =>
    obtain ⟨k, hk, rfl, hall, e1⟩ := hrel
    have HK := Lib.hid hall
    clear hall
    by_cases hlt : k < n
    · have l1 : k < xs.length := by rw [← Hn.out]; exact hlt
      obtain ⟨b1, o1, rfl, _, _, f0, f1⟩ := rd_blk (hr.ext e1 hh) l1
      have HT := Lib.hid (List.take_succ_eq_append_getElem l1)
      have HX := Lib.hid (show ∀ z, z = xs[k]'l1 → xs[k]'l1 = z from fun _ h => h.symm)
      obtain ⟨y, hy⟩ : ∃ y, y = xs[k]'l1 := ⟨_, rfl⟩
      rw [← hy] at f0 f1 HT
      have HY := Lib.hid hy
      have hcp : wr.cell? ⟨p, 0, none⟩ = some (.int .i64 i) := (Below.cell e1 hbp).trans hp
      have hcq : wr.cell? ⟨q, 0, none⟩ = some (.int .i64 j) := (Below.cell e1 hbq).trans hq
      clear hy
      obtain ⟨yi, yd⟩ := y
      dsimp only at f0 f1
      have HGo := Lib.hid (goes_any wr p q i j yi yd hcp hcq h0 h1)
      rw [goes_stays] at HGo
      clear hcp hcq
      go_wp2_with fail
      refine HGo.out.mono ?_
      rintro e w2 ⟨rfl, e2⟩
      cases ho : stays i j ⟨yi, yd⟩
      · go_wp2_with fail
        go_ret
        exact ⟨k, rfl, .inr ⟨k, rfl, l1, by rw [← HY.out]; exact ho, HK.out⟩, by (repeat (first | exact Below.refl _ _ | exact Ext.refl _ | assumption | refine Below.drew ?_ | refine below_drewN ?_ _ | refine below_alloc ?_ (by first | exact Nat.le_refl _ | assumption | (simp; done) | omega | (simp; omega)) _ | refine below_ext ?_ (by assumption) (by first | exact Nat.le_refl _ | assumption | (simp; done) | omega | (simp; omega)) | refine Ext.drew ?_ | refine Ext.drewN ?_ _ | refine Ext.alloc ?_ _ | refine Ext.setCell ?_ (by first | assumption | (simp; done) | (simp; omega)) _ | refine Below.setCell ?_ (by first | assumption | (simp; done) | (simp; omega)) _ | refine Ext.trans ?_ (by assumption)))⟩
      · go_wp2_with fail
        go_roundw
        case rel => exact ⟨k + 1, by omega, by go_num, by rw [HT.out, List.all_append, HK.out]; simp [ho], by (repeat (first | exact Below.refl _ _ | exact Ext.refl _ | assumption | refine Below.drew ?_ | refine below_drewN ?_ _ | refine below_alloc ?_ (by first | exact Nat.le_refl _ | assumption | (simp; done) | omega | (simp; omega)) _ | refine below_ext ?_ (by assumption) (by first | exact Nat.le_refl _ | assumption | (simp; done) | omega | (simp; omega)) | refine Ext.drew ?_ | refine Ext.drewN ?_ _ | refine Ext.alloc ?_ _ | refine Ext.setCell ?_ (by first | assumption | (simp; done) | (simp; omega)) _ | refine Below.setCell ?_ (by first | assumption | (simp; done) | (simp; omega)) _ | refine Ext.trans ?_ (by assumption)))⟩
        case measure => simp [intOf]; omega
    · obtain rfl : k = n := by omega
      have h1 := HK.out
      rw [List.take_of_length_le (by rw [← Hn.out]; exact Nat.le_refl _)] at h1
      have HA := Lib.hid h1
      clear h1
      go_wp2_with fail
      go_ret
      exact ⟨-1, rfl, .inl ⟨rfl, HA.out⟩, e1⟩
end Go.Proofs.YtmecjjmlccdppaaGreatDoor
/- The reference's Put of blocks: the walk. -/
namespace Go.Proofs.YtmecjjmlccdppaaGreatDoor
open Go.RowKit
set_option linter.unusedVariables false
set_option linter.unusedSimpArgs false

def ahead (i : Int) (x : Blk) : Bool := decide (x.index < i)
def ptBad (i : Int) (d : ByteArray) : Bool := decide (i < 0) || decide (1024 ≤ i)
def ptE (xs : List Blk) (i : Int) (d : ByteArray) : Int := if bkE xs ≠ 0 then 9 else if ptBad i d then 4 else if d.size ≠ 16 then 5 else 0
/-- without the first, if that stands at i -/
def less (i : Int) : List Blk → List Blk
  | [] => []
  | x :: l => if x.index = i then l else x :: l
def ptd (xs : List Blk) (i : Int) (d : ByteArray) : List Blk := if ptE xs i d = 0 then xs.takeWhile (ahead i) ++ [⟨i, d⟩] ++ less i (xs.dropWhile (ahead i)) else []
theorem while_at (p : Blk → Bool) : ∀ (xs : List Blk) (k : Nat), (xs.take k).all p = true → (∀ h : k < xs.length, p xs[k] = false) → xs.takeWhile p = xs.take k ∧ xs.dropWhile p = xs.drop k
  | [], k, _, _ => by simp
  | x :: l, 0, _, h => by
    have := h (by simp)
    simp only [List.getElem_cons_zero] at this
    simp [List.takeWhile_cons, List.dropWhile_cons, this]
  | x :: l, k + 1, h1, h => by
    rw [List.take_succ_cons, List.all_cons, Bool.and_eq_true] at h1
    obtain ⟨a, b⟩ := while_at p l k h1.2 (fun hk => by have := h (by simp; omega); simpa using this)
    simp [List.takeWhile_cons, List.dropWhile_cons, h1.1, a, b]
theorem less_end (i : Int) (xs : List Blk) (k : Nat) (h : xs.length ≤ k) : less i (xs.drop k) = xs.drop k := by
  rw [List.drop_eq_nil_of_le h]; rfl
theorem less_hit (i : Int) (xs : List Blk) (k : Nat) (h : k < xs.length) (e : xs[k].index = i) : less i (xs.drop k) = xs.drop (k + 1) := by
  rw [List.drop_eq_getElem_cons h, less, if_pos e]
theorem less_miss (i : Int) (xs : List Blk) (k : Nat) (h : k < xs.length) (e : xs[k].index ≠ i) : less i (xs.drop k) = xs.drop k := by
  rw [List.drop_eq_getElem_cons h, less, if_neg e]

theorem blks_drop (xs : List Blk) (k : Nat) : (blks xs).drop (k * 2) = blks (xs.drop k) := by
  induction k generalizing xs with
  | zero => simp
  | succ k ih =>
    cases xs with
    | nil => simp [blks]
    | cons x l =>
      rw [List.drop_succ_cons, ← ih l, show (k + 1) * 2 = 2 + k * 2 by omega, ← List.drop_drop]
      rfl
end Go.Proofs.YtmecjjmlccdppaaGreatDoor
/- 'clear' of a slice: what lies ahead of its cells stays. A law over whatever program. -/
namespace Go.Proofs.YtmecjjmlccdppaaGreatDoor
open Go.RowKit
theorem setCells_front (b : Nat) (q : Addr) : ∀ (vs : List Value) (o : Nat) (w : World), (q.block = b → q.off < o) → (w.setCells b o vs).cell? q = w.cell? q
  | [], _, _, _ => rfl
  | v :: r, o, w, h => by
    rw [show w.setCells b o (v :: r) = (w.setCell ⟨b, o, none⟩ v).setCells b (o + 1) r from rfl, setCells_front b q r (o + 1) _ (fun e => by have := h e; omega)]
    refine World.cell?_setCell_other w _ q v (fun e => ?_)
    have h1 := h (by rw [← e])
    rw [← e] at h1
    simp at h1
section
variable {P : Program} (w : World)
/-- 'clear(s)': s's cells hold zeros; what lies below its block stays, and what lies in its block ahead of its cells -/
theorem list_clear2 {ops : Array Oper} {rest : List Oper} {o : Oper} {a : Act} {Q : Exit → Act → World → Prop} (hgd : o.guard = none) (x : Operand) (t : TypeId)
    (ho : o.op = .call { callee := .builtin .clear, args := #[x], argTypes := #[t] }) (e : TypeId) (z : Value) (ht : P.underlying t = some (.slice e)) (hv : ∀ w, (zeroValue e).run P w = .ok z w)
    (h1 : ∀ u ∈ z.cells.toList, u.oneCell' = true) (hz : 0 < z.cells.size) (A : Option Addr) (n c : Nat) (hx : a.eval x = .slice A n c) (hc : 0 < n → ∃ b k, A = some ⟨b, k, none⟩ ∧ Can w b k (n * z.cells.size))
    (h : ∀ w', (∀ B a', Below B a' w → (∀ b k, A = some ⟨b, k, none⟩ → B ≤ b) → Below B a' w') → (∀ q : Addr, (∀ b k, A = some ⟨b, k, none⟩ → q.block = b → q.off < k) → w'.cell? q = w.cell? q) → wpList P ops Q rest (a.put o.dst (.tuple #[])) w') : wpList P ops Q (o :: rest) a w := by
  have hrun : ∃ w', (Builtin.clear_ #[t] o.type #[.slice A n c]).run P w = .ok (.tuple #[]) w' ∧ (∀ B a', Below B a' w → (∀ b k, A = some ⟨b, k, none⟩ → B ≤ b) → Below B a' w') ∧ (∀ q : Addr, (∀ b k, A = some ⟨b, k, none⟩ → q.block = b → q.off < k) → w'.cell? q = w.cell? q) := by
    cases n with
    | zero =>
      refine ⟨w, ?_, fun B a' hb _ => hb, fun _ _ => rfl⟩
      cases A <;> simp [Builtin.clear_, run_underlying ht]
    | succ n =>
      obtain ⟨b, k, rfl, hcan⟩ := hc (by omega)
      have hl : (Builtin.zeroCells z.cells (n + 1)).toList.length = (n + 1) * z.cells.size := by simp [Builtin.zeroCells]
      have hst := run_storeCells_cells (P := P) b k (Builtin.zeroCells z.cells (n + 1)).toList 0 w (fun j hj => by
          obtain ⟨⟨u, hu⟩, _⟩ := hcan j (by rw [← hl]; exact hj)
          rw [Nat.add_zero, hu]
          rfl) (fun j hj => by rw [Nat.add_zero]; exact (hcan j (by rw [← hl]; exact hj)).2) (fun v hv' => by
          simp only [Builtin.zeroCells, Array.toList_map, List.mem_map] at hv'
          obtain ⟨i, _, rfl⟩ := hv'
          refine h1 _ ?_
          rw [getElem!_pos z.cells (i % z.cells.size) (Nat.mod_lt _ hz)]
          exact Array.getElem_mem_toList _)
      refine ⟨w.setCells b (k + 0) (Builtin.zeroCells z.cells (n + 1)).toList, ?_, fun B a' hb hlt => below_setCells b _ _ _ hb (hlt b k rfl), fun q hq => setCells_front b q _ _ _ (fun e => by have := hq b k rfl e; omega)⟩
      simp [Builtin.clear_, run_underlying ht, hv, hst]
  obtain ⟨w', hr, hb, hf⟩ := hrun
  refine wpList_plain hgd fun K hK => ?_
  unfold Oper.wp execOp
  simp only [ho, resolve, invoke, builtin, Sem.run_bind, Sem.run_pure, Result.andThen_ok, List.map_toArray, List.map_cons, List.map_nil, hx, hr]
  exact hK _ _ (h w' hb hf)
end
/-- a row that grows by one cell, written behind its last one -/
theorem Rd.put_end {w : World} {lo hi g o : Nat} {cs : List Value} (h : Rd w lo hi (some ⟨g, o, none⟩) cs) (hg : lo ≤ g ∧ g < hi) (u : Value) (hc : ∃ u0, w.cell? ⟨g, o + cs.length, none⟩ = some u0) : Rd (w.setCell ⟨g, o + cs.length, none⟩ u) lo hi (some ⟨g, o, none⟩) (cs ++ [u]) := fun _ => by
  refine ⟨g, o, rfl, hg.1, hg.2, fun j v hj => ?_⟩
  rw [List.getElem?_append] at hj
  split at hj
  · rename_i hl
    obtain ⟨b', o', e, _, _, h3⟩ := h (fun e => by rw [e] at hl; simp at hl)
    simp only [Option.some.injEq, Addr.mk.injEq, and_true] at e
    obtain ⟨rfl, rfl⟩ := e
    rw [World.cell?_setCell_other w _ _ u (fun e => by have h9 : o + cs.length = o + j := congrArg Addr.off e; omega)]
    exact h3 j v hj
  · rename_i hl
    have hj0 : j = cs.length := by
      rcases Nat.lt_or_ge (j - cs.length) 1 with q | q
      · omega
      · rw [List.getElem?_eq_none (by simpa using q)] at hj
        cases hj
    subst hj0
    simp only [Nat.sub_self, List.getElem?_cons_zero, Option.some.injEq] at hj
    subst hj
    obtain ⟨u0, hu⟩ := hc
    exact World.cell?_setCell_same w _ u hu
end Go.Proofs.YtmecjjmlccdppaaGreatDoor
/- slices.DeleteFunc over blocks with the closure of blocks.Free. -/
namespace Go.Proofs.YtmecjjmlccdppaaGreatDoor
open Go.RowKit
set_option linter.unusedVariables false
set_option linter.unusedSimpArgs false

theorem blks_take (xs : List Blk) (k : Nat) : (blks xs).take (k * 2) = blks (xs.take k) := by
  induction k generalizing xs with
  | zero => simp [blks]
  | succ k ih =>
    cases xs with
    | nil => simp [blks]
    | cons x l =>
      rw [List.take_succ_cons, show blks (x :: l) = x.cells ++ blks l from rfl, show blks (x :: l.take k) = x.cells ++ blks (l.take k) from rfl, ← ih l, List.take_append, show (k + 1) * 2 - x.cells.length = k * 2 by simp [Blk.cells]; omega, List.take_of_length_le (by simp [Blk.cells]; omega)]
theorem zeroB (w : World) : (zeroValue 46).run Tryz.prog w = .ok (.agg #[.int .i64 0, .string .empty]) w := by kernel_rfl
/-- DeleteFunc's answer: the blocks that stay; what lies below the slice's own block stays -/
def BdelOk (i j : Int) (xs : List Blk) (lo : Nat) (w : World) (e : Ending) (w' : World) : Prop :=
  ∃ (A : Option Addr) (c : Nat), e = .returned (.slice A (xs.filter (stays i j)).length c) ∧ (xs.filter (stays i j)).length ≤ c ∧ c ≤ 9223372036854775807 ∧ Rd w' lo w'.heap.size A (blks (xs.filter (stays i j))) ∧ Below lo w w'

set_option maxRecDepth 100000 in
set_option maxHeartbeats 2000000 in
theorem bdel_any (w : World) (A : Option Addr) (n c lo hi p q : Nat) (i j : Int) (xs : List Blk) (hn : n = xs.length) (hm : n ≤ c) (hm2 : c ≤ 9223372036854775807) (hN : n ≤ 100000000000) (hr : Wr w lo hi A (blks xs)) (hh : hi ≤ w.heap.size) (hlo : lo ≤ w.heap.size) (hpl : p < lo) (hql : q < lo) (hp : w.cell? ⟨p, 0, none⟩ = some (.int .i64 i)) (hq : w.cell? ⟨q, 0, none⟩ = some (.int .i64 j)) (h0 : 0 ≤ i ∧ i < 1024) (h1 : 1 ≤ j ∧ j ≤ 1024 - i) :
    Calls Tryz.prog 76 #[.slice A n c, .func (.func 77) #[] #[.pointer (some ⟨p, 0, none⟩), .pointer (some ⟨q, 0, none⟩)]] w (BdelOk i j xs lo w) := by
  have hlen : (blks xs).length = n * 2 := by rw [blks_length, hn]
  have Hn := Lib.hid hn
  clear hn
  go_enter Tryz.func76, Tryz.ntmps76
  go_wp2_with fail
  refine (bix_any w A n c lo hi p q i j xs Hn.out hN hr.rd hh hp hq h0 h1).mono ?_
  rintro e w1 ⟨r, rfl, hor, e1⟩
  rcases hor with ⟨rfl, hall⟩ | ⟨k0, rfl, hk0, ho, hkept⟩
  · have HA := Lib.hid (show xs.filter (stays i j) = xs from List.filter_eq_self.2 (List.all_eq_true.1 hall))
    have HR := Lib.hid ((hr.rd.ext e1 hh).more (Nat.le_refl _) (Nat.le_trans hh e1.size))
    clear hall
    go_wp2_with fail
    go_ret
    exact ⟨A, c, by rw [HA.out, ← Hn.out]; rfl, by rw [HA.out, ← Hn.out]; exact hm, hm2, by rw [HA.out]; exact HR.out, Below.mono e1 hlo⟩
  · have hkn : k0 < n := by rw [Hn.out]; exact hk0
    have hks : (xs.take (k0 + 1)).filter (stays i j) = xs.take k0 := by
      rw [filter_snoc (stays i j) xs k0 hk0, ho, List.filter_eq_self.2 (List.all_eq_true.1 hkept)]
      simp
    have HK := Lib.hid hks
    clear hks hkept ho
    have hne : blks xs ≠ [] := fun e => by rw [e] at hlen; simp at hlen; omega
    obtain ⟨g, o, rfl, hg1, hg2, hcells⟩ := hr hne
    have hcan : Can w1 g o (n * 2) := by have := (hr.can).ext e1; rwa [hlen] at this
    have hrd : Rd w1 lo hi (some ⟨g, o, none⟩) (blks xs) := hr.rd.ext e1 hh
    have hfr : Rd w1 lo hi (some ⟨g, o, none⟩) (blks (xs.take k0)) := by have := hrd.take (k0 * 2); rwa [blks_take] at this
    have HTl := Lib.hid (show (xs.take k0).length = k0 by rw [List.length_take]; omega)
    have hb1 : ((k0 : Int) == -1) = false := by simp
    clear hr hne hcells hlen
    go_wp2_with fail
    clear hb1
    go_loopw [5, 6] (fun si sj wr => ∃ a b : Nat, b ≤ n ∧ a < b ∧ si = .int .i64 a ∧ sj = .int .i64 b ∧ a = ((xs.take b).filter (stays i j)).length ∧ Below lo w wr ∧ Can wr g o (n * 2) ∧ Rd wr lo hi (some ⟨g, o, none⟩) (blks ((xs.take b).filter (stays i j))) ∧ Rd wr lo hi (some ⟨g, o + b * 2, none⟩) (blks (xs.drop b))) (fun _ sj _ => n - (intOf sj).toNat)
    case atStart => exact ⟨k0, k0 + 1, by omega, by omega, rfl, by go_num, by rw [HK.out, HTl.out], Below.mono e1 hlo, hcan, by rw [HK.out]; exact hfr, by have := hrd.step ((k0 + 1) * 2); rwa [blks_drop] at this⟩
    case round =>
      clear hcan hrd hfr
      obtain ⟨a, b, hb, hab, rfl, rfl, hki, e3, hcan, hfr, hrd⟩ := hrel
      have HI := Lib.hid hki
      have HFr := Lib.hid hfr
      clear hki hfr
      by_cases hlt : b < n
      · have hl : b < xs.length := by rw [← Hn.out]; omega
        obtain ⟨b1, o1, hbo, _, _, f0, f1⟩ := rd_blk hrd (k := 0) (by rw [List.length_drop]; omega)
        simp only [Option.some.injEq, Addr.mk.injEq, and_true] at hbo
        obtain ⟨rfl, rfl⟩ := hbo
        simp only [Nat.zero_mul, Nat.add_zero, List.getElem_drop] at f0 f1
        have hks := Lib.hid (filter_snoc (stays i j) xs b hl)
        generalize xs[b]'hl = y at *
        obtain ⟨yi, yd⟩ := y
        dsimp only at f0 f1
        have hcp : wr.cell? ⟨p, 0, none⟩ = some (.int .i64 i) := (e3.cell hpl).trans hp
        have hcq : wr.cell? ⟨q, 0, none⟩ = some (.int .i64 j) := (e3.cell hql).trans hq
        go_wp2_with fail
        clear f0 f1
        generalize hwx : World.alloc wr _ = wx; obtain ⟨ewx, zwx, Gwx⟩ := box_cells hwx; have gwx_0 := Gwx 0 _ rfl; have gwx_1 := Gwx 1 _ rfl; have Zwx := Lib.hid zwx; clear zwx hwx Gwx; have rwx := Ext.refl wx
        have q0 := gwx_0 wx (Ext.refl _)
        have q1 := gwx_1 wx (Ext.refl _)
        have hbp : p < wr.heap.size := Nat.lt_of_lt_of_le hpl (Nat.le_trans hlo e3.size)
        have hbq : q < wr.heap.size := Nat.lt_of_lt_of_le hql (Nat.le_trans hlo e3.size)
        have HGo := Lib.hid (goes_any wx p q i j yi yd ((Below.cell ewx hbp).trans hcp) ((Below.cell ewx hbq).trans hcq) h0 h1)
        rw [goes_stays] at HGo
        clear rwx
        go_wp2_with fail
        refine HGo.out.mono ?_
        rintro e w2 ⟨rfl, e2⟩
        have e4 : Ext wr w2 := ewx.trans e2
        have hcan2 := hcan.ext e4
        have hrd2 := hrd.ext e4 (Nat.le_trans hh e3.size)
        have HFr2 := Lib.hid (HFr.out.ext e4 (Nat.le_trans hh e3.size))
        have e5 : Below lo w w2 := below_ext e3 e4 hlo
        clear hcan hrd hcp hcq e4 e3
        cases ho : stays i j ⟨yi, yd⟩
        · go_wp2_with fail
          go_roundw
          case rel =>
            have hz : (xs.take (b + 1)).filter (stays i j) = (xs.take b).filter (stays i j) := by rw [hks.out, ho]; simp
            refine ⟨a, b + 1, by omega, by omega, rfl, by go_num, by rw [hz]; exact HI.out, e5, hcan2, by rw [hz]; exact HFr2.out, ?_⟩
            have := hrd2.step (1 * 2)
            rw [blks_drop, List.drop_drop] at this
            rw [show o + (b + 1) * 2 = o + b * 2 + 1 * 2 from by omega]
            exact this
          case measure => simp [intOf]; omega
        · obtain ⟨⟨u0, c0⟩, f0⟩ := hcan2 (a * 2) (by omega)
          obtain ⟨⟨u1, c1⟩, f1⟩ := hcan2 (a * 2 + 1) (by omega)
          simp only [← Nat.add_assoc] at c1 f1
          go_wp2_with fail
          go_roundw
          case rel =>
            have hz : (xs.take (b + 1)).filter (stays i j) = (xs.take b).filter (stays i j) ++ [⟨yi, yd⟩] := by rw [hks.out, ho]; simp
            have hL : (blks ((xs.take b).filter (stays i j))).length = a * 2 := by rw [blks_length, ← HI.out]
            refine ⟨a + 1, b + 1, by omega, by omega, by go_num, by go_num, by rw [hz, List.length_append, ← HI.out]; rfl, by (repeat (first | exact Below.refl _ _ | exact Ext.refl _ | assumption | refine Below.drew ?_ | refine below_drewN ?_ _ | refine below_alloc ?_ (by first | exact Nat.le_refl _ | assumption | (simp; done) | omega | (simp; omega)) _ | refine below_ext ?_ (by assumption) (by first | exact Nat.le_refl _ | assumption | (simp; done) | omega | (simp; omega)) | refine Ext.drew ?_ | refine Ext.drewN ?_ _ | refine Ext.alloc ?_ _ | refine Ext.setCell ?_ (by first | assumption | (simp; done) | (simp; omega)) _ | refine Below.setCell ?_ (by first | assumption | (simp; done) | (simp; omega)) _ | refine Ext.trans ?_ (by assumption))), (hcan2.setCell _ _).setCell _ _, ?_, ?_⟩
            · have p1 := HFr2.out.put_end ⟨hg1, hg2⟩ (.int .i64 yi) (by rw [hL]; exact ⟨u0, c0⟩)
              rw [hL] at p1
              have p2 := p1.put_end ⟨hg1, hg2⟩ (.string yd) (by
                rw [List.length_append, hL]
                obtain ⟨⟨u9, c9⟩, _⟩ := (hcan2.setCell ⟨g, o + a * 2, none⟩ (.int .i64 yi)) (a * 2 + 1) (by omega)
                exact ⟨u9, c9⟩)
              rw [List.length_append, hL] at p2
              rw [hz, blks_append]
              have hX : blks [⟨yi, yd⟩] = [.int .i64 yi] ++ [.string yd] := rfl
              rw [hX, ← List.append_assoc]
              exact p2
            · have := ((hrd2.setCell_before (q := o + a * 2) (by omega) (.int .i64 yi)).setCell_before (q := o + a * 2 + 1) (by omega) (.string yd)).step (1 * 2)
              rw [blks_drop, List.drop_drop] at this
              rw [show o + (b + 1) * 2 = o + b * 2 + 1 * 2 from by omega]
              exact this
          case measure => simp [intOf]; omega
      · have hcl : 0 < n - a → ∃ b k, some (⟨g, o + a * 2, none⟩ : Addr) = some ⟨b, k, none⟩ ∧ Can wr b k ((n - a) * (Value.agg #[Value.int .i64 0, Value.string ByteArray.empty]).cells.size) := fun _ => ⟨g, o + a * 2, rfl, fun q hq => by
          have h4 : (Value.agg #[Value.int .i64 0, Value.string ByteArray.empty]).cells.size = 2 := rfl
          rw [h4] at hq
          have := hcan (a * 2 + q) (by omega)
          rwa [← Nat.add_assoc] at this⟩
        have HCL := Lib.hid hcl
        clear hcl
        obtain rfl : b = n := by omega
        have ht : xs.take b = xs := List.take_of_length_le (by rw [← Hn.out]; exact Nat.le_refl _)
        have hki := HI.out
        have hfr := HFr.out
        rw [ht] at hki hfr
        have HI2 := Lib.hid hki
        have HF2 := Lib.hid hfr
        clear hki hfr ht
        go_wp2_with
          ((with_reducible refine list_clear2 _ rfl (.tmp 38) _ rfl 46 _ Tryz.underlying28 zeroB (by simp [Value.cells, Value.oneCell']) (by simp [Value.cells]) _ (b - a) (c - a) rfl HCL.out ?_)
           intro w3 he3 hf3
           have e4 : Below lo w w3 := he3 _ _ e3 (fun b k h => by simp only [Option.some.injEq, Addr.mk.injEq] at h; omega)
           have HKp := Lib.hid hf3
           clear he3 hf3)
        go_ret
        have hL : (blks (xs.filter (stays i j))).length = a * 2 := by rw [blks_length, ← HI2.out]
        refine ⟨_, _, by rw [← HI2.out]; rfl, by rw [← HI2.out]; omega, hm2, ?_, e4⟩
        intro hnn
        obtain ⟨b', o', he, k1, k2, k3⟩ := HF2.out hnn
        simp only [Option.some.injEq, Addr.mk.injEq, and_true] at he
        obtain ⟨rfl, rfl⟩ := he
        refine ⟨g, o, rfl, k1, Nat.lt_of_lt_of_le k2 (Nat.le_trans hh e4.size), fun jj v hv => ?_⟩
        have hjl : jj < a * 2 := by rw [← hL]; exact (List.getElem?_eq_some_iff.1 hv).1
        rw [HKp.out _ (fun b k h hb => by simp only [Option.some.injEq, Addr.mk.injEq] at h; obtain ⟨_, rfl, _⟩ := h; show o + jj < o + a * 2; omega)]
        exact k3 jj v hv
end Go.Proofs.YtmecjjmlccdppaaGreatDoor
