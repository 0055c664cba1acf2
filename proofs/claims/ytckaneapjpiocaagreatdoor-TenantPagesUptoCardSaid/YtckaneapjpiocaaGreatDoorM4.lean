/- The texts Put, Oct, Str, Fld in one file. -/
import Derived.Test.YtckaneapjpiocaaGreatDoorM1
import Derived.RangeFuncNested
import Derived.RangeFuncBound
import Derived.RangeFuncCalls
import Derived.RangeFuncLeaves
import Derived.Shelf.Abstract
import Derived.Shelf.RegionOpen
import Derived.OwnWalkIn
import Derived.TacticsInMore
import Derived.LoopNIn
import Derived.LoopIn
import Derived.Lib.AppendStr
/- octets.Put: a range over slices.Backward: the iterator's contract, the caller. -/
namespace Go.Proofs.YtckaneapjpiocaaGreatDoor
open Go.RowKit Go.Shelf
attribute [local go_sem] Oper.semAt_some

/-- what a round keeps: the iterator's box; that the octets are octets -/
def KeepB (Bs b m : Nat) (W W' : World) : Prop :=
  (∀ v, W.cell? ⟨Bs, 0, none⟩ = some v → W'.cell? ⟨Bs, 0, none⟩ = some v) ∧ ∀ j, j < m → (∃ v : Int, W.cell? ⟨b, j, none⟩ = some (.int .u8 v)) → ∃ v : Int, W'.cell? ⟨b, j, none⟩ = some (.int .u8 v)
theorem keepB_refl (Bs b m : Nat) (W : World) : KeepB Bs b m W W := ⟨fun _ h => h, fun _ _ h => h⟩
theorem keepB_t {Bs b m : Nat} {A B C : World} (h : KeepB Bs b m A B) (k : KeepB Bs b m B C) : KeepB Bs b m A C := ⟨fun v hv => k.1 v (h.1 v hv), fun j hj hv => k.2 j hj (h.2 j hj hv)⟩
theorem keepB_b {Bs b m : Nat} {w : World} (W : World) (l : Nat) (o o' : Obj) (_ : w.heap.size ≤ l) (h : W.heap[l]? = some o) (hc : o.isCells = false) (_ : o.isWalk = false) : KeepB Bs b m W (W.putObj l o') := by
  have key : ∀ (p : Addr) v, W.cell? p = some v → (W.putObj l o').cell? p = some v := fun p v hv => by
    have hne : p.block ≠ l := by
      rintro rfl
      unfold World.cell? at hv
      rw [h] at hv
      cases o <;> simp [Obj.isCells] at hc hv
    rw [World.cell?_of_block (World.putObj_heap_other hne)]
    exact hv
  exact ⟨fun v hv => key _ v hv, fun j _ ⟨v, hv⟩ => ⟨v, key _ _ hv⟩⟩

/-- an index below m, and whatever octet stands there -/
abbrev BackX (m : Nat) := { i : Nat // i < m } × Int
def backEnc (m : Nat) (x : BackX m) : Array Value := #[.int .i64 (x.1.1 : Int), .int .u8 x.2]

set_option maxRecDepth 100000 in
set_option maxHeartbeats 2000000 in
theorem back1_in (F : Fence) (n : Nat) (hf : F.fn 219) (hro : F.round = none) (hn : 1 ≤ n) (l Bs b m : Nat) (hm : m ≤ 8) (J Jx : List (BackX m) → World → Prop)
    (hY : ∀ pre x W, J pre W → pre.length < m → YieldAt F (n - 1) Tryz.prog l (backEnc m x) W fun e W' =>
      (e = .returned (.bool true) ∧ J (pre ++ [x]) W' ∧ KeepB Bs b m W W') ∨ (e = .returned (.bool false) ∧ Jx (pre ++ [x]) W'))
    (W : World) (hBs : W.cell? ⟨Bs, 0, none⟩ = some (.slice (some ⟨b, 0, none⟩) m m)) (hc : ∀ j, j < m → ∃ v : Int, W.cell? ⟨b, j, none⟩ = some (.int .u8 v)) (h0 : J [] W) :
    CallsIn F n Tryz.prog 219 #[.func (.yield l) #[] #[], .pointer (some ⟨Bs, 0, none⟩)] W fun e W' => (∃ v, e = .returned v) ∧
      ((∃ ys : List (BackX m), ys.map (·.1.1) = (List.range m).map (fun j => m - 1 - j) ∧ J ys W') ∨ (∃ pre, True ∧ Jx pre W')) := by
  refine callsIn_of_wp Tryz.func219 rfl hf ?_ hro
  simp only [Tryz.ntmps219, List.size_toArray, List.length_cons, List.length_nil, Nat.reduceAdd, Nat.reduceSub, Array.replicate_succ, Array.replicate_zero, List.push_toArray, List.append_toArray, List.nil_append, List.cons_append]
  gi_wp2
  gi_loopw [3] (fun i wr => ∃ (k : Nat) (pre : List (BackX m)), k ≤ m ∧ i = .int .i64 ((m : Int) - 1 - k) ∧ pre.length = k ∧ pre.map (·.1.1) = (List.range k).map (fun j => m - 1 - j) ∧ J pre wr ∧ KeepB Bs b m W wr)
    (fun i _ => (intOf i + 1).toNat)
  case atStart => exact ⟨0, [], Nat.zero_le _, by simp, rfl, rfl, h0, keepB_refl _ _ _ _⟩
  case round =>
    obtain ⟨k, pre, hk, rfl, hpl, hpm, hJs, hkp⟩ := hrel
    have HP := Lib.hid hpm
    have HL := Lib.hid hpl
    clear hpm hpl
    have hB' := hkp.1 _ hBs
    by_cases hlt : k < m
    · obtain ⟨v, hv⟩ := hkp.2 (m - 1 - k) (by omega) (hc (m - 1 - k) (by omega))
      obtain ⟨fn, tmps, assign, body, hy, hR⟩ := hY pre (⟨m - 1 - k, by omega⟩, v) wr hJs (by rw [HL.out]; exact hlt)
      have hcast : ((m - 1 - k : Nat) : Int) = (m : Int) - 1 - k := by omega
      simp only [backEnc, hcast] at hy
      clear hcast
      gi_wp2
      refine hR.mono ?_
      rintro e W3 (⟨rfl, hJ3, hk3⟩ | ⟨rfl, hJx3⟩)
      · have hkp3 := keepB_t hkp hk3
        gi_wp2
        go_roundw
        case rel =>
          refine ⟨k + 1, _, by omega, by congr 1; omega, ?_, ?_, hJ3, hkp3⟩
          · rw [List.length_append, HL.out]
            rfl
          · rw [List.map_append, HP.out, List.range_succ, List.map_append]
            rfl
        case measure => simp [intOf]; omega
      · gi_wp2
        refine bodyPost_ret (results_none rfl _ _ _) rfl ?_
        exact ⟨⟨_, rfl⟩, .inr ⟨_, trivial, hJx3⟩⟩
    · obtain rfl : k = m := by omega
      gi_wp2
      go_end0
      exact ⟨⟨_, rfl⟩, .inl ⟨pre, HP.out, hJs⟩⟩

theorem back_stops (F : Fence) (n : Nat) (hf : F.fn 219) (hro : F.round = none) (hn : 1 ≤ n) (Bs b m : Nat) (hm : m ≤ 8) (w : World) (hbl : b < w.heap.size) (hBl : Bs < w.heap.size)
    (hBs : w.cell? ⟨Bs, 0, none⟩ = some (.slice (some ⟨b, 0, none⟩) m m)) (hc : ∀ j, j < m → ∃ v : Int, w.cell? ⟨b, j, none⟩ = some (.int .u8 v)) :
    SeqStopsK F n Tryz.prog 219 #[.pointer (some ⟨Bs, 0, none⟩)] (backEnc m) (KeepB Bs b m) (fun ys => ys.map (·.1.1) = (List.range m).map (fun j => m - 1 - j)) (fun _ => True) m w :=
  fun l J Jx W hW _ _ hY h0 => back1_in F n hf hro hn l Bs b m hm J Jx hY W ((hW.cell (p := ⟨Bs, 0, none⟩) hBl).trans hBs) (fun j hj => by
    obtain ⟨v, hv⟩ := hc j hj
    exact ⟨v, (hW.cell (p := ⟨b, j, none⟩) hbl).trans hv⟩) h0

set_option maxRecDepth 100000 in
set_option maxHeartbeats 1000000 in
theorem backward_in (F : Fence) (n : Nat) (hf : F.fn 190) (hro : F.round = none) (a : Option Addr) (len cap : Nat) (w : World) :
    CallsIn F n Tryz.prog 190 #[.slice a len cap] w fun e w' => e = .returned (.func (.func 219) #[] #[.pointer (some ⟨w.heap.size, 0, none⟩)]) ∧ w' = w.alloc (.cells #[.slice a len cap] 53) := by
  refine callsIn_of_wp Tryz.func190 rfl hf ?_ hro
  simp only [Tryz.ntmps190, List.size_toArray, List.length_cons, List.length_nil, Nat.reduceAdd, Nat.reduceSub, Array.replicate_succ, Array.replicate_zero, List.push_toArray, List.append_toArray, List.nil_append, List.cons_append]
  gi_wp2
  go_ret
  exact ⟨rfl, rfl⟩

/-- octet number i of n, from the lowest on -/
def bt (n : Int) (i : Nat) : UInt8 := UInt8.ofNat ((n / (256 : Int) ^ i) % 256).toNat
/-- n's lowest m octets, the highest first -/
def puts (n : Int) (m : Nat) : List UInt8 := (List.range m).map fun j => bt n (m - 1 - j)
/-- what stands behind some rounds: the number that is left, the octets -/
def putStep (s : Int × List UInt8) (i : Nat) : Int × List UInt8 := (s.1 / 256, s.2.set i (bt s.1 0))
def putState (n : Int) (m : Nat) (l : List Nat) : Int × List UInt8 := l.foldl putStep (n, List.replicate m 0)
theorem putState_snoc (n : Int) (m : Nat) (l : List Nat) (i : Nat) : putState n m (l ++ [i]) = putStep (putState n m l) i := by simp [putState]
theorem putState_len (n : Int) (m : Nat) (l : List Nat) : (putState n m l).2.length = m := by
  unfold putState
  suffices h : ∀ (s : Int × List UInt8), s.2.length = m → (l.foldl putStep s).2.length = m from h _ (by simp)
  induction l with
  | nil => exact fun s h => h
  | cons i l ih => exact fun s h => ih _ (by simp [putStep, h])
theorem putState_all (n : Int) (m k : Nat) (hk : k ≤ m) : (putState n m ((List.range k).map (fun j => m - 1 - j))).1 = n / (256 : Int) ^ k ∧ ∀ j, j < m → (putState n m ((List.range k).map (fun j => m - 1 - j))).2[j]? = some (if m - k ≤ j then bt n (m - 1 - j) else 0) := by
  induction k with
  | zero =>
    refine ⟨by simp [putState], fun j hj => ?_⟩
    simp [putState, hj]
    intro h
    omega
  | succ k ih =>
    obtain ⟨h1, h2⟩ := ih (by omega)
    rw [List.range_succ, List.map_append, List.map_cons, List.map_nil, putState_snoc]
    generalize putState n m ((List.range k).map (fun j => m - 1 - j)) = s at *
    constructor
    · rw [putStep, h1, Int.ediv_ediv_of_nonneg (by exact Int.pow_nonneg (by omega)), Int.pow_succ]
    · intro j hj
      simp only [putStep]
      rw [List.getElem?_set]
      have hl : m - 1 - k < s.2.length := by
        have := h2 (m - 1 - k) (by omega)
        exact (List.getElem?_eq_some_iff.1 this).1
      by_cases e : m - 1 - k = j
      · subst e
        rw [if_pos rfl, if_pos hl, if_pos (by omega)]
        congr 1
        rw [show m - 1 - (m - 1 - k) = k from by omega, h1, bt, bt]
        simp
      · rw [if_neg e, h2 j hj]
        by_cases e2 : m - k ≤ j
        · rw [if_pos e2, if_pos (by omega)]
        · rw [if_neg e2, if_neg (by omega)]
theorem putState_puts (n : Int) (m : Nat) : (putState n m ((List.range m).map (fun j => m - 1 - j))).2 = puts n m := by
  obtain ⟨_, h⟩ := putState_all n m m (Nat.le_refl _)
  apply List.ext_getElem?
  intro j
  by_cases hj : j < m
  · rw [h j hj, if_pos (by omega), puts, List.getElem?_map, List.getElem?_range hj]
    rfl
  · rw [List.getElem?_eq_none (by rw [putState_len]; omega), List.getElem?_eq_none (by simp [puts]; omega)]
theorem puts_length (n : Int) (m : Nat) : (puts n m).length = m := by simp [puts]

/-- block g is just the cells cs -/
def BlkP (w : World) (g : Nat) (t : TypeId) (cs : Array Value) : Prop := w.heap[g]? = some (.cells cs t (0, 0))
theorem BlkP.cell {w : World} {g : Nat} {t : TypeId} {cs : Array Value} (h : BlkP w g t cs) (i : Nat) : w.cell? ⟨g, i, none⟩ = cs[i]? := by
  unfold BlkP at h
  unfold World.cell?
  rw [h]
  simp
theorem BlkP.frozen {w : World} {g : Nat} {t : TypeId} {cs : Array Value} (h : BlkP w g t cs) (i : Nat) : w.frozen? ⟨g, i, none⟩ = false := by
  unfold BlkP at h
  simp [World.frozen?, h]
theorem BlkP.new (w : World) (t : TypeId) (cs : Array Value) : BlkP (w.alloc (.cells cs t)) w.heap.size t cs := heap_alloc_new w _
theorem BlkP.lt {w : World} {g : Nat} {t : TypeId} {cs : Array Value} (h : BlkP w g t cs) : g < w.heap.size := (Array.getElem?_eq_some_iff.1 h).1
theorem BlkP.alloc {w : World} {g : Nat} {t : TypeId} {cs : Array Value} (h : BlkP w g t cs) (o : Obj) : BlkP (w.alloc o) g t cs := (Below.heap_alloc w o g h.lt).trans h
theorem BlkP.set_ {w : World} {g : Nat} {t : TypeId} {cs : Array Value} (h : BlkP w g t cs) (i : Nat) (u : Value) : BlkP (w.setCell ⟨g, i, none⟩ u) g t (cs.setIfInBounds i u) := by
  unfold BlkP at h ⊢
  simp [World.setCell, Array.getElem?_modify, h]
theorem BlkP.far {w : World} {g : Nat} {t : TypeId} {cs : Array Value} (h : BlkP w g t cs) {p : Addr} (hp : g ≠ p.block) (u : Value) : BlkP (w.setCell p u) g t cs := (Below.heap_setCell w p u g hp).trans h
theorem BlkP.kept {W W' : World} {g : Nat} {t : TypeId} {cs : Array Value} {row : Option Nat} (h : BlkP W g t cs) (hg : W.grownBy W' row) (hr : ∀ r, row = some r → ∃ o : Obj, W.heap[r]? = some o ∧ o.isCells = false) : BlkP W' g t cs :=
  (hg.block g h.lt (fun e => by
    obtain ⟨o, ho, hc⟩ := hr g e.symm
    unfold BlkP at h
    rw [h] at ho
    cases ho
    cases hc)).trans h
theorem BlkP.own {w : World} {g : Nat} {t : TypeId} {base n : Nat} {cs : List Value} (h : BlkP w g t cs.toArray) (hb : base ≤ g) (hn : cs.length = n) (hm : n ≤ maxLen) : w.ownsRow base t 1 (.slice (some ⟨g, 0, none⟩) n n) n cs :=
  ⟨by omega, .inr ⟨g, n, cs.toArray, rfl, hb, h, Nat.le_refl _, hm, by simp [hn], by simp [← hn]⟩⟩
theorem putState_bd (n : Int) (m : Nat) (l : List Nat) (h1 : -9223372036854775808 ≤ n) (h2 : n ≤ 9223372036854775807) : -9223372036854775808 ≤ (putState n m l).1 ∧ (putState n m l).1 ≤ 9223372036854775807 := by
  unfold putState
  suffices h : ∀ (s : Int × List UInt8), -9223372036854775808 ≤ s.1 → s.1 ≤ 9223372036854775807 → -9223372036854775808 ≤ (l.foldl putStep s).1 ∧ (l.foldl putStep s).1 ≤ 9223372036854775807 from h _ h1 h2
  induction l with
  | nil => exact fun s a b => ⟨a, b⟩
  | cons i l ih => exact fun s a b => ih _ (by simp only [putStep]; omega) (by simp only [putStep]; omega)

theorem bt_zero (n : Int) : ((bt n 0).toNat : Int) = n % 256 := by
  have h1 : 0 ≤ n % 256 := Int.emod_nonneg _ (by omega)
  have h2 : n % 256 < 256 := Int.emod_lt_of_pos _ (by omega)
  simp only [bt, Int.pow_zero, Int.ediv_one]
  rw [UInt8.toNat_ofNat']
  omega
theorem bytes_set (l : List UInt8) (i : Nat) (b : UInt8) : bytes (l.set i b) = (bytes l).set i (.int .u8 (b.toNat : Int)) := by
  simp [bytes, List.map_set]
theorem info5 : (Tryz.prog.info? 5).map (fun i => (i.zero, i.size, i.bytes)) = some (some (.int .u8 0), 1, 1) := by kernel_rfl
theorem zeros_eq (m : Nat) : madeCells (Value.int .u8 0).cells m = (bytes (List.replicate m 0)).toArray := by
  apply Array.toList_inj.1
  show (madeCells #[Value.int .u8 0] m).toList = _
  rw [toList_madeCells_one]
  simp [bytes]
theorem mk_bytes (m : Nat) (hm : m ≤ 140737488355328) (u : World) : (Instr.makeSlice 53 (.int .i64 (m : Int)) (.int .i64 (m : Int))).run Tryz.prog u = .ok (.slice (some ⟨u.heap.size, 0, none⟩) m m) (u.alloc (.cells (bytes (List.replicate m 0)).toArray 5)) := by
  obtain ⟨i0, hi0, hz0, hz1, hz2⟩ := info_parts info5
  have h := run_make (P := Tryz.prog) u 53 5 i0 _ Tryz.underlying53 hi0 hz0 .i64 .i64 m m (by omega) (by omega) (by rw [hz2]; omega) (by omega)
  rw [hz1, Int.toNat_natCast, Nat.mul_one, zeros_eq] at h
  exact h

set_option maxRecDepth 100000 in
set_option maxHeartbeats 2000000 in
theorem put_in (F : Fence) (n : Nat) (h3 : F.fn 147) (h5 : F.fn 190) (h6 : F.fn 219) (hro : F.round = none) (hn : 3 ≤ n) (x size : Int) (m : Nat) (hm : m ≤ 8) (hs : size = (m : Int)) (w : World) (hx1 : -9223372036854775808 ≤ x) (hx2 : x ≤ 9223372036854775807) :
    CallsIn F n Tryz.prog 147 #[.int .i64 x, .int .i64 size] w fun e W' => ∃ v, e = .returned v ∧ W'.ownsRow w.heap.size 5 1 v m (bytes (puts x m)) ∧ Ext w W' := by
  subst hs
  have h1 : 1 ≤ n := by omega
  have hmk := mk_bytes m (by omega)
  refine callsIn_of_wp_marks Tryz.func147 rfl h3 ?_ hro
  simp only [Tryz.ntmps147, List.size_toArray, List.length_cons, List.length_nil, Nat.reduceAdd, Nat.reduceSub, Array.replicate_succ, Array.replicate_zero, List.push_toArray, List.append_toArray, List.nil_append, List.cons_append]
  gi_wp2_with (gi_at_call 190; refine (backward_in F (n - 1) h5 hro _ _ _ _).mono ?_; rintro e w' ⟨rfl, rfl⟩)
  have B0 : BlkP ((((w.alloc (Obj.cells #[Value.int IntKind.i64 x] 3)).alloc (Obj.cells (bytes (List.replicate m 0)).toArray 5)).alloc (Obj.cells #[Value.slice (some { block := w.heap.size + 1, off := 0 }) m m] 53)).alloc (Obj.cells #[Value.slice (some { block := w.heap.size + 1, off := 0 }) m m] 53)) w.heap.size 3 #[.int .i64 x] := (((BlkP.new w _ _).alloc _).alloc _).alloc _
  have B1 : BlkP ((((w.alloc (Obj.cells #[Value.int IntKind.i64 x] 3)).alloc (Obj.cells (bytes (List.replicate m 0)).toArray 5)).alloc (Obj.cells #[Value.slice (some { block := w.heap.size + 1, off := 0 }) m m] 53)).alloc (Obj.cells #[Value.slice (some { block := w.heap.size + 1, off := 0 }) m m] 53)) (w.heap.size + 1) 5 (bytes (List.replicate m 0)).toArray := by
    have := ((BlkP.new (w.alloc (Obj.cells #[Value.int IntKind.i64 x] 3)) 5 (bytes (List.replicate m 0)).toArray).alloc (Obj.cells #[Value.slice (some { block := w.heap.size + 1, off := 0 }) m m] 53)).alloc (Obj.cells #[Value.slice (some { block := w.heap.size + 1, off := 0 }) m m] 53)
    rwa [World.size_alloc] at this
  have B2 : BlkP ((((w.alloc (Obj.cells #[Value.int IntKind.i64 x] 3)).alloc (Obj.cells (bytes (List.replicate m 0)).toArray 5)).alloc (Obj.cells #[Value.slice (some { block := w.heap.size + 1, off := 0 }) m m] 53)).alloc (Obj.cells #[Value.slice (some { block := w.heap.size + 1, off := 0 }) m m] 53)) (w.heap.size + 1 + 1) 53 #[Value.slice (some { block := w.heap.size + 1, off := 0 }) m m] := by
    have := (BlkP.new ((w.alloc (Obj.cells #[Value.int IntKind.i64 x] 3)).alloc (Obj.cells (bytes (List.replicate m 0)).toArray 5)) 53 #[Value.slice (some { block := w.heap.size + 1, off := 0 }) m m]).alloc (Obj.cells #[Value.slice (some { block := w.heap.size + 1, off := 0 }) m m] 53)
    rwa [World.size_alloc, World.size_alloc] at this
  have B3 : BlkP ((((w.alloc (Obj.cells #[Value.int IntKind.i64 x] 3)).alloc (Obj.cells (bytes (List.replicate m 0)).toArray 5)).alloc (Obj.cells #[Value.slice (some { block := w.heap.size + 1, off := 0 }) m m] 53)).alloc (Obj.cells #[Value.slice (some { block := w.heap.size + 1, off := 0 }) m m] 53)) (w.heap.size + 1 + 1 + 1) 53 #[Value.slice (some { block := w.heap.size + 1, off := 0 }) m m] := by
    have := BlkP.new (((w.alloc (Obj.cells #[Value.int IntKind.i64 x] 3)).alloc (Obj.cells (bytes (List.replicate m 0)).toArray 5)).alloc (Obj.cells #[Value.slice (some { block := w.heap.size + 1, off := 0 }) m m] 53)) 53 #[Value.slice (some { block := w.heap.size + 1, off := 0 }) m m]
    rwa [World.size_alloc, World.size_alloc, World.size_alloc] at this
  have hB : Below w.heap.size w ((((w.alloc (Obj.cells #[Value.int IntKind.i64 x] 3)).alloc (Obj.cells (bytes (List.replicate m 0)).toArray 5)).alloc (Obj.cells #[Value.slice (some { block := w.heap.size + 1, off := 0 }) m m] 53)).alloc (Obj.cells #[Value.slice (some { block := w.heap.size + 1, off := 0 }) m m] 53)) :=
    (((Ext.refl w).alloc _).alloc _).alloc _ |>.alloc _
  generalize hW0 : ((((w.alloc (Obj.cells #[Value.int IntKind.i64 x] 3)).alloc (Obj.cells (bytes (List.replicate m 0)).toArray 5)).alloc (Obj.cells #[Value.slice (some { block := w.heap.size + 1, off := 0 }) m m] 53)).alloc (Obj.cells #[Value.slice (some { block := w.heap.size + 1, off := 0 }) m m] 53)) = W0 at *
  have hz0 : W0.heap.size = w.heap.size + 1 + 1 + 1 + 1 := by rw [← hW0]; simp
  clear hmk
  refine wpIn_rangeFunc_ownF hro h1 (gf := 219) (lb := #[.pointer (some ⟨w.heap.size + 1 + 1 + 1, 0, none⟩)]) rfl h6 (enters_of Tryz.func219 (by kernel_rfl) rfl)
    (back_stops F (n - 1) h6 hro (by omega) (w.heap.size + 1 + 1 + 1) (w.heap.size + 1) m hm W0 (by omega) (by omega) (B3.cell 0) (fun j hj => ⟨0, by rw [B1.cell j]; simp [bytes, hj]⟩)) keepB_t keepB_b (Below.refl _ _) (fun _ => rfl)
    (fun pre W => (BlkP W w.heap.size 3 #[.int .i64 (putState x m (pre.map (·.1.1))).1] ∧ BlkP W (w.heap.size + 1) 5 (bytes (putState x m (pre.map (·.1.1))).2).toArray ∧ BlkP W (w.heap.size + 1 + 1) 53 #[Value.slice (some { block := w.heap.size + 1, off := 0 }) m m]) ∧ Below w.heap.size w W)
    (fun _ _ _ => False)
    (OwnFrom.and (Own.from (fun s A B row hs hg hr => ⟨hs.1.kept hg hr, hs.2.1.kept hg hr, hs.2.2.kept hg hr⟩) _) (ownFrom_below (Nat.le_refl _) (by omega)))
    (fun _ _ _ _ _ hs _ _ => hs)
    ⟨⟨B0, B1, B2⟩, hB⟩
    (fun y => { tmps := #[Value.int IntKind.i64 x, Value.int IntKind.i64 ↑m, Value.pointer (some { block := w.heap.size, off := 0 }),
          undef, Value.slice none 0 0, Value.pointer (some { block := w.heap.size + 1 + 1, off := 0 }), Value.int IntKind.i64 (y.1.1 : Int),
          Value.int IntKind.i64 ↑m, Value.int IntKind.i64 ↑m, Value.int IntKind.i64 ↑m, Value.int IntKind.i64 ↑m,
          Value.slice (some { block := w.heap.size + 1, off := 0 }) m m,
          Value.slice (some { block := w.heap.size + 1, off := 0 }) m m,
          Value.func (Fn.func 219) #[] #[Value.pointer (some { block := w.heap.size + 1 + 1 + 1, off := 0 })], Value.int IntKind.i64 (y.1.1 : Int),
          Value.int IntKind.u8 y.2, undef, undef, undef, undef, undef, undef, undef, undef], defers := [] }) ?assign ?body ?done ?stop
  case assign =>
    intro l y W K hK
    simp only [backEnc]
    gi_wp2
    exact hK
  case body =>
    rintro l pre ⟨⟨i, hi⟩, y⟩ W ⟨⟨C0, C1, C2⟩, hBW⟩ _
    have hbd := putState_bd x m (pre.map (·.1.1)) hx1 hx2
    have hsl := putState_len x m (pre.map (·.1.1))
    generalize hst : putState x m (pre.map (·.1.1)) = st at *
    have c0 : W.cell? ⟨w.heap.size, 0, none⟩ = some (.int .i64 st.1) := C0.cell 0
    have f0 := C0.frozen 0
    have c2 : W.cell? ⟨w.heap.size + 1 + 1, 0, none⟩ = some (Value.slice (some { block := w.heap.size + 1, off := 0 }) m m) := C2.cell 0
    obtain ⟨u1, c1⟩ : ∃ u, W.cell? ⟨w.heap.size + 1, i, none⟩ = some u := ⟨_, by rw [C1.cell i]; simp only [List.getElem?_toArray, bytes, List.getElem?_map]; rw [List.getElem?_eq_getElem (by omega)]; rfl⟩
    have f1 := C1.frozen i
    have HS := Lib.hid hst
    have HZ := Lib.hid hsl
    clear hst hsl
    gi_wp2
    have hbt : ((bt st.1 0).toNat : Int) = st.1 % 256 := bt_zero _
    refine ⟨(KeepsOthers.setCell W _ _).trans (KeepsOthers.setCell _ _ _), ⟨fun v hv => ?_, fun j hj ⟨v, hv⟩ => ?_⟩, ⟨?_, ?_, ?_⟩, ?_⟩
    · rw [World.cell?_setCell_other _ _ _ _ (by simp), World.cell?_setCell_other _ _ _ _ (by simp)]
      exact hv
    · rw [World.cell?_setCell_other _ _ _ _ (by simp)]
      by_cases e : i = j
      · subst e
        exact ⟨_, World.cell?_setCell_same _ _ _ c1⟩
      · exact ⟨v, by rw [World.cell?_setCell_other _ _ _ _ (by simp)]; exact hv⟩
    · rw [List.map_append, List.map_cons, List.map_nil, putState_snoc, HS.out]
      exact (C0.far (p := ⟨w.heap.size + 1, i, none⟩) (by simp) _).set_ 0 _
    · rw [List.map_append, List.map_cons, List.map_nil, putState_snoc, HS.out]
      have h := (C1.set_ i (.int .u8 (st.1 % 256))).far (p := ⟨w.heap.size, 0, none⟩) (by simp) (.int .i64 (st.1 / 256))
      have e : (bytes st.2).toArray.setIfInBounds i (.int .u8 (st.1 % 256)) = (bytes (putStep st i).2).toArray := by
        rw [List.setIfInBounds_toArray, putStep, bytes_set, hbt]
      rw [e] at h
      exact h
    · exact (C2.far (p := ⟨w.heap.size + 1, i, none⟩) (by simp) _).far (p := ⟨w.heap.size, 0, none⟩) (by simp; omega) _
    · exact (hBW.setCell (p := ⟨w.heap.size + 1, i, none⟩) (by simp) _).setCell (p := ⟨w.heap.size, 0, none⟩) (by simp) _
  case done =>
    rintro D ys W hD hys ⟨⟨C0, C1, C2⟩, hBW⟩ hK
    rw [hys, putState_puts] at C1
    have c2 : W.cell? ⟨w.heap.size + 1 + 1, 0, none⟩ = some (Value.slice (some { block := w.heap.size + 1, off := 0 }) m m) := C2.cell 0
    clear hys C0
    gi_wp2
    refine ⟨by simp, .inl ⟨_, _, rfl, run_takeDeferred hK, ?_⟩⟩
    have hne : w.heap.size + 1 ≠ D := by omega
    have C1' : BlkP (W.putObj D (.deferred none)) (w.heap.size + 1) 5 (bytes (puts x m)).toArray := (World.putObj_heap_other hne).trans C1
    exact ⟨_, results_tmp rfl _ _ _, _, rfl, C1'.own (by omega) (by rw [bytes_length, puts_length]) (by simp only [maxLen]; omega), Below.trans hBW (belowK_b (w := w) (Nat.le_refl _) W D _ _ (by omega) hK rfl rfl)⟩
  case stop =>
    rintro D c pre W _ _ h _
    exact h.elim

/-- octets.Put, for sizes from 0 to 8 -/
theorem put_any (x size : Int) (m : Nat) (hm : m ≤ 8) (hs : size = (m : Int)) (w : World) (hx1 : -9223372036854775808 ≤ x) (hx2 : x ≤ 9223372036854775807) :
    Calls Tryz.prog 147 #[.int .i64 x, .int .i64 size] w fun e W' => ∃ v, e = .returned v ∧ W'.ownsRow w.heap.size 5 1 v m (bytes (puts x m)) ∧ Ext w W' :=
  (callsIn_wide (n := 3)).1 (put_in Fence.wide 3 trivial trivial trivial rfl (Nat.le_refl _) x size m hm hs w hx1 hx2)
end Go.Proofs.YtckaneapjpiocaaGreatDoor
/- The walks of octets.Number, slices.Clone of octets, octets.Cut. -/
namespace Go.Proofs.YtckaneapjpiocaaGreatDoor
open Go.RowKit

/-- octets as a number -/
def val (l : List UInt8) : Nat := l.foldl (fun n c => n * 256 + c.toNat) 0
theorem val_snoc (l : List UInt8) (c : UInt8) : val (l ++ [c]) = val l * 256 + c.toNat := by simp [val]
theorem val_lt (l : List UInt8) : val l < 256 ^ l.length := by
  suffices h : ∀ (n : Nat) (k : Nat), n < 256 ^ k → l.foldl (fun n c => n * 256 + c.toNat) n < 256 ^ (k + l.length) by
    have := h 0 0 (by omega)
    rwa [Nat.zero_add] at this
  induction l with
  | nil => exact fun n k h => h
  | cons c l ih =>
    intro n k h
    have hc : c.toNat < 256 := c.toNat_lt
    have := ih (n * 256 + c.toNat) (k + 1) (by rw [Nat.pow_succ]; omega)
    simp only [List.foldl_cons, List.length_cons]
    rw [show k + (l.length + 1) = k + 1 + l.length from by omega]
    exact this
theorem val_take (l : List UInt8) (k : Nat) (hk : k < l.length) : val (l.take (k + 1)) = val (l.take k) * 256 + l[k].toNat := by
  rw [List.take_succ_eq_append_getElem hk, val_snoc]
theorem val_lt7 (l : List UInt8) (k : Nat) (hk : k ≤ 7) : val (l.take k) < 72057594037927936 := by
  have h1 := val_lt (l.take k)
  have h2 : (l.take k).length ≤ 7 := Nat.le_trans (List.length_take_le _ _) hk
  exact Nat.lt_of_lt_of_le h1 (Nat.pow_le_pow_right (by omega) h2)
theorem or_u64 (q y : Nat) (hq : q < 72057594037927936) (hy : y < 2 ^ 8) : bits .or .u64 ((q : Int) * 256) (y : Int) = ((q * 256 + y : Nat) : Int) := by
  have h1 : q * 256 ||| y = q * 256 + y := by
    have := Nat.shiftLeft_add_eq_or_of_lt hy q
    rw [Nat.shiftLeft_eq] at this
    exact this.symm
  have h2 : ((q : Int) * 256) = ((q * 256 : Nat) : Int) := by omega
  rw [h2]
  show IntKind.u64.wrap ((BitVec.ofInt 64 ((q * 256 : Nat) : Int) ||| BitVec.ofInt 64 (y : Int)).toNat : Int) = _
  rw [BitVec.toNat_or, BitVec.ofInt_natCast, BitVec.ofInt_natCast, BitVec.toNat_ofNat, BitVec.toNat_ofNat, Nat.mod_eq_of_lt (by omega), Nat.mod_eq_of_lt (by omega), h1, IntKind.wrap_u64]
  omega
def numE (l : List UInt8) : Int := if l.length = 0 then 8 else if 8 < l.length then 5 else if 4611686018427387903 < val l then 4 else 0
def numV (l : List UInt8) : Int := if l.length = 0 then 0 else if 8 < l.length then 0 else if 4611686018427387903 < val l then 0 else val l

set_option maxRecDepth 100000 in
set_option maxHeartbeats 400000 in
theorem number_any (w : World) (A : Option Addr) (n c lo hi : Nat) (l : List UInt8) (hn : n = l.length) (hm : n ≤ 9223372036854775807) (hr : Rd w lo hi A (bytes l)) (hh : hi ≤ w.heap.size) :
    Calls Tryz.prog 156 #[.slice A n c] w fun e w' => e = .returned (.tuple #[.int .i64 (numV l), .int .i64 (numE l)]) ∧ Ext w w' := by
  have Hn := Lib.hid hn
  by_cases h0 : n = 0
  · have hv : Hid (numV l = 0 ∧ numE l = 8) := by rw [numV, numE, if_pos (by omega), if_pos (by omega)]; exact ⟨rfl, rfl⟩
    subst h0
    clear hn
    go_enter Tryz.func156, Tryz.ntmps156
    go_wp2_with fail
    go_ret2
    exact ⟨by rw [hv.out.1, hv.out.2]; rfl, Ext.refl _⟩
  · by_cases h8 : 8 < n
    · have hv : Hid (numV l = 0 ∧ numE l = 5) := by rw [numV, numE, if_neg (by omega), if_pos (by omega), if_neg (by omega), if_pos (by omega)]; exact ⟨rfl, rfl⟩
      have b0 : ((n : Int) == 0) = false := by simp; omega
      clear hn
      go_enter Tryz.func156, Tryz.ntmps156
      go_wp2_with fail
      go_ret2
      exact ⟨by rw [hv.out.1, hv.out.2]; rfl, Ext.refl _⟩
    · have b0 : ((n : Int) == 0) = false := by simp; omega
      clear hn
      go_enter Tryz.func156, Tryz.ntmps156
      go_wp2_with fail
      go_loopw [4, 17] (fun v i wr => ∃ k : Nat, k ≤ n ∧ i = .int .i64 k ∧ v = .int .u64 (val (l.take k)) ∧ Ext w wr) (fun _ i _ => n - (intOf i).toNat)
      case atStart => exact ⟨0, Nat.zero_le _, rfl, rfl, Ext.refl _⟩
      case round =>
        obtain ⟨k, hk, rfl, rfl, e1⟩ := hrel
        by_cases hlt : k < n
        · obtain ⟨b1, o1, rfl, _, _, f0⟩ := rd_byte (hr.ext e1 hh) (k := k) (by rw [← Hn.out]; omega)
          have hvt := Lib.hid (val_take l k (by rw [← Hn.out]; omega))
          have h7 := val_lt7 l k (by omega)
          have hc := (l[k]'(by rw [← Hn.out]; omega)).toNat_lt
          generalize l[k]'(by rw [← Hn.out]; omega) = y at *
          generalize val (l.take k) = q at *
          go_wp2_with fail
          go_roundw
          case rel => exact ⟨k + 1, by omega, by go_num, by rw [or_u64 q y.toNat h7 hc, hvt.out], by (repeat (first | exact Below.refl _ _ | exact Ext.refl _ | assumption | refine Below.drew ?_ | refine below_drewN ?_ _ | refine below_alloc ?_ (by first | exact Nat.le_refl _ | assumption | (simp; done) | omega | (simp; omega)) _ | refine below_ext ?_ (by assumption) (by first | exact Nat.le_refl _ | assumption | (simp; done) | omega | (simp; omega)) | refine Ext.drew ?_ | refine Ext.drewN ?_ _ | refine Ext.alloc ?_ _ | refine Ext.setCell ?_ (by first | assumption | (simp; done) | (simp; omega)) _ | refine Below.setCell ?_ (by first | assumption | (simp; done) | (simp; omega)) _ | refine Ext.trans ?_ (by assumption)))⟩
          case measure => simp [intOf]; omega
        · obtain rfl : k = n := by omega
          have ht : val (l.take k) = val l := by rw [List.take_of_length_le (by rw [← Hn.out]; exact Nat.le_refl _)]
          rw [ht]
          clear ht
          have hlt := val_lt l
          have hl8 : val l < 18446744073709551616 := Nat.lt_of_lt_of_le hlt (by
            have : l.length ≤ 8 := by rw [← Hn.out]; omega
            exact Nat.pow_le_pow_right (n := 256) (by omega) this)
          clear hlt
          have HN : Hid (¬ l.length = 0 ∧ ¬ 8 < l.length) := by rw [← Hn.out]; exact ⟨h0, h8⟩
          by_cases hbig : 4611686018427387903 < val l
          · have hv : Hid (numV l = 0 ∧ numE l = 4) := by rw [numV, numE, if_neg HN.out.1, if_neg HN.out.2, if_neg HN.out.1, if_neg HN.out.2, if_pos hbig, if_pos hbig]; exact ⟨rfl, rfl⟩
            go_wp2_with fail
            go_ret2
            exact ⟨by rw [hv.out.1, hv.out.2]; rfl, e1⟩
          · have hv : Hid (numV l = val l ∧ numE l = 0) := by rw [numV, numE, if_neg HN.out.1, if_neg HN.out.2, if_neg HN.out.1, if_neg HN.out.2, if_neg hbig, if_neg hbig]; exact ⟨rfl, rfl⟩
            go_wp2_with fail
            go_ret2
            exact ⟨by rw [hv.out.1, hv.out.2]; rfl, e1⟩

theorem bt_div (n : Int) (i : Nat) : bt (n / 256) i = bt n (i + 1) := by
  unfold bt
  rw [Int.ediv_ediv_of_nonneg (by omega), Int.pow_succ, Int.mul_comm]
theorem puts_succ (n : Int) (m : Nat) : puts n (m + 1) = puts (n / 256) m ++ [bt n 0] := by
  unfold puts
  rw [List.range_succ, List.map_append]
  congr 1
  · apply List.map_congr_left
    intro j hj
    rw [List.mem_range] at hj
    rw [bt_div]
    congr 1
    omega
  · simp
theorem emod_step (n K : Int) (hK : 0 < K) : n % (K * 256) = (n / 256 % K) * 256 + n % 256 := by
  have h1 := Int.emod_add_mul_ediv n 256
  have h2 := Int.emod_add_mul_ediv (n / 256) K
  have a1 : 0 ≤ n % 256 := Int.emod_nonneg _ (by omega)
  have a2 : n % 256 < 256 := Int.emod_lt_of_pos _ (by omega)
  have b1 : 0 ≤ n / 256 % K := Int.emod_nonneg _ (by omega)
  have b2 : n / 256 % K < K := Int.emod_lt_of_pos _ hK
  have e : n = ((n / 256 % K) * 256 + n % 256) + (K * 256) * (n / 256 / K) := by
    have : (K * 256) * (n / 256 / K) = 256 * (K * (n / 256 / K)) := by rw [Int.mul_comm K 256, Int.mul_assoc]
    rw [this]
    omega
  have hr : n % (K * 256) = ((n / 256 % K) * 256 + n % 256) % (K * 256) := by
    conv => lhs; rw [e]
    rw [Int.add_mul_emod_self_left]
  rw [hr, Int.emod_eq_of_lt (by omega) (by omega)]
theorem val_puts (n : Int) (m : Nat) : (val (puts n m) : Int) = n % (256 : Int) ^ m := by
  induction m generalizing n with
  | zero => simp [puts, val, Int.emod_one]
  | succ m ih =>
    rw [puts_succ, val_snoc, Int.pow_succ, emod_step n _ (Int.pow_pos (by omega)), ← ih (n / 256)]
    have := bt_zero n
    omega
/-- from 0 to 2^62 - 1 a number comes back -/
theorem num_back (n : Int) (h1 : -9223372036854775808 ≤ n) (h2 : n ≤ 9223372036854775807) : numE (puts n 8) = (if n < 0 ∨ 4611686018427387903 < n then 4 else 0) ∧ (¬ (n < 0 ∨ 4611686018427387903 < n) → numV (puts n 8) = n) := by
  have hv := val_puts n 8
  have hl := puts_length n 8
  have hp : (256 : Int) ^ 8 = 18446744073709551616 := by decide
  rw [hp] at hv
  unfold numE numV
  rw [hl]
  by_cases h : n < 0 ∨ 4611686018427387903 < n
  · have hb : 4611686018427387903 < val (puts n 8) := by omega
    simp [h, hb]
  · have hb : ¬ 4611686018427387903 < val (puts n 8) := by omega
    rw [if_neg h, if_neg (by omega), if_neg (by omega), if_neg hb, if_neg (by omega), if_neg (by omega), if_neg hb]
    exact ⟨rfl, fun _ => by omega⟩
end Go.Proofs.YtckaneapjpiocaaGreatDoor
/- A string's octets as cells. Laws over whatever program. -/
namespace Go.Proofs.YtckaneapjpiocaaGreatDoor
open Go.RowKit

theorem len_data (s : ByteArray) : s.data.toList.length = s.size := by rw [Array.length_toList]; rfl
theorem rd_bytesRow (W : World) (s : ByteArray) (cap : Nat) (e : TypeId) (fz : Nat × Nat) : Rd (W.alloc (.cells (bytesRow s cap) e fz)) W.heap.size (W.heap.size + 1) (some ⟨W.heap.size, 0, none⟩) (bytes s.data.toList) := fun _ => by
  refine ⟨_, _, rfl, Nat.le_refl _, Nat.lt_succ_self _, fun j u h => ?_⟩
  have h1 := heap_alloc_new W (.cells (bytesRow s cap) e fz)
  unfold World.cell?
  rw [h1]
  simp only [bytes, List.getElem?_map, Array.getElem?_toList] at h
  simp only [Nat.zero_add, Option.isSome_none, Bool.false_eq_true, if_false, bytesRow]
  have hj : j < s.data.size := by
    rcases Nat.lt_or_ge j s.data.size with h' | h'
    · exact h'
    · rw [Array.getElem?_eq_none h'] at h; cases h
  rw [Array.getElem?_append_left (by simpa using hj), Array.getElem?_map]
  exact h

theorem empty_of (s : ByteArray) (h : s.size = 0) : s = ⟨#[]⟩ := by
  cases s with
  | mk d =>
    have : d = #[] := Array.eq_empty_of_size_eq_zero h
    rw [this]
theorem rd_str {w : World} {lo hi : Nat} {A : Option Addr} {l : List ByteArray} (h : Rd w lo hi A (l.map Value.string)) {k : Nat} (hk : k < l.length) :
    ∃ b o, A = some ⟨b, o, none⟩ ∧ lo ≤ b ∧ b < hi ∧ w.cell? ⟨b, o + k, none⟩ = some (.string l[k]) := by
  obtain ⟨b, o, h1, h2, h3, h4⟩ := h (fun e => by have : (l.map Value.string).length = l.length := by simp
                                                  rw [e] at this; simp at this; omega)
  exact ⟨b, o, h1, h2, h3, h4 k _ (by rw [List.getElem?_map, List.getElem?_eq_getElem hk]; rfl)⟩
end Go.Proofs.YtckaneapjpiocaaGreatDoor
/- The walks of fields.Number, fields.Numbers, fields.Write. -/
namespace Go.Proofs.YtckaneapjpiocaaGreatDoor
open Go.RowKit

def fE (s : ByteArray) : Int := if s.size < 8 then 8 else if 8 < s.size then 5 else numE s.data.toList
def fV (s : ByteArray) : Int := if s.size < 8 then 0 else if 8 < s.size then 0 else numV s.data.toList

set_option maxRecDepth 100000 in
set_option maxHeartbeats 400000 in
theorem fnumber_any (s : ByteArray) (w : World) (hm : s.size ≤ 9223372036854775807) :
    Calls Tryz.prog 153 #[.string s] w fun e w' => e = .returned (.tuple #[.int .i64 (fV s), .int .i64 (fE s)]) ∧ Ext w w' := by
  by_cases h0 : s.size < 8
  · have hv : Hid (fV s = 0 ∧ fE s = 8) := by rw [fV, fE, if_pos h0, if_pos h0]; exact ⟨rfl, rfl⟩
    go_enter Tryz.func153, Tryz.ntmps153
    go_wp2_with fail
    go_ret2
    exact ⟨by rw [hv.out.1, hv.out.2]; rfl, Ext.refl _⟩
  · by_cases h8 : 8 < s.size
    · have hv : Hid (fV s = 0 ∧ fE s = 5) := by rw [fV, fE, if_neg h0, if_neg h0, if_pos h8, if_pos h8]; exact ⟨rfl, rfl⟩
      go_enter Tryz.func153, Tryz.ntmps153
      go_wp2_with fail
      go_ret2
      exact ⟨by rw [hv.out.1, hv.out.2]; rfl, Ext.refl _⟩
    · have hv : Hid (fV s = numV s.data.toList ∧ fE s = numE s.data.toList) := by rw [fV, fE, if_neg h0, if_neg h0, if_neg h8, if_neg h8]; exact ⟨rfl, rfl⟩
      have hcv := fun W => run_bytes_of_string (P := Tryz.prog) W 9 53 5 s Tryz.underlying9 Tryz.underlying53 Tryz.underlying5
      have hrd := rd_bytesRow w s (grownCap w s.size 0 5) 5 ((bytesRow s (grownCap w s.size 0 5)).size, (bytesRow s (grownCap w s.size 0 5)).size + 1)
      have HR := Lib.hid hrd
      clear hrd
      go_enter Tryz.func153, Tryz.ntmps153
      go_wp2_with fail
      clear hcv
      refine (number_any _ _ s.size _ _ _ s.data.toList (by rw [len_data]) hm HR.out.drew (by simp)).mono ?_
      rintro e w2 ⟨rfl, e2⟩
      go_wp2_with fail
      go_ret2
      exact ⟨by rw [hv.out.1, hv.out.2]; rfl, by (repeat (first | exact Below.refl _ _ | exact Ext.refl _ | assumption | refine Below.drew ?_ | refine below_drewN ?_ _ | refine below_alloc ?_ (by first | exact Nat.le_refl _ | assumption | (simp; done) | omega | (simp; omega)) _ | refine below_ext ?_ (by assumption) (by first | exact Nat.le_refl _ | assumption | (simp; done) | omega | (simp; omega)) | refine Ext.drew ?_ | refine Ext.drewN ?_ _ | refine Ext.alloc ?_ _ | refine Ext.setCell ?_ (by first | assumption | (simp; done) | (simp; omega)) _ | refine Below.setCell ?_ (by first | assumption | (simp; done) | (simp; omega)) _ | refine Ext.trans ?_ (by assumption)))⟩

theorem info9 : (Tryz.prog.info? 9).map (fun i => (i.zero, i.size, i.bytes)) = some (some (.string .empty), 1, 16) := by kernel_rfl
/-- a number as a text of eight octets -/
def num8 (z : Int) : ByteArray := ⟨(puts z 8).toArray⟩
def ints (zs : List Int) : List Value := zs.map (Value.int .i64)
theorem rd_int {w : World} {lo hi : Nat} {A : Option Addr} {l : List Int} (h : Rd w lo hi A (ints l)) {k : Nat} (hk : k < l.length) :
    ∃ b o, A = some ⟨b, o, none⟩ ∧ lo ≤ b ∧ b < hi ∧ w.cell? ⟨b, o + k, none⟩ = some (.int .i64 l[k]) := by
  obtain ⟨b, o, h1, h2, h3, h4⟩ := h (fun e => by have : (ints l).length = l.length := by simp [ints]
                                                  rw [e] at this; simp at this; omega)
  exact ⟨b, o, h1, h2, h3, h4 k _ (by rw [ints, List.getElem?_map, List.getElem?_eq_getElem hk]; rfl)⟩
def num8s (zs : List Int) : List Value := zs.map fun z => .string (num8 z)
theorem num8s_snoc (xs : List Int) (k : Nat) (hk : k < xs.length) : num8s (xs.take (k + 1)) = num8s (xs.take k) ++ [.string (num8 xs[k])] := by
  rw [List.take_succ_eq_append_getElem hk, num8s, num8s, List.map_append]
  rfl

set_option maxRecDepth 100000 in
set_option maxHeartbeats 1000000 in
theorem numbers_any (w : World) (A : Option Addr) (n c : Nat) (zs : List Int) (hn : n = zs.length) (hr : Rd w 0 w.heap.size A (ints zs)) (hb : n * 16 ≤ 140737488355328) (hwf : ∀ z ∈ zs, -9223372036854775808 ≤ z ∧ z ≤ 9223372036854775807) :
    Calls Tryz.prog 95 #[.slice A n c] w fun e w' => ∃ v, e = .returned v ∧ w'.ownsRow w.heap.size 9 1 v n (num8s zs) ∧ Ext w w' := by
  obtain ⟨i0, hi0, hz0, hz1, hz2⟩ := info_parts info9
  have Hn := Lib.hid hn
  have HW := Lib.hid hwf
  clear hn hwf
  go_enter Tryz.func95, Tryz.ntmps95
  go_wp2_with fail
  go_loopw [3, 8] (fun v i wr => ∃ k : Nat, k ≤ n ∧ i = .int .i64 k ∧ wr.ownsRow w.heap.size 9 1 v k (num8s (zs.take k)) ∧ Ext w wr) (fun _ i _ => n - (intOf i).toNat)
  case atStart => exact ⟨0, Nat.zero_le _, rfl, World.ownsRow_nil _ _ _ _, Ext.refl _⟩
  case round =>
    obtain ⟨k, hk, rfl, hown, e3⟩ := hrel
    by_cases hlt : k < n
    · obtain ⟨b1, o1, rfl, _, _, f0⟩ := rd_int (hr.at (w' := wr) (by (repeat (first | exact Below.refl _ _ | exact Ext.refl _ | assumption | refine Below.drew ?_ | refine below_drewN ?_ _ | refine below_alloc ?_ (by first | exact Nat.le_refl _ | assumption | (simp; done) | omega | (simp; omega)) _ | refine below_ext ?_ (by assumption) (by first | exact Nat.le_refl _ | assumption | (simp; done) | omega | (simp; omega)) | refine Ext.drew ?_ | refine Ext.drewN ?_ _ | refine Ext.alloc ?_ _ | refine Ext.setCell ?_ (by first | assumption | (simp; done) | (simp; omega)) _ | refine Below.setCell ?_ (by first | assumption | (simp; done) | (simp; omega)) _ | refine Ext.trans ?_ (by assumption)))) (Nat.le_refl _)) (k := k) (by rw [← Hn.out]; omega)
      have hy := HW.out zs[k] (List.getElem_mem _)
      have htx := Lib.hid (num8s_snoc zs k (by rw [← Hn.out]; omega))
      generalize zs[k]'(by rw [← Hn.out]; omega) = y at *
      go_wp2_with fail
      clear f0
      refine (put_any y _ 8 (Nat.le_refl _) rfl wr hy.1 hy.2).mono ?_
      rintro e w2 ⟨v2, rfl, hown2, e2⟩
      obtain ⟨A2, c2, rfl, _, _, _⟩ := own_form hown2
      have hcv : (convert 53 9 (.slice A2 8 c2)).run Tryz.prog w2 = .ok (.string (num8 y)) w2 := run_conv_str w2 _ _ 5 Tryz.underlying53 Tryz.underlying5 Tryz.underlying9 _ _ A2 8 c2 (puts y 8) (puts_length _ _).symm (Rd.of_own hown2)
      have own2 := own_ext hown e2
      have e4 : Ext w w2 := by (repeat (first | exact Below.refl _ _ | exact Ext.refl _ | assumption | refine Below.drew ?_ | refine below_drewN ?_ _ | refine below_alloc ?_ (by first | exact Nat.le_refl _ | assumption | (simp; done) | omega | (simp; omega)) _ | refine below_ext ?_ (by assumption) (by first | exact Nat.le_refl _ | assumption | (simp; done) | omega | (simp; omega)) | refine Ext.drew ?_ | refine Ext.drewN ?_ _ | refine Ext.alloc ?_ _ | refine Ext.setCell ?_ (by first | assumption | (simp; done) | (simp; omega)) _ | refine Below.setCell ?_ (by first | assumption | (simp; done) | (simp; omega)) _ | refine Ext.trans ?_ (by assumption)))
      clear hown e2 e3 hown2
      go_wp2_with
        (at_builtin
         refine list_app _ rfl (.tmp 12) (.tmp 16) _ rfl 9 i0 _ 1 16 Tryz.underlying109 hi0 hz0 hz1 hz2 rfl (by omega) _ _ k _ rfl (own2.alloc _) 0 _ _ 1 1 [.string (num8 y)] rfl rfl
           ((rd_new _ _ _).more (Nat.zero_le _) (Nat.le_refl _)) (by simp [Value.oneCell']) (by simp only [maxLen]; omega) (by omega) (by have := e4.size; simp; omega) ?_
         intro v3 w3 hown3 he3 _ _
         have e5 : Ext w w3 := he3 _ (e4.alloc _) (Nat.le_refl _)
         clear he3 own2 e4)
      go_roundw
      case rel => exact ⟨k + 1, by omega, by go_num, by rw [htx.out]; exact hown3, e5⟩
      case measure => simp [intOf]; omega
    · go_wp2_with fail
      obtain rfl : k = n := by omega
      go_ret
      exact ⟨_, rfl, by rw [List.take_of_length_le (by rw [← Hn.out]; exact Nat.le_refl _)] at hown; exact hown, e3⟩
end Go.Proofs.YtckaneapjpiocaaGreatDoor
