/- octets.Put: a range over slices.Backward: the iterator's contract, the caller. -/
import Derived.Test.YtpbbjmfhcgcldaaDoorLib
import Derived.RangeFuncNested
import Derived.RangeFuncBound
import Derived.RangeFuncCalls
import Derived.RangeFuncLeaves
import Derived.Shelf.Abstract
import Derived.Shelf.RegionOpen
import Derived.OwnWalkIn
import Derived.TacticsInMore
import Derived.LoopNIn
import Derived.LoopIn
namespace Go.Proofs.YtpbbjmfhcgcldaaDoor
open Go.RowKit Go.Shelf
attribute [local go_sem] Oper.semAt_some

/-- what a round keeps: the iterator's box; that the octets are octets -/
def KeepB (Bs b m : Nat) (W W' : World) : Prop :=
  (∀ v, W.cell? ⟨Bs, 0, none⟩ = some v → W'.cell? ⟨Bs, 0, none⟩ = some v) ∧ ∀ j, j < m → (∃ v : Int, W.cell? ⟨b, j, none⟩ = some (.int .u8 v)) → ∃ v : Int, W'.cell? ⟨b, j, none⟩ = some (.int .u8 v)
theorem keepB_refl (Bs b m : Nat) (W : World) : KeepB Bs b m W W := ⟨fun _ h => h, fun _ _ h => h⟩
theorem keepB_t {Bs b m : Nat} {A B C : World} (h : KeepB Bs b m A B) (k : KeepB Bs b m B C) : KeepB Bs b m A C := ⟨fun v hv => k.1 v (h.1 v hv), fun j hj hv => k.2 j hj (h.2 j hj hv)⟩
theorem keepB_b {Bs b m : Nat} {w : World} (W : World) (l : Nat) (o o' : Obj) (_ : w.heap.size ≤ l) (h : W.heap[l]? = some o) (hc : o.isCells = false) (_ : o.isWalk = false) : KeepB Bs b m W (W.putObj l o') := by
  have key : ∀ (p : Addr) v, W.cell? p = some v → (W.putObj l o').cell? p = some v := fun p v hv => by
    have hne : p.block ≠ l := by
      rintro rfl
      unfold World.cell? at hv
      rw [h] at hv
      cases o <;> simp [Obj.isCells] at hc hv
    rw [World.cell?_of_block (World.putObj_heap_other hne)]
    exact hv
  exact ⟨fun v hv => key _ v hv, fun j _ ⟨v, hv⟩ => ⟨v, key _ _ hv⟩⟩

/-- an index below m, and whatever octet stands there -/
abbrev BackX (m : Nat) := { i : Nat // i < m } × Int
def backEnc (m : Nat) (x : BackX m) : Array Value := #[.int .i64 (x.1.1 : Int), .int .u8 x.2]

set_option maxRecDepth 100000 in
set_option maxHeartbeats 2000000 in
theorem back1_in (F : Fence) (n : Nat) (hf : F.fn 43) (hro : F.round = none) (hn : 1 ≤ n) (l Bs b m : Nat) (hm : m ≤ 8) (J Jx : List (BackX m) → World → Prop)
    (hY : ∀ pre x W, J pre W → pre.length < m → YieldAt F (n - 1) Tryd.prog l (backEnc m x) W fun e W' =>
      (e = .returned (.bool true) ∧ J (pre ++ [x]) W' ∧ KeepB Bs b m W W') ∨ (e = .returned (.bool false) ∧ Jx (pre ++ [x]) W'))
    (W : World) (hBs : W.cell? ⟨Bs, 0, none⟩ = some (.slice (some ⟨b, 0, none⟩) m m)) (hc : ∀ j, j < m → ∃ v : Int, W.cell? ⟨b, j, none⟩ = some (.int .u8 v)) (h0 : J [] W) :
    CallsIn F n Tryd.prog 43 #[.func (.yield l) #[] #[], .pointer (some ⟨Bs, 0, none⟩)] W fun e W' => (∃ v, e = .returned v) ∧
      ((∃ ys : List (BackX m), ys.map (·.1.1) = (List.range m).map (fun j => m - 1 - j) ∧ J ys W') ∨ (∃ pre, True ∧ Jx pre W')) := by
  refine callsIn_of_wp Tryd.func43 rfl hf ?_ hro
  simp only [Tryd.ntmps43, List.size_toArray, List.length_cons, List.length_nil, Nat.reduceAdd, Nat.reduceSub, Array.replicate_succ, Array.replicate_zero, List.push_toArray, List.append_toArray, List.nil_append, List.cons_append]
  gi_wp2
  gi_loopw [3] (fun i wr => ∃ (k : Nat) (pre : List (BackX m)), k ≤ m ∧ i = .int .i64 ((m : Int) - 1 - k) ∧ pre.length = k ∧ pre.map (·.1.1) = (List.range k).map (fun j => m - 1 - j) ∧ J pre wr ∧ KeepB Bs b m W wr)
    (fun i _ => (intOf i + 1).toNat)
  case atStart => exact ⟨0, [], Nat.zero_le _, by simp, rfl, rfl, h0, keepB_refl _ _ _ _⟩
  case round =>
    obtain ⟨k, pre, hk, rfl, hpl, hpm, hJs, hkp⟩ := hrel
    have HP := Lib.hid hpm
    have HL := Lib.hid hpl
    clear hpm hpl
    have hB' := hkp.1 _ hBs
    by_cases hlt : k < m
    · obtain ⟨v, hv⟩ := hkp.2 (m - 1 - k) (by omega) (hc (m - 1 - k) (by omega))
      obtain ⟨fn, tmps, assign, body, hy, hR⟩ := hY pre (⟨m - 1 - k, by omega⟩, v) wr hJs (by rw [HL.out]; exact hlt)
      have hcast : ((m - 1 - k : Nat) : Int) = (m : Int) - 1 - k := by omega
      simp only [backEnc, hcast] at hy
      clear hcast
      gi_wp2
      refine hR.mono ?_
      rintro e W3 (⟨rfl, hJ3, hk3⟩ | ⟨rfl, hJx3⟩)
      · have hkp3 := keepB_t hkp hk3
        gi_wp2
        go_roundw
        case rel =>
          refine ⟨k + 1, _, by omega, by congr 1; omega, ?_, ?_, hJ3, hkp3⟩
          · rw [List.length_append, HL.out]
            rfl
          · rw [List.map_append, HP.out, List.range_succ, List.map_append]
            rfl
        case measure => simp [intOf]; omega
      · gi_wp2
        refine bodyPost_ret (results_none rfl _ _ _) rfl ?_
        exact ⟨⟨_, rfl⟩, .inr ⟨_, trivial, hJx3⟩⟩
    · obtain rfl : k = m := by omega
      gi_wp2
      go_end0
      exact ⟨⟨_, rfl⟩, .inl ⟨pre, HP.out, hJs⟩⟩

theorem back_stops (F : Fence) (n : Nat) (hf : F.fn 43) (hro : F.round = none) (hn : 1 ≤ n) (Bs b m : Nat) (hm : m ≤ 8) (w : World) (hbl : b < w.heap.size) (hBl : Bs < w.heap.size)
    (hBs : w.cell? ⟨Bs, 0, none⟩ = some (.slice (some ⟨b, 0, none⟩) m m)) (hc : ∀ j, j < m → ∃ v : Int, w.cell? ⟨b, j, none⟩ = some (.int .u8 v)) :
    SeqStopsK F n Tryd.prog 43 #[.pointer (some ⟨Bs, 0, none⟩)] (backEnc m) (KeepB Bs b m) (fun ys => ys.map (·.1.1) = (List.range m).map (fun j => m - 1 - j)) (fun _ => True) m w :=
  fun l J Jx W hW _ _ hY h0 => back1_in F n hf hro hn l Bs b m hm J Jx hY W ((hW.cell (p := ⟨Bs, 0, none⟩) hBl).trans hBs) (fun j hj => by
    obtain ⟨v, hv⟩ := hc j hj
    exact ⟨v, (hW.cell (p := ⟨b, j, none⟩) hbl).trans hv⟩) h0

set_option maxRecDepth 100000 in
set_option maxHeartbeats 1000000 in
theorem backward_in (F : Fence) (n : Nat) (hf : F.fn 39) (hro : F.round = none) (a : Option Addr) (len cap : Nat) (w : World) :
    CallsIn F n Tryd.prog 39 #[.slice a len cap] w fun e w' => e = .returned (.func (.func 43) #[] #[.pointer (some ⟨w.heap.size, 0, none⟩)]) ∧ w' = w.alloc (.cells #[.slice a len cap] 28) := by
  refine callsIn_of_wp Tryd.func39 rfl hf ?_ hro
  simp only [Tryd.ntmps39, List.size_toArray, List.length_cons, List.length_nil, Nat.reduceAdd, Nat.reduceSub, Array.replicate_succ, Array.replicate_zero, List.push_toArray, List.append_toArray, List.nil_append, List.cons_append]
  gi_wp2
  go_ret
  exact ⟨rfl, rfl⟩

/-- octet number i of n, from the lowest on -/
def bt (n : Int) (i : Nat) : UInt8 := UInt8.ofNat ((n / (256 : Int) ^ i) % 256).toNat
/-- n's lowest m octets, the highest first -/
def puts (n : Int) (m : Nat) : List UInt8 := (List.range m).map fun j => bt n (m - 1 - j)
/-- what stands behind some rounds: the number that is left, the octets -/
def putStep (s : Int × List UInt8) (i : Nat) : Int × List UInt8 := (s.1 / 256, s.2.set i (bt s.1 0))
def putState (n : Int) (m : Nat) (l : List Nat) : Int × List UInt8 := l.foldl putStep (n, List.replicate m 0)
theorem putState_snoc (n : Int) (m : Nat) (l : List Nat) (i : Nat) : putState n m (l ++ [i]) = putStep (putState n m l) i := by simp [putState]
theorem putState_len (n : Int) (m : Nat) (l : List Nat) : (putState n m l).2.length = m := by
  unfold putState
  suffices h : ∀ (s : Int × List UInt8), s.2.length = m → (l.foldl putStep s).2.length = m from h _ (by simp)
  induction l with
  | nil => exact fun s h => h
  | cons i l ih => exact fun s h => ih _ (by simp [putStep, h])
theorem putState_all (n : Int) (m k : Nat) (hk : k ≤ m) : (putState n m ((List.range k).map (fun j => m - 1 - j))).1 = n / (256 : Int) ^ k ∧ ∀ j, j < m → (putState n m ((List.range k).map (fun j => m - 1 - j))).2[j]? = some (if m - k ≤ j then bt n (m - 1 - j) else 0) := by
  induction k with
  | zero =>
    refine ⟨by simp [putState], fun j hj => ?_⟩
    simp [putState, hj]
    intro h
    omega
  | succ k ih =>
    obtain ⟨h1, h2⟩ := ih (by omega)
    rw [List.range_succ, List.map_append, List.map_cons, List.map_nil, putState_snoc]
    generalize putState n m ((List.range k).map (fun j => m - 1 - j)) = s at *
    constructor
    · rw [putStep, h1, Int.ediv_ediv_of_nonneg (by exact Int.pow_nonneg (by omega)), Int.pow_succ]
    · intro j hj
      simp only [putStep]
      rw [List.getElem?_set]
      have hl : m - 1 - k < s.2.length := by
        have := h2 (m - 1 - k) (by omega)
        exact (List.getElem?_eq_some_iff.1 this).1
      by_cases e : m - 1 - k = j
      · subst e
        rw [if_pos rfl, if_pos hl, if_pos (by omega)]
        congr 1
        rw [show m - 1 - (m - 1 - k) = k from by omega, h1, bt, bt]
        simp
      · rw [if_neg e, h2 j hj]
        by_cases e2 : m - k ≤ j
        · rw [if_pos e2, if_pos (by omega)]
        · rw [if_neg e2, if_neg (by omega)]
theorem putState_puts (n : Int) (m : Nat) : (putState n m ((List.range m).map (fun j => m - 1 - j))).2 = puts n m := by
  obtain ⟨_, h⟩ := putState_all n m m (Nat.le_refl _)
  apply List.ext_getElem?
  intro j
  by_cases hj : j < m
  · rw [h j hj, if_pos (by omega), puts, List.getElem?_map, List.getElem?_range hj]
    rfl
  · rw [List.getElem?_eq_none (by rw [putState_len]; omega), List.getElem?_eq_none (by simp [puts]; omega)]
theorem puts_length (n : Int) (m : Nat) : (puts n m).length = m := by simp [puts]

/-- block g is just the cells cs -/
def Blk (w : World) (g : Nat) (t : TypeId) (cs : Array Value) : Prop := w.heap[g]? = some (.cells cs t (0, 0))
theorem Blk.cell {w : World} {g : Nat} {t : TypeId} {cs : Array Value} (h : Blk w g t cs) (i : Nat) : w.cell? ⟨g, i, none⟩ = cs[i]? := by
  unfold Blk at h
  unfold World.cell?
  rw [h]
  simp
theorem Blk.frozen {w : World} {g : Nat} {t : TypeId} {cs : Array Value} (h : Blk w g t cs) (i : Nat) : w.frozen? ⟨g, i, none⟩ = false := by
  unfold Blk at h
  simp [World.frozen?, h]
theorem Blk.new (w : World) (t : TypeId) (cs : Array Value) : Blk (w.alloc (.cells cs t)) w.heap.size t cs := heap_alloc_new w _
theorem Blk.lt {w : World} {g : Nat} {t : TypeId} {cs : Array Value} (h : Blk w g t cs) : g < w.heap.size := (Array.getElem?_eq_some_iff.1 h).1
theorem Blk.alloc {w : World} {g : Nat} {t : TypeId} {cs : Array Value} (h : Blk w g t cs) (o : Obj) : Blk (w.alloc o) g t cs := (Below.heap_alloc w o g h.lt).trans h
theorem Blk.set_ {w : World} {g : Nat} {t : TypeId} {cs : Array Value} (h : Blk w g t cs) (i : Nat) (u : Value) : Blk (w.setCell ⟨g, i, none⟩ u) g t (cs.setIfInBounds i u) := by
  unfold Blk at h ⊢
  simp [World.setCell, Array.getElem?_modify, h]
theorem Blk.far {w : World} {g : Nat} {t : TypeId} {cs : Array Value} (h : Blk w g t cs) {p : Addr} (hp : g ≠ p.block) (u : Value) : Blk (w.setCell p u) g t cs := (Below.heap_setCell w p u g hp).trans h
theorem Blk.kept {W W' : World} {g : Nat} {t : TypeId} {cs : Array Value} {row : Option Nat} (h : Blk W g t cs) (hg : W.grownBy W' row) (hr : ∀ r, row = some r → ∃ o : Obj, W.heap[r]? = some o ∧ o.isCells = false) : Blk W' g t cs :=
  (hg.block g h.lt (fun e => by
    obtain ⟨o, ho, hc⟩ := hr g e.symm
    unfold Blk at h
    rw [h] at ho
    cases ho
    cases hc)).trans h
theorem Blk.own {w : World} {g : Nat} {t : TypeId} {base n : Nat} {cs : List Value} (h : Blk w g t cs.toArray) (hb : base ≤ g) (hn : cs.length = n) (hm : n ≤ maxLen) : w.ownsRow base t 1 (.slice (some ⟨g, 0, none⟩) n n) n cs :=
  ⟨by omega, .inr ⟨g, n, cs.toArray, rfl, hb, h, Nat.le_refl _, hm, by simp [hn], by simp [← hn]⟩⟩
theorem putState_bd (n : Int) (m : Nat) (l : List Nat) (h1 : -9223372036854775808 ≤ n) (h2 : n ≤ 9223372036854775807) : -9223372036854775808 ≤ (putState n m l).1 ∧ (putState n m l).1 ≤ 9223372036854775807 := by
  unfold putState
  suffices h : ∀ (s : Int × List UInt8), -9223372036854775808 ≤ s.1 → s.1 ≤ 9223372036854775807 → -9223372036854775808 ≤ (l.foldl putStep s).1 ∧ (l.foldl putStep s).1 ≤ 9223372036854775807 from h _ h1 h2
  induction l with
  | nil => exact fun s a b => ⟨a, b⟩
  | cons i l ih => exact fun s a b => ih _ (by simp only [putStep]; omega) (by simp only [putStep]; omega)

theorem bt_zero (n : Int) : ((bt n 0).toNat : Int) = n % 256 := by
  have h1 : 0 ≤ n % 256 := Int.emod_nonneg _ (by omega)
  have h2 : n % 256 < 256 := Int.emod_lt_of_pos _ (by omega)
  simp only [bt, Int.pow_zero, Int.ediv_one]
  rw [UInt8.toNat_ofNat']
  omega
theorem bytes_set (l : List UInt8) (i : Nat) (b : UInt8) : bytes (l.set i b) = (bytes l).set i (.int .u8 (b.toNat : Int)) := by
  simp [bytes, List.map_set]
theorem info5 : (Tryd.prog.info? 5).map (fun i => (i.zero, i.size, i.bytes)) = some (some (.int .u8 0), 1, 1) := by kernel_rfl
theorem zeros_eq (m : Nat) : madeCells (Value.int .u8 0).cells m = (bytes (List.replicate m 0)).toArray := by
  apply Array.toList_inj.1
  show (madeCells #[Value.int .u8 0] m).toList = _
  rw [toList_madeCells_one]
  simp [bytes]
theorem mk_bytes (m : Nat) (hm : m ≤ 140737488355328) (u : World) : (Instr.makeSlice 28 (.int .i64 (m : Int)) (.int .i64 (m : Int))).run Tryd.prog u = .ok (.slice (some ⟨u.heap.size, 0, none⟩) m m) (u.alloc (.cells (bytes (List.replicate m 0)).toArray 5)) := by
  obtain ⟨i0, hi0, hz0, hz1, hz2⟩ := info_parts info5
  have h := run_make (P := Tryd.prog) u 28 5 i0 _ Tryd.underlying28 hi0 hz0 .i64 .i64 m m (by omega) (by omega) (by rw [hz2]; omega) (by omega)
  rw [hz1, Int.toNat_natCast, Nat.mul_one, zeros_eq] at h
  exact h

set_option maxRecDepth 100000 in
set_option maxHeartbeats 2000000 in
theorem put_in (F : Fence) (n : Nat) (h3 : F.fn 30) (h5 : F.fn 39) (h6 : F.fn 43) (hro : F.round = none) (hn : 3 ≤ n) (x size : Int) (m : Nat) (hm : m ≤ 8) (hs : size = (m : Int)) (w : World) (hx1 : -9223372036854775808 ≤ x) (hx2 : x ≤ 9223372036854775807) :
    CallsIn F n Tryd.prog 30 #[.int .i64 x, .int .i64 size] w fun e W' => ∃ v, e = .returned v ∧ W'.ownsRow w.heap.size 5 1 v m (bytes (puts x m)) ∧ Ext w W' := by
  subst hs
  have h1 : 1 ≤ n := by omega
  have hmk := mk_bytes m (by omega)
  refine callsIn_of_wp_marks Tryd.func30 rfl h3 ?_ hro
  simp only [Tryd.ntmps30, List.size_toArray, List.length_cons, List.length_nil, Nat.reduceAdd, Nat.reduceSub, Array.replicate_succ, Array.replicate_zero, List.push_toArray, List.append_toArray, List.nil_append, List.cons_append]
  gi_wp2_with (gi_at_call 39; refine (backward_in F (n - 1) h5 hro _ _ _ _).mono ?_; rintro e w' ⟨rfl, rfl⟩)
  have B0 : Blk ((((w.alloc (Obj.cells #[Value.int IntKind.i64 x] 3)).alloc (Obj.cells (bytes (List.replicate m 0)).toArray 5)).alloc (Obj.cells #[Value.slice (some { block := w.heap.size + 1, off := 0 }) m m] 28)).alloc (Obj.cells #[Value.slice (some { block := w.heap.size + 1, off := 0 }) m m] 28)) w.heap.size 3 #[.int .i64 x] := (((Blk.new w _ _).alloc _).alloc _).alloc _
  have B1 : Blk ((((w.alloc (Obj.cells #[Value.int IntKind.i64 x] 3)).alloc (Obj.cells (bytes (List.replicate m 0)).toArray 5)).alloc (Obj.cells #[Value.slice (some { block := w.heap.size + 1, off := 0 }) m m] 28)).alloc (Obj.cells #[Value.slice (some { block := w.heap.size + 1, off := 0 }) m m] 28)) (w.heap.size + 1) 5 (bytes (List.replicate m 0)).toArray := by
    have := ((Blk.new (w.alloc (Obj.cells #[Value.int IntKind.i64 x] 3)) 5 (bytes (List.replicate m 0)).toArray).alloc (Obj.cells #[Value.slice (some { block := w.heap.size + 1, off := 0 }) m m] 28)).alloc (Obj.cells #[Value.slice (some { block := w.heap.size + 1, off := 0 }) m m] 28)
    rwa [World.size_alloc] at this
  have B2 : Blk ((((w.alloc (Obj.cells #[Value.int IntKind.i64 x] 3)).alloc (Obj.cells (bytes (List.replicate m 0)).toArray 5)).alloc (Obj.cells #[Value.slice (some { block := w.heap.size + 1, off := 0 }) m m] 28)).alloc (Obj.cells #[Value.slice (some { block := w.heap.size + 1, off := 0 }) m m] 28)) (w.heap.size + 1 + 1) 28 #[Value.slice (some { block := w.heap.size + 1, off := 0 }) m m] := by
    have := (Blk.new ((w.alloc (Obj.cells #[Value.int IntKind.i64 x] 3)).alloc (Obj.cells (bytes (List.replicate m 0)).toArray 5)) 28 #[Value.slice (some { block := w.heap.size + 1, off := 0 }) m m]).alloc (Obj.cells #[Value.slice (some { block := w.heap.size + 1, off := 0 }) m m] 28)
    rwa [World.size_alloc, World.size_alloc] at this
  have B3 : Blk ((((w.alloc (Obj.cells #[Value.int IntKind.i64 x] 3)).alloc (Obj.cells (bytes (List.replicate m 0)).toArray 5)).alloc (Obj.cells #[Value.slice (some { block := w.heap.size + 1, off := 0 }) m m] 28)).alloc (Obj.cells #[Value.slice (some { block := w.heap.size + 1, off := 0 }) m m] 28)) (w.heap.size + 1 + 1 + 1) 28 #[Value.slice (some { block := w.heap.size + 1, off := 0 }) m m] := by
    have := Blk.new (((w.alloc (Obj.cells #[Value.int IntKind.i64 x] 3)).alloc (Obj.cells (bytes (List.replicate m 0)).toArray 5)).alloc (Obj.cells #[Value.slice (some { block := w.heap.size + 1, off := 0 }) m m] 28)) 28 #[Value.slice (some { block := w.heap.size + 1, off := 0 }) m m]
    rwa [World.size_alloc, World.size_alloc, World.size_alloc] at this
  have hB : Below w.heap.size w ((((w.alloc (Obj.cells #[Value.int IntKind.i64 x] 3)).alloc (Obj.cells (bytes (List.replicate m 0)).toArray 5)).alloc (Obj.cells #[Value.slice (some { block := w.heap.size + 1, off := 0 }) m m] 28)).alloc (Obj.cells #[Value.slice (some { block := w.heap.size + 1, off := 0 }) m m] 28)) :=
    (((Ext.refl w).alloc _).alloc _).alloc _ |>.alloc _
  generalize hW0 : ((((w.alloc (Obj.cells #[Value.int IntKind.i64 x] 3)).alloc (Obj.cells (bytes (List.replicate m 0)).toArray 5)).alloc (Obj.cells #[Value.slice (some { block := w.heap.size + 1, off := 0 }) m m] 28)).alloc (Obj.cells #[Value.slice (some { block := w.heap.size + 1, off := 0 }) m m] 28)) = W0 at *
  have hz0 : W0.heap.size = w.heap.size + 1 + 1 + 1 + 1 := by rw [← hW0]; simp
  clear hmk
  refine wpIn_rangeFunc_ownF hro h1 (gf := 43) (lb := #[.pointer (some ⟨w.heap.size + 1 + 1 + 1, 0, none⟩)]) rfl h6 (enters_of Tryd.func43 (by kernel_rfl) rfl)
    (back_stops F (n - 1) h6 hro (by omega) (w.heap.size + 1 + 1 + 1) (w.heap.size + 1) m hm W0 (by omega) (by omega) (B3.cell 0) (fun j hj => ⟨0, by rw [B1.cell j]; simp [bytes, hj]⟩)) keepB_t keepB_b (Below.refl _ _) (fun _ => rfl)
    (fun pre W => (Blk W w.heap.size 3 #[.int .i64 (putState x m (pre.map (·.1.1))).1] ∧ Blk W (w.heap.size + 1) 5 (bytes (putState x m (pre.map (·.1.1))).2).toArray ∧ Blk W (w.heap.size + 1 + 1) 28 #[Value.slice (some { block := w.heap.size + 1, off := 0 }) m m]) ∧ Below w.heap.size w W)
    (fun _ _ _ => False)
    (OwnFrom.and (Own.from (fun s A B row hs hg hr => ⟨hs.1.kept hg hr, hs.2.1.kept hg hr, hs.2.2.kept hg hr⟩) _) (ownFrom_below (Nat.le_refl _) (by omega)))
    (fun _ _ _ _ _ hs _ _ => hs)
    ⟨⟨B0, B1, B2⟩, hB⟩
    (fun y => { tmps := #[Value.int IntKind.i64 x, Value.int IntKind.i64 ↑m, Value.pointer (some { block := w.heap.size, off := 0 }),
          undef, Value.slice none 0 0, Value.pointer (some { block := w.heap.size + 1 + 1, off := 0 }), Value.int IntKind.i64 (y.1.1 : Int),
          Value.int IntKind.i64 ↑m, Value.int IntKind.i64 ↑m, Value.int IntKind.i64 ↑m, Value.int IntKind.i64 ↑m,
          Value.slice (some { block := w.heap.size + 1, off := 0 }) m m,
          Value.slice (some { block := w.heap.size + 1, off := 0 }) m m,
          Value.func (Fn.func 43) #[] #[Value.pointer (some { block := w.heap.size + 1 + 1 + 1, off := 0 })], Value.int IntKind.i64 (y.1.1 : Int),
          Value.int IntKind.u8 y.2, undef, undef, undef, undef, undef, undef, undef, undef], defers := [] }) ?assign ?body ?done ?stop
  case assign =>
    intro l y W K hK
    simp only [backEnc]
    gi_wp2
    exact hK
  case body =>
    rintro l pre ⟨⟨i, hi⟩, y⟩ W ⟨⟨C0, C1, C2⟩, hBW⟩ _
    have hbd := putState_bd x m (pre.map (·.1.1)) hx1 hx2
    have hsl := putState_len x m (pre.map (·.1.1))
    generalize hst : putState x m (pre.map (·.1.1)) = st at *
    have c0 : W.cell? ⟨w.heap.size, 0, none⟩ = some (.int .i64 st.1) := C0.cell 0
    have f0 := C0.frozen 0
    have c2 : W.cell? ⟨w.heap.size + 1 + 1, 0, none⟩ = some (Value.slice (some { block := w.heap.size + 1, off := 0 }) m m) := C2.cell 0
    obtain ⟨u1, c1⟩ : ∃ u, W.cell? ⟨w.heap.size + 1, i, none⟩ = some u := ⟨_, by rw [C1.cell i]; simp only [List.getElem?_toArray, bytes, List.getElem?_map]; rw [List.getElem?_eq_getElem (by omega)]; rfl⟩
    have f1 := C1.frozen i
    have HS := Lib.hid hst
    have HZ := Lib.hid hsl
    clear hst hsl
    gi_wp2
    have hbt : ((bt st.1 0).toNat : Int) = st.1 % 256 := bt_zero _
    refine ⟨(KeepsOthers.setCell W _ _).trans (KeepsOthers.setCell _ _ _), ⟨fun v hv => ?_, fun j hj ⟨v, hv⟩ => ?_⟩, ⟨?_, ?_, ?_⟩, ?_⟩
    · rw [World.cell?_setCell_other _ _ _ _ (by simp), World.cell?_setCell_other _ _ _ _ (by simp)]
      exact hv
    · rw [World.cell?_setCell_other _ _ _ _ (by simp)]
      by_cases e : i = j
      · subst e
        exact ⟨_, World.cell?_setCell_same _ _ _ c1⟩
      · exact ⟨v, by rw [World.cell?_setCell_other _ _ _ _ (by simp)]; exact hv⟩
    · rw [List.map_append, List.map_cons, List.map_nil, putState_snoc, HS.out]
      exact (C0.far (p := ⟨w.heap.size + 1, i, none⟩) (by simp) _).set_ 0 _
    · rw [List.map_append, List.map_cons, List.map_nil, putState_snoc, HS.out]
      have h := (C1.set_ i (.int .u8 (st.1 % 256))).far (p := ⟨w.heap.size, 0, none⟩) (by simp) (.int .i64 (st.1 / 256))
      have e : (bytes st.2).toArray.setIfInBounds i (.int .u8 (st.1 % 256)) = (bytes (putStep st i).2).toArray := by
        rw [List.setIfInBounds_toArray, putStep, bytes_set, hbt]
      rw [e] at h
      exact h
    · exact (C2.far (p := ⟨w.heap.size + 1, i, none⟩) (by simp) _).far (p := ⟨w.heap.size, 0, none⟩) (by simp; omega) _
    · exact (hBW.setCell (p := ⟨w.heap.size + 1, i, none⟩) (by simp) _).setCell (p := ⟨w.heap.size, 0, none⟩) (by simp) _
  case done =>
    rintro D ys W hD hys ⟨⟨C0, C1, C2⟩, hBW⟩ hK
    rw [hys, putState_puts] at C1
    have c2 : W.cell? ⟨w.heap.size + 1 + 1, 0, none⟩ = some (Value.slice (some { block := w.heap.size + 1, off := 0 }) m m) := C2.cell 0
    clear hys C0
    gi_wp2
    refine ⟨by simp, .inl ⟨_, _, rfl, run_takeDeferred hK, ?_⟩⟩
    have hne : w.heap.size + 1 ≠ D := by omega
    have C1' : Blk (W.putObj D (.deferred none)) (w.heap.size + 1) 5 (bytes (puts x m)).toArray := (World.putObj_heap_other hne).trans C1
    exact ⟨_, results_tmp rfl _ _ _, _, rfl, C1'.own (by omega) (by rw [bytes_length, puts_length]) (by simp only [maxLen]; omega), Below.trans hBW (belowK_b (w := w) (Nat.le_refl _) W D _ _ (by omega) hK rfl rfl)⟩
  case stop =>
    rintro D c pre W _ _ h _
    exact h.elim

/-- octets.Put, for sizes from 0 to 8 -/
theorem put_any (x size : Int) (m : Nat) (hm : m ≤ 8) (hs : size = (m : Int)) (w : World) (hx1 : -9223372036854775808 ≤ x) (hx2 : x ≤ 9223372036854775807) :
    Calls Tryd.prog 30 #[.int .i64 x, .int .i64 size] w fun e W' => ∃ v, e = .returned v ∧ W'.ownsRow w.heap.size 5 1 v m (bytes (puts x m)) ∧ Ext w W' :=
  (callsIn_wide (n := 3)).1 (put_in Fence.wide 3 trivial trivial trivial rfl (Nat.le_refl _) x size m hm hs w hx1 hx2)
end Go.Proofs.YtpbbjmfhcgcldaaDoor
