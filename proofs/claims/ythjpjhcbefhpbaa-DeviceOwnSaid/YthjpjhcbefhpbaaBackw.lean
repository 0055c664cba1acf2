/- slices.Backward over writes: the iterator's contract. -/
import Derived.Test.YthjpjhcbefhpbaaFault
import Derived.RangeFuncNested
import Derived.RangeFuncBound
import Derived.RangeFuncCalls
import Derived.RangeFuncLeaves
import Derived.Shelf.Abstract
import Derived.Shelf.RegionOpen
import Derived.OwnWalkIn
import Derived.TacticsInMore
import Derived.LoopNIn
import Derived.LoopIn
namespace Go.Proofs.Ythjpjhcbefhpbaa
open Go.RowKit Go.Shelf
attribute [local go_sem] Oper.semAt_some
set_option linter.unusedSimpArgs false
set_option linter.unusedVariables false

abbrev Ix_ (m : Nat) := { i : Nat // i < m }
def wat (ws : List Wrt) (i : Nat) : Wrt := ws.getD i ⟨0, ⟨none, 0, 0, []⟩⟩
def bwEnc (ws : List Wrt) (m : Nat) (x : Ix_ m) : Array Value := #[.int .i64 (x.1 : Int), .agg (wat ws x.1).cells.toArray]
def downTo (m k : Nat) : List Nat := (List.range k).map fun j => m - 1 - j
set_option maxRecDepth 100000 in
set_option maxHeartbeats 2000000 in
theorem backw1_in (F : Fence) (n : Nat) (hf : F.fn 27) (hro : F.round = none) (hn : 1 ≤ n) (l Bs n0 m c : Nat) (A : Option Addr) (ws : List Wrt) (hm : m = ws.length) (hm63 : m ≤ 9223372036854775807) (J Jx : List (Ix_ m) → World → Prop)
    (hY : ∀ pre x W, J pre W → pre.length < m → YieldAt F (n - 1) Try.prog l (bwEnc ws m x) W fun e W' =>
      (e = .returned (.bool true) ∧ J (pre ++ [x]) W' ∧ Below n0 W W') ∨ (e = .returned (.bool false) ∧ Jx (pre ++ [x]) W'))
    (W : World) (hBl : Bs < n0) (hBs : W.cell? ⟨Bs, 0, none⟩ = some (.slice A m c)) (hr : Rd W 0 n0 A (ws.flatMap Wrt.cells)) (h0 : J [] W) :
    CallsIn F n Try.prog 27 #[.func (.yield l) #[] #[], .pointer (some ⟨Bs, 0, none⟩)] W fun e W' => (∃ v, e = .returned v) ∧
      ((∃ ys : List (Ix_ m), ys.map (·.1) = downTo m m ∧ J ys W') ∨ (∃ pre : List (Ix_ m), pre.map (·.1) = downTo m pre.length ∧ Jx pre W')) := by
  have HM := Lib.hid hm
  clear hm
  refine callsIn_of_wp Try.func27 rfl hf ?_ hro
  simp only [Try.ntmps27, List.size_toArray, List.length_cons, List.length_nil, Nat.reduceAdd, Nat.reduceSub, Array.replicate_succ, Array.replicate_zero, List.push_toArray, List.append_toArray, List.nil_append, List.cons_append]
  gi_wp2
  gi_loopw [3] (fun i wr => ∃ (k : Nat) (pre : List (Ix_ m)), k ≤ m ∧ i = .int .i64 ((m : Int) - 1 - k) ∧ pre.length = k ∧ pre.map (·.1) = downTo m k ∧ J pre wr ∧ Below n0 W wr)
    (fun i _ => (intOf i + 1).toNat)
  case atStart => exact ⟨0, [], Nat.zero_le _, by simp, rfl, rfl, h0, Below.refl _ _⟩
  case round =>
    obtain ⟨k, pre, hk, rfl, hpl, hpm, hJs, hkp⟩ := hrel
    have HP := Lib.hid hpm
    have HL := Lib.hid hpl
    clear hpm hpl
    have hB' : wr.cell? ⟨Bs, 0, none⟩ = some (.slice A m c) := (Below.cell (p := ⟨Bs, 0, none⟩) hkp hBl).trans hBs
    by_cases hlt : k < m
    · have hl : m - 1 - k < ws.length := by rw [← HM.out]; omega
      obtain ⟨q1, q2, hA, _, hq1, G0⟩ := rd_flat (size := 2) (fun _ => rfl) (by omega) hr hl
      subst hA
      have hw : wat ws (m - 1 - k) = ws[m - 1 - k] := by simp [wat, hl]
      rw [← hw] at G0
      obtain ⟨fn, tmps, assign, body, hy, hR⟩ := hY pre ⟨m - 1 - k, by omega⟩ wr hJs (by rw [HL.out]; exact hlt)
      have hcast : ((m - 1 - k : Nat) : Int) = (m : Int) - 1 - k := by omega
      have hcast2 : ((m : Int) - 1 - k).toNat = m - 1 - k := by omega
      simp only [bwEnc, hcast] at hy
      generalize wat ws (m - 1 - k) = y at *
      obtain ⟨pos, yA, yn, yc, yx⟩ := y
      simp only [Wrt.cells, Sl.val] at hy
      have g0 : wr.cell? ⟨q1, q2 + (m - 1 - k) * 2, none⟩ = some (.int .i64 pos) := (Below.cell (p := ⟨q1, q2 + (m - 1 - k) * 2, none⟩) hkp hq1).trans (G0 0 _ rfl)
      have g1 : wr.cell? ⟨q1, q2 + (m - 1 - k) * 2 + 1, none⟩ = some (.slice yA yn yc) := (Below.cell (p := ⟨q1, q2 + (m - 1 - k) * 2 + 1, none⟩) hkp hq1).trans (G0 1 _ rfl)
      have p0 : (0 : Int) ≤ (m : Int) - 1 - k := by omega
      have p1 : (m : Int) - 1 - k < m := by omega
      clear hcast G0 hw
      gi_wp2
      refine hR.mono ?_
      rintro e W3 (⟨rfl, hJ3, hk3⟩ | ⟨rfl, hJx3⟩)
      · have hkp3 := hkp.trans hk3
        gi_wp2
        go_roundw
        case rel =>
          refine ⟨k + 1, _, by omega, by congr 1; omega, ?_, ?_, hJ3, hkp3⟩
          · rw [List.length_append, HL.out]
            rfl
          · rw [List.map_append, HP.out, downTo, downTo, List.range_succ, List.map_append]
            rfl
        case measure => simp [intOf]; omega
      · gi_wp2
        refine bodyPost_ret (results_none rfl _ _ _) rfl ?_
        refine ⟨⟨_, rfl⟩, .inr ⟨_, ?_, hJx3⟩⟩
        rw [List.map_append, HP.out, List.length_append, HL.out, List.length_singleton, downTo, downTo, List.range_succ, List.map_append]
        rfl
    · obtain rfl : k = m := by omega
      gi_wp2
      go_end0
      exact ⟨⟨_, rfl⟩, .inl ⟨pre, HP.out, hJs⟩⟩
theorem backw_stops (F : Fence) (n : Nat) (hf : F.fn 27) (hro : F.round = none) (hn : 1 ≤ n) (Bs m c : Nat) (A : Option Addr) (ws : List Wrt) (hm : m = ws.length) (hm63 : m ≤ 9223372036854775807) (w : World) (hBl : Bs < w.heap.size)
    (hBs : w.cell? ⟨Bs, 0, none⟩ = some (.slice A m c)) (hr : Rd w 0 w.heap.size A (ws.flatMap Wrt.cells)) :
    SeqStopsK F n Try.prog 27 #[.pointer (some ⟨Bs, 0, none⟩)] (bwEnc ws m) (Below w.heap.size) (fun ys : List (Ix_ m) => ys.map (·.1) = downTo m m) (fun pre => pre.map (·.1) = downTo m pre.length) m w :=
  fun l J Jx W hW _ _ hY h0 => backw1_in F n hf hro hn l Bs w.heap.size m c A ws hm hm63 J Jx hY W hBl ((hW.cell (p := ⟨Bs, 0, none⟩) hBl).trans hBs) (hr.below hW (Nat.le_refl _)) h0
theorem backw_in (F : Fence) (n : Nat) (hf : F.fn 22) (hro : F.round = none) (a : Option Addr) (len cap : Nat) (w : World) :
    CallsIn F n Try.prog 22 #[.slice a len cap] w fun e w' => e = .returned (.func (.func 27) #[] #[.pointer (some ⟨w.heap.size, 0, none⟩)]) ∧ w' = w.alloc (.cells #[.slice a len cap] 27) := by
  refine callsIn_of_wp Try.func22 rfl hf ?_ hro
  simp only [Try.ntmps22, List.size_toArray, List.length_cons, List.length_nil, Nat.reduceAdd, Nat.reduceSub, Array.replicate_succ, Array.replicate_zero, List.push_toArray, List.append_toArray, List.nil_append, List.cons_append]
  gi_wp2
  go_ret
  exact ⟨rfl, rfl⟩
end Go.Proofs.Ythjpjhcbefhpbaa
