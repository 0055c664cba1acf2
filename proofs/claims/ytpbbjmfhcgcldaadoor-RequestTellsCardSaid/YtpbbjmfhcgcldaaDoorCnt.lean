/- count.Check, the reference's Amounts: are all amounts? -/
import Derived.Test.YtpbbjmfhcgcldaaDoorFld
namespace Go.Proofs.YtpbbjmfhcgcldaaDoor
open Go.RowKit
set_option linter.unusedVariables false

def oddI (z : Int) : Bool := decide (z < 0) || decide (1099511627776 < z)
theorem oddI_no {z : Int} (h : oddI z = false) : 0 ≤ z ∧ z ≤ 1099511627776 := by
  simp only [oddI, Bool.or_eq_false_iff, decide_eq_false_iff_not] at h
  omega
theorem oddI_of {z : Int} (h0 : 0 ≤ z) (h1 : z ≤ 1099511627776) : oddI z = false := by
  simp only [oddI, Bool.or_eq_false_iff, decide_eq_false_iff_not]
  omega
set_option maxRecDepth 100000 in
set_option maxHeartbeats 400000 in
theorem oddi_any (z : Int) (w : World) : Calls Tryd.prog 29 #[.int .i64 z] w fun e w' => e = .returned (.bool (oddI z)) ∧ Ext w w' := by
  have h : Hid (oddI z = (decide (z < 0) || decide (1099511627776 < z))) := Lib.hid rfl
  by_cases h0 : z < 0
  · go_enter Tryd.func29, Tryd.ntmps29
    go_wp2_with fail
    go_ret
    exact ⟨by rw [h.out, decide_eq_true h0]; rfl, Ext.refl _⟩
  · have h1 : 0 ≤ z := by omega
    go_enter Tryd.func29, Tryd.ntmps29
    go_wp2_with fail
    go_ret
    exact ⟨by rw [h.out, decide_eq_false (show ¬ z < 0 by omega)]; rfl, Ext.refl _⟩
/-- the first odd one, or -1 -/
def IdxI (l : List Int) (w : World) (e : Ending) (w' : World) : Prop :=
  ∃ r : Int, e = .returned (.int .i64 r) ∧ l.any oddI = decide (0 ≤ r) ∧ -1 ≤ r ∧ Ext w w'
set_option maxRecDepth 100000 in
set_option maxHeartbeats 400000 in
theorem idxi_any (w : World) (A : Option Addr) (n c lo hi : Nat) (l : List Int) (hn : n = l.length) (hm : n ≤ 9223372036854775807) (hr : Rd w lo hi A (ints l)) (hh : hi ≤ w.heap.size) :
    Calls Tryd.prog 38 #[.slice A n c, .func (.func 29) #[] #[]] w (IdxI l w) := by
  have Hn := Lib.hid hn
  clear hn
  go_enter Tryd.func38, Tryd.ntmps38
  go_wp2_with fail
  go_loopw [8] (fun i wr => ∃ k : Nat, k ≤ n ∧ i = .int .i64 k ∧ (l.take k).any oddI = false ∧ Ext w wr) (fun i _ => n - (intOf i).toNat)
  case atStart => exact ⟨0, Nat.zero_le _, rfl, rfl, Ext.refl _⟩
  case round =>
    obtain ⟨k, hk, rfl, hno, e1⟩ := hrel
    have HK := Lib.hid hno
    clear hno
    by_cases hlt : k < n
    · obtain ⟨b1, o1, rfl, _, _, f0⟩ := rd_int (hr.ext e1 hh) (k := k) (by rw [← Hn.out]; omega)
      have hl : k < l.length := by rw [← Hn.out]; omega
      obtain ⟨y, hy⟩ : ∃ y, y = l[k]'hl := ⟨_, rfl⟩
      rw [← hy] at f0
      have HY := Lib.hid hy
      clear hy
      go_wp2_with fail
      refine (oddi_any y _).mono ?_
      rintro e w2 ⟨rfl, e2⟩
      cases ho : oddI y
      · go_wp2_with fail
        go_roundw
        case rel =>
          refine ⟨k + 1, by omega, by go_num, ?_, by (repeat (first | exact Below.refl _ _ | exact Ext.refl _ | assumption | refine Below.drew ?_ | refine below_drewN ?_ _ | refine below_alloc ?_ (by first | exact Nat.le_refl _ | assumption | (simp; done) | omega | (simp; omega)) _ | refine below_ext ?_ (by assumption) (by first | exact Nat.le_refl _ | assumption | (simp; done) | omega | (simp; omega)) | refine Ext.drew ?_ | refine Ext.drewN ?_ _ | refine Ext.alloc ?_ _ | refine Ext.setCell ?_ (by first | assumption | (simp; done) | (simp; omega)) _ | refine Below.setCell ?_ (by first | assumption | (simp; done) | (simp; omega)) _ | refine Ext.trans ?_ (by assumption)))⟩
          rw [List.take_succ_eq_append_getElem hl, List.any_append, HK.out, ← HY.out]
          simp [ho]
        case measure => simp [intOf]; omega
      · go_wp2_with fail
        go_ret
        refine ⟨k, rfl, ?_, by omega, by (repeat (first | exact Below.refl _ _ | exact Ext.refl _ | assumption | refine Below.drew ?_ | refine below_drewN ?_ _ | refine below_alloc ?_ (by first | exact Nat.le_refl _ | assumption | (simp; done) | omega | (simp; omega)) _ | refine below_ext ?_ (by assumption) (by first | exact Nat.le_refl _ | assumption | (simp; done) | omega | (simp; omega)) | refine Ext.drew ?_ | refine Ext.drewN ?_ _ | refine Ext.alloc ?_ _ | refine Ext.setCell ?_ (by first | assumption | (simp; done) | (simp; omega)) _ | refine Below.setCell ?_ (by first | assumption | (simp; done) | (simp; omega)) _ | refine Ext.trans ?_ (by assumption)))⟩
        have h1 : l.any oddI = true := List.any_eq_true.2 ⟨y, by rw [HY.out]; exact List.getElem_mem _, ho⟩
        rw [h1]
        simp
    · go_wp2_with fail
      go_ret
      obtain rfl : k = n := by omega
      have h1 := HK.out
      rw [List.take_of_length_le (by rw [← Hn.out]; exact Nat.le_refl _)] at h1
      exact ⟨-1, rfl, by rw [h1]; rfl, by omega, e1⟩
set_option maxRecDepth 100000 in
set_option maxHeartbeats 400000 in
theorem containsi_any (w : World) (A : Option Addr) (n c lo hi : Nat) (l : List Int) (hn : n = l.length) (hm : n ≤ 9223372036854775807) (hr : Rd w lo hi A (ints l)) (hh : hi ≤ w.heap.size) :
    Calls Tryd.prog 28 #[.slice A n c, .func (.func 29) #[] #[]] w fun e w' => e = .returned (.bool (l.any oddI)) ∧ Ext w w' := by
  have Hn := Lib.hid hn
  clear hn
  go_enter Tryd.func28, Tryd.ntmps28
  go_wp2_with fail
  refine (idxi_any w A n c lo hi l Hn.out hm hr hh).mono ?_
  rintro e w2 ⟨r, rfl, hany, hr1, e2⟩
  have HA := Lib.hid hany
  clear hany
  go_wp2_with fail
  go_ret
  exact ⟨by rw [HA.out]; rfl, e2⟩
def cntE (l : List Int) : Int := if l.any oddI then 4 else 0
set_option maxRecDepth 100000 in
set_option maxHeartbeats 400000 in
theorem count_any (w : World) (A : Option Addr) (n c lo hi : Nat) (l : List Int) (hn : n = l.length) (hm : n ≤ 9223372036854775807) (hr : Rd w lo hi A (ints l)) (hh : hi ≤ w.heap.size) :
    Calls Tryd.prog 20 #[.slice A n c] w fun e w' => e = .returned (.int .i64 (cntE l)) ∧ Ext w w' := by
  have H := Lib.hid (containsi_any w A n c lo hi l hn hm hr hh)
  have hv : Hid (cntE l = if l.any oddI then 4 else 0) := Lib.hid rfl
  generalize l.any oddI = b at *
  generalize cntE l = v at *
  clear hr hn
  go_enter Tryd.func20, Tryd.ntmps20
  go_wp2_with fail
  refine H.out.mono ?_
  rintro e w2 ⟨rfl, e2⟩
  cases b
  all_goals
    go_wp2_with fail
    go_ret
    exact ⟨by rw [hv.out]; rfl, e2⟩
set_option maxRecDepth 100000 in
set_option maxHeartbeats 400000 in
theorem amounts_any (w : World) (A : Option Addr) (n c lo hi : Nat) (l : List Int) (hn : n = l.length) (hm : n ≤ 9223372036854775807) (hr : Rd w lo hi A (ints l)) (hh : hi ≤ w.heap.size) :
    Calls Tryd.prog 10 #[.slice A n c] w fun e w' => e = .returned (.bool (!l.any oddI)) ∧ Ext w w' := by
  have Hn := Lib.hid hn
  clear hn
  go_enter Tryd.func10, Tryd.ntmps10
  go_wp2_with fail
  go_loopw [3] (fun i wr => ∃ k : Nat, k ≤ n ∧ i = .int .i64 k ∧ Hid ((l.take k).any oddI = false) ∧ Ext w wr) (fun i _ => n - (intOf i).toNat)
  case atStart => exact ⟨0, Nat.zero_le _, rfl, Lib.hid rfl, Ext.refl _⟩
  case round =>
    obtain ⟨k, hk, rfl, HK, e1⟩ := hrel
    by_cases hlt : k < n
    · obtain ⟨b1, o1, rfl, _, _, f0⟩ := rd_int (hr.ext e1 hh) (k := k) (by rw [← Hn.out]; omega)
      have hl : k < l.length := by rw [← Hn.out]; omega
      obtain ⟨y, hy⟩ : ∃ y, y = l[k]'hl := ⟨_, rfl⟩
      rw [← hy] at f0
      have HY := Lib.hid hy
      have hcase : (oddI y = true ∧ y < 0) ∨ (oddI y = true ∧ 0 ≤ y ∧ 1099511627776 < y) ∨ (oddI y = false ∧ 0 ≤ y ∧ y ≤ 1099511627776) := by
        simp only [oddI, Bool.or_eq_true, Bool.or_eq_false_iff, decide_eq_true_eq, decide_eq_false_iff_not]
        omega
      clear hy
      have bad : oddI y = true → l.any oddI = true := fun ho => List.any_eq_true.2 ⟨y, by rw [HY.out]; exact List.getElem_mem _, ho⟩
      have HBad := Lib.hid bad
      clear bad
      rcases hcase with ⟨ho, h0⟩ | ⟨ho, h0, h1⟩ | ⟨ho, h0, h1⟩
      · have HO := Lib.hid ho
        clear ho
        go_wp2_with fail
        go_ret
        exact ⟨by rw [HBad.out HO.out]; rfl, e1⟩
      · have HO := Lib.hid ho
        clear ho
        go_wp2_with fail
        go_ret
        exact ⟨by rw [HBad.out HO.out]; rfl, e1⟩
      · have HO := Lib.hid ho
        clear ho
        go_wp2_with fail
        go_roundw
        case rel =>
          refine ⟨k + 1, by omega, by go_num, Lib.hid ?_, by (repeat (first | exact Below.refl _ _ | exact Ext.refl _ | assumption | refine Below.drew ?_ | refine below_drewN ?_ _ | refine below_alloc ?_ (by first | exact Nat.le_refl _ | assumption | (simp; done) | omega | (simp; omega)) _ | refine below_ext ?_ (by assumption) (by first | exact Nat.le_refl _ | assumption | (simp; done) | omega | (simp; omega)) | refine Ext.drew ?_ | refine Ext.drewN ?_ _ | refine Ext.alloc ?_ _ | refine Ext.setCell ?_ (by first | assumption | (simp; done) | (simp; omega)) _ | refine Below.setCell ?_ (by first | assumption | (simp; done) | (simp; omega)) _ | refine Ext.trans ?_ (by assumption)))⟩
          rw [List.take_succ_eq_append_getElem hl, List.any_append, HK.out, ← HY.out]
          simp [HO.out]
        case measure => simp [intOf]; omega
    · go_wp2_with fail
      go_ret
      obtain rfl : k = n := by omega
      have h1 := HK.out
      rw [List.take_of_length_le (by rw [← Hn.out]; exact Nat.le_refl _)] at h1
      exact ⟨by rw [h1]; rfl, e1⟩
end Go.Proofs.YtpbbjmfhcgcldaaDoor
