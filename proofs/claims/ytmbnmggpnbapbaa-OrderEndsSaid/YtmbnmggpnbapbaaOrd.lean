/- order.after, order.Step. -/
import Derived.Test.YtmbnmggpnbapbaaChk
import Derived.Deep.DeepCutAuto
namespace Go.Proofs.Ytmbnmggpnbapbaa
open Go.RowKit

/-- the state behind a record, and may it follow? -/
def aftS (x : Rec) : Int := if x.kind = 1 ∨ x.kind = 2 ∨ x.kind = 3 then 1 else 2
def aftN (n : Int) (x : Rec) : Int := if x.kind = 1 then 0 else if x.kind = 2 then x.index + 1 else if x.kind = 3 then x.index + x.count else n
def aftB (s n : Int) (x : Rec) : Bool := if x.kind = 1 then s == 0 else if x.kind = 2 ∨ x.kind = 3 then s == 1 && decide (n ≤ x.index) else s == 1
set_option maxRecDepth 100000 in
set_option maxHeartbeats 2000000 in
theorem after_any (w : World) (s n : Int) (x : Rec) (h0 : 0 ≤ s ∧ s ≤ 2) (h1 : 0 ≤ n ∧ n ≤ 1024) (hx : x.wf) (hi : x.kind = 2 ∨ x.kind = 3 → 0 ≤ x.index ∧ x.index < 1024) (hc : x.kind = 3 → 1 ≤ x.count ∧ x.count ≤ 1024) :
    Calls Try.prog 12 #[.agg #[.int .i64 s, .int .i64 n], .agg x.cells.toArray] w fun e w' => e = .returned (.tuple #[.agg #[.int .i64 (aftS x), .int .i64 (aftN n x)], .bool (aftB s n x)]) ∧ Ext w w' := by
  obtain ⟨h5, h6⟩ := hx.index
  obtain ⟨h7, h8⟩ := hx.count
  obtain ⟨h9, h10⟩ := hx.kind
  obtain ⟨a0, a1⟩ := h0
  obtain ⟨a2, a3⟩ := h1
  have hS := Lib.hid (show aftS x = if x.kind = 1 ∨ x.kind = 2 ∨ x.kind = 3 then 1 else 2 from rfl)
  have hN := Lib.hid (show aftN n x = if x.kind = 1 then 0 else if x.kind = 2 then x.index + 1 else if x.kind = 3 then x.index + x.count else n from rfl)
  have hB := Lib.hid (show aftB s n x = if x.kind = 1 then s == 0 else if x.kind = 2 ∨ x.kind = 3 then s == 1 && decide (n ≤ x.index) else s == 1 from rfl)
  generalize aftS x = vS at *
  generalize aftN n x = vN at *
  generalize aftB s n x = vB at *
  clear hx
  obtain ⟨k, nm, f, g, oA, on, oc, own, i, c, d, s0, s1, s2, s3⟩ := x
  simp only [Rec.cells] at *
  by_cases k1 : k = 1
  · subst k1
    go_enter Try.func12, Try.ntmps12
    go_wp2_with fail
    go_region
    go_wp2_with fail
    refine bodyPost_ret (v := .tuple #[.agg #[.int .i64 1, .int .i64 0], .bool (s == 0)]) (by simp [results, Try.results12, go_sem]) rfl ⟨?_, by (repeat (first | exact Below.refl _ _ | exact Ext.refl _ | assumption | refine Below.drew ?_ | refine below_drewN ?_ _ | refine below_alloc ?_ (by first | exact Nat.le_refl _ | assumption | (simp; done) | omega | (simp; omega)) _ | refine below_ext ?_ (by assumption) (by first | exact Nat.le_refl _ | assumption | (simp; done) | omega | (simp; omega)) | refine Ext.drew ?_ | refine Ext.drewN ?_ _ | refine Ext.alloc ?_ _ | refine Ext.setCell ?_ (by first | assumption | (simp; done) | (simp; omega)) _ | refine Below.setCell ?_ (by first | assumption | (simp; done) | (simp; omega)) _ | refine Ext.trans ?_ (by assumption)))⟩
    rw [hS.out, hN.out, hB.out]
    rfl
  by_cases k2 : k = 2
  · subst k2
    obtain ⟨i0, i1⟩ := hi (by omega)
    have hcase : (s == 1) = false ∨ ((s == 1) = true ∧ decide (n ≤ i) = false) ∨ ((s == 1) = true ∧ decide (n ≤ i) = true) := by cases (s == 1) <;> cases decide (n ≤ i) <;> simp
    rcases hcase with q0 | ⟨q0, q1⟩ | ⟨q0, q1⟩
    all_goals
      go_enter Try.func12, Try.ntmps12
      go_wp2_with fail
      go_region
      go_wp2_with fail
      refine bodyPost_ret (v := .tuple #[.agg #[.int .i64 1, .int .i64 (i + 1)], .bool ((s == 1) && decide (n ≤ i))]) (by simp [results, Try.results12, go_sem, q0, *]) rfl ⟨?_, by (repeat (first | exact Below.refl _ _ | exact Ext.refl _ | assumption | refine Below.drew ?_ | refine below_drewN ?_ _ | refine below_alloc ?_ (by first | exact Nat.le_refl _ | assumption | (simp; done) | omega | (simp; omega)) _ | refine below_ext ?_ (by assumption) (by first | exact Nat.le_refl _ | assumption | (simp; done) | omega | (simp; omega)) | refine Ext.drew ?_ | refine Ext.drewN ?_ _ | refine Ext.alloc ?_ _ | refine Ext.setCell ?_ (by first | assumption | (simp; done) | (simp; omega)) _ | refine Below.setCell ?_ (by first | assumption | (simp; done) | (simp; omega)) _ | refine Ext.trans ?_ (by assumption)))⟩
      rw [hS.out, hN.out, hB.out]
      rfl
  by_cases k3 : k = 3
  · subst k3
    obtain ⟨i0, i1⟩ := hi (by omega)
    obtain ⟨c0, c1⟩ := hc rfl
    have hcase : (s == 1) = false ∨ ((s == 1) = true ∧ decide (n ≤ i) = false) ∨ ((s == 1) = true ∧ decide (n ≤ i) = true) := by cases (s == 1) <;> cases decide (n ≤ i) <;> simp
    rcases hcase with q0 | ⟨q0, q1⟩ | ⟨q0, q1⟩
    all_goals
      go_enter Try.func12, Try.ntmps12
      go_wp2_with fail
      go_region
      go_wp2_with fail
      refine bodyPost_ret (v := .tuple #[.agg #[.int .i64 1, .int .i64 (i + c)], .bool ((s == 1) && decide (n ≤ i))]) (by simp [results, Try.results12, go_sem, q0, *]) rfl ⟨?_, by (repeat (first | exact Below.refl _ _ | exact Ext.refl _ | assumption | refine Below.drew ?_ | refine below_drewN ?_ _ | refine below_alloc ?_ (by first | exact Nat.le_refl _ | assumption | (simp; done) | omega | (simp; omega)) _ | refine below_ext ?_ (by assumption) (by first | exact Nat.le_refl _ | assumption | (simp; done) | omega | (simp; omega)) | refine Ext.drew ?_ | refine Ext.drewN ?_ _ | refine Ext.alloc ?_ _ | refine Ext.setCell ?_ (by first | assumption | (simp; done) | (simp; omega)) _ | refine Below.setCell ?_ (by first | assumption | (simp; done) | (simp; omega)) _ | refine Ext.trans ?_ (by assumption)))⟩
      rw [hS.out, hN.out, hB.out]
      rfl
  · go_enter Try.func12, Try.ntmps12
    go_wp2_with fail
    go_region
    go_wp2_with fail
    refine bodyPost_ret (v := .tuple #[.agg #[.int .i64 2, .int .i64 n], .bool (s == 1)]) (by simp [results, Try.results12, go_sem]) rfl ⟨?_, by (repeat (first | exact Below.refl _ _ | exact Ext.refl _ | assumption | refine Below.drew ?_ | refine below_drewN ?_ _ | refine below_alloc ?_ (by first | exact Nat.le_refl _ | assumption | (simp; done) | omega | (simp; omega)) _ | refine below_ext ?_ (by assumption) (by first | exact Nat.le_refl _ | assumption | (simp; done) | omega | (simp; omega)) | refine Ext.drew ?_ | refine Ext.drewN ?_ _ | refine Ext.alloc ?_ _ | refine Ext.setCell ?_ (by first | assumption | (simp; done) | (simp; omega)) _ | refine Below.setCell ?_ (by first | assumption | (simp; done) | (simp; omega)) _ | refine Ext.trans ?_ (by assumption)))⟩
    rw [hS.out, hN.out, hB.out, if_neg (by omega), if_neg k1, if_neg k2, if_neg k3, if_neg k1, if_neg (by omega)]
end Go.Proofs.Ytmbnmggpnbapbaa
