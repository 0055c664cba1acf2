/- record.Check. -/
import Derived.Test.YtmbnmggpnbapbaaMay
namespace Go.Proofs.Ytmbnmggpnbapbaa
open Go.RowKit

/-- may a record be: 0, 9 or 23 -/
def recE (x : Rec) : Int := if x.kind < 1 ∨ 4 < x.kind then 23 else if mayB x = true then 0 else 9
set_option maxHeartbeats 1000000 in
theorem check_any (w : World) (x : Rec) (hr : Rd w 0 w.heap.size x.oA (prps x.own)) (hx : x.wf) :
    Calls Try.prog 11 #[.agg x.cells.toArray] w fun e w' => e = .returned (.int .i64 (recE x)) ∧ Ext w w' := by
  have hmay : x.kind = 1 ∨ x.kind = 2 ∨ x.kind = 3 ∨ x.kind = 4 → ∀ w1, Ext w w1 → Calls Try.prog 16 #[.agg x.cells.toArray] w1 fun e w' => e = .returned (.bool (mayB x)) ∧ Ext w1 w' := fun h w1 e1 => by
    rcases h with h | h | h | h
    · exact may1_any w1 x (Rd.at hr e1 (Nat.le_refl _)) hx h
    · exact may2_any w1 x hx h
    · exact may3_any w1 x hx h
    · exact may4_any w1 x hx h
  have HM := Lib.hid hmay
  have h10 := hx.kind
  clear hmay
  have hv : Hid (recE x = if x.kind < 1 ∨ 4 < x.kind then 23 else if mayB x = true then 0 else 9) := Lib.hid rfl
  have hcase : x.kind < 1 ∨ (1 ≤ x.kind ∧ 4 < x.kind) ∨ (1 ≤ x.kind ∧ x.kind ≤ 4) := by omega
  obtain ⟨k, n, f, g, oA, on, oc, own, i, c, d, s0, s1, s2, s3⟩ := x
  simp only at h10 hcase hr hv
  clear hx
  generalize recE _ = y at *
  generalize mayB _ = mb at *
  have hk4 : Hid ((1 ≤ k ∧ k ≤ 4) → k = 1 ∨ k = 2 ∨ k = 3 ∨ k = 4) := Lib.hid (by omega)
  simp only [Rec.cells] at HM ⊢
  rcases hcase with a0 | ⟨a0, a1⟩ | ⟨a0, a1⟩
  all_goals
    go_enter Try.func11, Try.ntmps11
    go_wp2_with (go_at_call 16; refine (HM.out (hk4.out ⟨a0, a1⟩) _ (by (repeat (first | exact Below.refl _ _ | exact Ext.refl _ | assumption | refine Below.drew ?_ | refine below_drewN ?_ _ | refine below_alloc ?_ (by first | exact Nat.le_refl _ | assumption | (simp; done) | omega | (simp; omega)) _ | refine below_ext ?_ (by assumption) (by first | exact Nat.le_refl _ | assumption | (simp; done) | omega | (simp; omega)) | refine Ext.drew ?_ | refine Ext.drewN ?_ _ | refine Ext.alloc ?_ _ | refine Ext.setCell ?_ (by first | assumption | (simp; done) | (simp; omega)) _ | refine Below.setCell ?_ (by first | assumption | (simp; done) | (simp; omega)) _ | refine Ext.trans ?_ (by assumption))))).mono ?_; rintro e w3 ⟨rfl, e3⟩)
    all_goals (go_ret; refine ⟨retI ?_, by (repeat (first | exact Below.refl _ _ | exact Ext.refl _ | assumption | refine Below.drew ?_ | refine below_drewN ?_ _ | refine below_alloc ?_ (by first | exact Nat.le_refl _ | assumption | (simp; done) | omega | (simp; omega)) _ | refine below_ext ?_ (by assumption) (by first | exact Nat.le_refl _ | assumption | (simp; done) | omega | (simp; omega)) | refine Ext.drew ?_ | refine Ext.drewN ?_ _ | refine Ext.alloc ?_ _ | refine Ext.setCell ?_ (by first | assumption | (simp; done) | (simp; omega)) _ | refine Below.setCell ?_ (by first | assumption | (simp; done) | (simp; omega)) _ | refine Ext.trans ?_ (by assumption)))⟩; rw [hv.out]; (first | (simp [*]; done) | (simp [*]; omega) | (rw [if_neg (by omega)]; cases mb <;> simp_all; done) | trace_state))
end Go.Proofs.Ytmbnmggpnbapbaa
