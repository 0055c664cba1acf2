/- The texts May, Chk, Row, RowArg, Opens, Flat in one file. -/
import Derived.Test.YtmecjjmlccdppaaGreatDoorM7
import Derived.Test.YtmecjjmlccdppaaGreatDoorM1
import Derived.ProofKit
import Derived.OpenShut
import Derived.JoinedCond
import Derived.SizedLaws
import Derived.Deep.Slices
import Derived.Deep.Fields
import Derived.ChangeSame
import Derived.Lib.SmallJoins
import Derived.Deep.CondSized
import Derived.SliceStrings
import Derived.Test.YtmecjjmlccdppaaGreatDoorM2
import Derived.IntWalk
import Derived.Deep.DeepCutAuto
/- record.may, record.Check. -/
namespace Go.Proofs.YtmecjjmlccdppaaGreatDoor
open Go.RowKit
set_option linter.unusedSimpArgs false
set_option linter.unusedVariables false

theorem bcell {W w1 : World} (hb : Ext W w1) : (∀ b o, b < W.heap.size → w1.cell? ⟨b, o, none⟩ = W.cell? ⟨b, o, none⟩) ∧ (∀ b o, b < W.heap.size → w1.frozen? ⟨b, o, none⟩ = W.frozen? ⟨b, o, none⟩) :=
  ⟨fun b o h => Below.cell (p := ⟨b, o, none⟩) hb h, fun b o h => Below.frozen (p := ⟨b, o, none⟩) hb h⟩
theorem retB {a b : Bool} (h : a = b) : Ending.returned (.bool a) = Ending.returned (.bool b) := by rw [h]
theorem retI {k : IntKind} {a b : Int} (h : a = b) : Ending.returned (.int k a) = Ending.returned (.int k b) := by rw [h]
structure Rec.wf (x : Rec) : Prop where
  frm : -9223372036854775808 ≤ x.frm ∧ x.frm ≤ 9223372036854775807
  guid : -9223372036854775808 ≤ x.guid ∧ x.guid ≤ 9223372036854775807
  index : -9223372036854775808 ≤ x.index ∧ x.index ≤ 9223372036854775807
  count : -9223372036854775808 ≤ x.count ∧ x.count ≤ 9223372036854775807
  kind : -9223372036854775808 ≤ x.kind ∧ x.kind ≤ 9223372036854775807
  name : x.name.size ≤ 9223372036854775807
  data : x.data.size ≤ 9223372036854775807
  own : x.on = x.own.length
  on : x.on ≤ 9223372036854775807
  props : ∀ p ∈ x.own, p.name.size ≤ 9223372036854775807 ∧ p.value.size ≤ 9223372036854775807
def sumZ (x : Rec) : Bool := x.s0 == 0 && x.s1 == 0 && x.s2 == 0 && x.s3 == 0
def mayB (x : Rec) : Bool :=
  if x.kind = 1 then nameB x.name && decide (0 ≤ x.frm) && decide (x.frm ≤ 1099511627776) && decide (1 ≤ x.guid) && decide (x.guid ≤ 1099511627776) && decide (prE x.own = 0) && x.index == 0 && x.count == 0 && x.data.toList == [] && sumZ x
  else if x.kind = 2 then decide (0 ≤ x.index) && decide (x.index < 1024) && decide (x.data.size = 16) && x.name.toList == [] && x.frm == 0 && x.guid == 0 && x.count == 0 && sumZ x && decide (x.on = 0)
  else if x.kind = 3 then decide (0 ≤ x.index) && decide (x.index < 1024) && decide (1 ≤ x.count) && decide (x.count ≤ 1024 - x.index) && x.name.toList == [] && x.frm == 0 && x.guid == 0 && x.data.toList == [] && sumZ x && decide (x.on = 0)
  else x.name.toList == [] && x.frm == 0 && x.guid == 0 && x.index == 0 && x.count == 0 && x.data.toList == [] && decide (x.on = 0)
set_option maxHeartbeats 1000000 in
theorem may1_any (w : World) (x : Rec) (hr : Rd w 0 w.heap.size x.oA (prps x.own)) (hx : x.wf) (hk : x.kind = 1) :
    Calls Tryz.prog 58 #[.agg x.cells.toArray] w fun e w' => e = .returned (.bool (mayB x)) ∧ Ext w w' := by
  have HS := Lib.hid (show mayB x = (nameB x.name && decide (0 ≤ x.frm) && decide (x.frm ≤ 1099511627776) && decide (1 ≤ x.guid) && decide (x.guid ≤ 1099511627776) && decide (prE x.own = 0) && x.index == 0 && x.count == 0 && x.data.toList == [] && sumZ x) by rw [mayB, if_pos hk])
  obtain ⟨k, n, f, g, oA, on, oc, own, i, c, d, s0, s1, s2, s3⟩ := x
  obtain ⟨⟨h1, h2⟩, ⟨h3, h4⟩, ⟨h5, h6⟩, ⟨h7, h8⟩, ⟨h9, h10⟩, h11, h12, h13, h14, h15⟩ := hx
  simp only at hk h1 h2 h3 h4 h5 h6 h7 h8 h9 h10 h11 h12 h13 h14 h15 hr
  subst hk
  have H13 := Lib.hid h13
  have H15 := Lib.hid h15
  clear h13 h15
  generalize mayB _ = b at HS
  have hcase : nameB n = false ∨ (nameB n = true ∧ f < 0) ∨ (nameB n = true ∧ 0 ≤ f ∧ 1099511627776 < f) ∨ (nameB n = true ∧ 0 ≤ f ∧ f ≤ 1099511627776 ∧ g < 1) ∨ (nameB n = true ∧ 0 ≤ f ∧ f ≤ 1099511627776 ∧ 1 ≤ g ∧ 1099511627776 < g) ∨
      (nameB n = true ∧ 0 ≤ f ∧ f ≤ 1099511627776 ∧ 1 ≤ g ∧ g ≤ 1099511627776 ∧ (prE own != 0) = true) ∨ (nameB n = true ∧ 0 ≤ f ∧ f ≤ 1099511627776 ∧ 1 ≤ g ∧ g ≤ 1099511627776 ∧ (prE own != 0) = false) := by
    cases nameB n <;> cases (prE own != 0) <;> simp <;> omega
  simp only [Rec.cells]
  rcases hcase with a0 | ⟨a0, a1⟩ | ⟨a0, a1, a2⟩ | ⟨a0, a1, a2, a3⟩ | ⟨a0, a1, a2, a3, a4⟩ | ⟨a0, a1, a2, a3, a4, a5⟩ | ⟨a0, a1, a2, a3, a4, a5⟩
  all_goals
    go_enter Tryz.func58, Tryz.ntmps58
    go_wp2_with fail
    go_region
    go_wp2_with (first
      | (go_at_call 57; (with_reducible refine (name_any n _ h11).mono ?_); rintro e w1 ⟨rfl, e1⟩; obtain ⟨q1, q2⟩ := bcell e1; have z1 : w.heap.size + 1 < w1.heap.size := (by have := e1.size; simp at this; omega))
      | (go_at_call 80; refine (pcheck_any _ oA on oc own H13.out h14 (Rd.at hr (show Ext w _ by (repeat (first | exact Below.refl _ _ | exact Ext.refl _ | assumption | refine Below.drew ?_ | refine below_drewN ?_ _ | refine below_alloc ?_ (by first | exact Nat.le_refl _ | assumption | (simp; done) | omega | (simp; omega)) _ | refine below_ext ?_ (by assumption) (by first | exact Nat.le_refl _ | assumption | (simp; done) | omega | (simp; omega)) | refine Ext.drew ?_ | refine Ext.drewN ?_ _ | refine Ext.alloc ?_ _ | refine Ext.setCell ?_ (by first | assumption | (simp; done) | (simp; omega)) _ | refine Below.setCell ?_ (by first | assumption | (simp; done) | (simp; omega)) _ | refine Ext.trans ?_ (by assumption)))) (Nat.le_refl _)) H15.out).mono ?_; rintro e w2 ⟨rfl, e2⟩; obtain ⟨q3, q4⟩ := bcell e2; have z2 : w.heap.size + 1 < w2.heap.size := (by have := e2.size; omega); have c0 : w2.cell? ⟨w.heap.size, 0, none⟩ = some (.int .i64 1) := (by rw [q3 _ _ (by omega), q1 _ _ (by first | (simp; done) | (simp; omega))]; go_simp); have c1 : w2.cell? ⟨w.heap.size, 1, none⟩ = some (.string n) := (by rw [q3 _ _ (by omega), q1 _ _ (by first | (simp; done) | (simp; omega))]; go_simp); have c2 : w2.cell? ⟨w.heap.size, 2, none⟩ = some (.int .i64 f) := (by rw [q3 _ _ (by omega), q1 _ _ (by first | (simp; done) | (simp; omega))]; go_simp); have c3 : w2.cell? ⟨w.heap.size, 3, none⟩ = some (.int .i64 g) := (by rw [q3 _ _ (by omega), q1 _ _ (by first | (simp; done) | (simp; omega))]; go_simp); have c4 : w2.cell? ⟨w.heap.size, 4, none⟩ = some (.slice oA on oc) := (by rw [q3 _ _ (by omega), q1 _ _ (by first | (simp; done) | (simp; omega))]; go_simp); have c5 : w2.cell? ⟨w.heap.size, 5, none⟩ = some (.int .i64 i) := (by rw [q3 _ _ (by omega), q1 _ _ (by first | (simp; done) | (simp; omega))]; go_simp); have c6 : w2.cell? ⟨w.heap.size, 6, none⟩ = some (.int .i64 c) := (by rw [q3 _ _ (by omega), q1 _ _ (by first | (simp; done) | (simp; omega))]; go_simp); have c7 : w2.cell? ⟨w.heap.size, 7, none⟩ = some (.string d) := (by rw [q3 _ _ (by omega), q1 _ _ (by first | (simp; done) | (simp; omega))]; go_simp); have c8 : w2.cell? ⟨w.heap.size, 8, none⟩ = some (.int .u64 s0) := (by rw [q3 _ _ (by omega), q1 _ _ (by first | (simp; done) | (simp; omega))]; go_simp); have c9 : w2.cell? ⟨w.heap.size, 9, none⟩ = some (.int .u64 s1) := (by rw [q3 _ _ (by omega), q1 _ _ (by first | (simp; done) | (simp; omega))]; go_simp); have c10 : w2.cell? ⟨w.heap.size, 10, none⟩ = some (.int .u64 s2) := (by rw [q3 _ _ (by omega), q1 _ _ (by first | (simp; done) | (simp; omega))]; go_simp); have c11 : w2.cell? ⟨w.heap.size, 11, none⟩ = some (.int .u64 s3) := (by rw [q3 _ _ (by omega), q1 _ _ (by first | (simp; done) | (simp; omega))]; go_simp); have b0 : w2.cell? ⟨w.heap.size + 1, 0, none⟩ = some (.int .i64 1) := (by rw [q3 _ _ (by omega), q1 _ _ (by first | (simp; done) | (simp; omega))]; go_simp); have b1 : w2.cell? ⟨w.heap.size + 1, 1, none⟩ = some (.string n) := (by rw [q3 _ _ (by omega), q1 _ _ (by first | (simp; done) | (simp; omega))]; go_simp); have b2 : w2.cell? ⟨w.heap.size + 1, 2, none⟩ = some (.int .i64 f) := (by rw [q3 _ _ (by omega), q1 _ _ (by first | (simp; done) | (simp; omega))]; go_simp); have b3 : w2.cell? ⟨w.heap.size + 1, 3, none⟩ = some (.int .i64 g) := (by rw [q3 _ _ (by omega), q1 _ _ (by first | (simp; done) | (simp; omega))]; go_simp); have b4 : w2.cell? ⟨w.heap.size + 1, 4, none⟩ = some (.slice none 0 0) := (by rw [q3 _ _ (by omega), q1 _ _ (by first | (simp; done) | (simp; omega))]; go_simp); have b5 : w2.cell? ⟨w.heap.size + 1, 5, none⟩ = some (.int .i64 0) := (by rw [q3 _ _ (by omega), q1 _ _ (by first | (simp; done) | (simp; omega))]; go_simp); have b6 : w2.cell? ⟨w.heap.size + 1, 6, none⟩ = some (.int .i64 0) := (by rw [q3 _ _ (by omega), q1 _ _ (by first | (simp; done) | (simp; omega))]; go_simp); have b7 : w2.cell? ⟨w.heap.size + 1, 7, none⟩ = some (.string ⟨#[]⟩) := (by rw [q3 _ _ (by omega), q1 _ _ (by first | (simp; done) | (simp; omega))]; go_simp); have b8 : w2.cell? ⟨w.heap.size + 1, 8, none⟩ = some (.int .u64 0) := (by rw [q3 _ _ (by omega), q1 _ _ (by first | (simp; done) | (simp; omega))]; go_simp); have b9 : w2.cell? ⟨w.heap.size + 1, 9, none⟩ = some (.int .u64 0) := (by rw [q3 _ _ (by omega), q1 _ _ (by first | (simp; done) | (simp; omega))]; go_simp); have b10 : w2.cell? ⟨w.heap.size + 1, 10, none⟩ = some (.int .u64 0) := (by rw [q3 _ _ (by omega), q1 _ _ (by first | (simp; done) | (simp; omega))]; go_simp); have b11 : w2.cell? ⟨w.heap.size + 1, 11, none⟩ = some (.int .u64 0) := (by rw [q3 _ _ (by omega), q1 _ _ (by first | (simp; done) | (simp; omega))]; go_simp); have cf : w2.frozen? ⟨w.heap.size, 4, none⟩ = false := (by rw [q4 _ _ (by omega), q2 _ _ (by first | (simp; done) | (simp; omega))]; go_simp); clear q1 q2 q3 q4)
      | (go_at_call 95; refine (recsame_any _ ⟨1, n, f, g, none, 0, 0, [], i, c, d, s0, s1, s2, s3⟩ ⟨1, n, f, g, none, 0, 0, [], 0, 0, ⟨#[]⟩, 0, 0, 0, 0⟩ (by simp) rfl rfl rfl).mono ?_; rintro e w3 ⟨rfl, e3⟩))
    all_goals (go_ret; refine ⟨retB ?_, by (repeat (first | exact Below.refl _ _ | exact Ext.refl _ | assumption | refine Below.drew ?_ | refine below_drewN ?_ _ | refine below_alloc ?_ (by first | exact Nat.le_refl _ | assumption | (simp; done) | omega | (simp; omega)) _ | refine below_ext ?_ (by assumption) (by first | exact Nat.le_refl _ | assumption | (simp; done) | omega | (simp; omega)) | refine Ext.drew ?_ | refine Ext.drewN ?_ _ | refine Ext.alloc ?_ _ | refine Ext.setCell ?_ (by first | assumption | (simp; done) | (simp; omega)) _ | refine Below.setCell ?_ (by first | assumption | (simp; done) | (simp; omega)) _ | refine Ext.trans ?_ (by assumption)))⟩; rw [HS.out]; (first | (simp [*, sameB, sumZ]; done) | (simp [*, sameB, sumZ]; omega) | (simp at a5; simp [*, sameB, sumZ]; done) | trace_state))

set_option maxHeartbeats 1000000 in
theorem may2_any (w : World) (x : Rec) (hx : x.wf) (hk : x.kind = 2) :
    Calls Tryz.prog 58 #[.agg x.cells.toArray] w fun e w' => e = .returned (.bool (mayB x)) ∧ Ext w w' := by
  have HS := Lib.hid (show mayB x = (decide (0 ≤ x.index) && decide (x.index < 1024) && decide (x.data.size = 16) && x.name.toList == [] && x.frm == 0 && x.guid == 0 && x.count == 0 && sumZ x && decide (x.on = 0)) by rw [mayB, if_neg (by omega)]; rw [if_pos hk])
  obtain ⟨k, n, f, g, oA, on, oc, own, i, c, d, s0, s1, s2, s3⟩ := x
  obtain ⟨⟨h1, h2⟩, ⟨h3, h4⟩, ⟨h5, h6⟩, ⟨h7, h8⟩, ⟨h9, h10⟩, h11, h12, h13, h14, h15⟩ := hx
  simp only at hk h1 h2 h3 h4 h5 h6 h7 h8 h9 h10 h11 h12 h13 h14 h15
  subst hk
  clear h13 h15
  generalize mayB _ = b at HS
  have hcase : i < 0 ∨ (0 ≤ i ∧ 1024 ≤ i) ∨ (0 ≤ i ∧ i < 1024 ∧ ((d.size : Int) != 16) = true) ∨ (0 ≤ i ∧ i < 1024 ∧ ((d.size : Int) != 16) = false) := by cases ((d.size : Int) != 16) <;> simp <;> omega
  simp only [Rec.cells]
  rcases hcase with a0 | ⟨a0, a1⟩ | ⟨a0, a1, a2⟩ | ⟨a0, a1, a2⟩
  all_goals
    go_enter Tryz.func58, Tryz.ntmps58
    go_wp2_with fail
    try go_region
    go_wp2_with (go_at_call 95; refine (recsame_any _ ⟨2, n, f, g, oA, on, oc, own, i, c, d, s0, s1, s2, s3⟩ ⟨2, ⟨#[]⟩, 0, 0, none, 0, 0, [], i, 0, d, 0, 0, 0, 0⟩ h14 rfl rfl rfl).mono ?_; rintro e w3 ⟨rfl, e3⟩)
    all_goals (go_ret; refine ⟨retB ?_, by (repeat (first | exact Below.refl _ _ | exact Ext.refl _ | assumption | refine Below.drew ?_ | refine below_drewN ?_ _ | refine below_alloc ?_ (by first | exact Nat.le_refl _ | assumption | (simp; done) | omega | (simp; omega)) _ | refine below_ext ?_ (by assumption) (by first | exact Nat.le_refl _ | assumption | (simp; done) | omega | (simp; omega)) | refine Ext.drew ?_ | refine Ext.drewN ?_ _ | refine Ext.alloc ?_ _ | refine Ext.setCell ?_ (by first | assumption | (simp; done) | (simp; omega)) _ | refine Below.setCell ?_ (by first | assumption | (simp; done) | (simp; omega)) _ | refine Ext.trans ?_ (by assumption)))⟩; rw [HS.out]; (first | (simp [*, sameB, sumZ]; done) | (simp [*, sameB, sumZ]; omega) | (simp at a2; simp [*, sameB, sumZ]; (first | done | omega)) | (simp at a2; have a3 : d.size = 16 := (by omega); simp [*, sameB, sumZ]; (first | done | omega)) | trace_state))

set_option maxHeartbeats 1000000 in
theorem may3_any (w : World) (x : Rec) (hx : x.wf) (hk : x.kind = 3) :
    Calls Tryz.prog 58 #[.agg x.cells.toArray] w fun e w' => e = .returned (.bool (mayB x)) ∧ Ext w w' := by
  have HS := Lib.hid (show mayB x = (decide (0 ≤ x.index) && decide (x.index < 1024) && decide (1 ≤ x.count) && decide (x.count ≤ 1024 - x.index) && x.name.toList == [] && x.frm == 0 && x.guid == 0 && x.data.toList == [] && sumZ x && decide (x.on = 0)) by rw [mayB, if_neg (by omega)]; rw [if_neg (by omega), if_pos hk])
  obtain ⟨k, n, f, g, oA, on, oc, own, i, c, d, s0, s1, s2, s3⟩ := x
  obtain ⟨⟨h1, h2⟩, ⟨h3, h4⟩, ⟨h5, h6⟩, ⟨h7, h8⟩, ⟨h9, h10⟩, h11, h12, h13, h14, h15⟩ := hx
  simp only at hk h1 h2 h3 h4 h5 h6 h7 h8 h9 h10 h11 h12 h13 h14 h15
  subst hk
  clear h13 h15
  generalize mayB _ = b at HS
  have hcase : i < 0 ∨ (0 ≤ i ∧ 1024 ≤ i) ∨ (0 ≤ i ∧ i < 1024 ∧ c < 1) ∨ (0 ≤ i ∧ i < 1024 ∧ 1 ≤ c ∧ 1024 - i < c) ∨ (0 ≤ i ∧ i < 1024 ∧ 1 ≤ c ∧ c ≤ 1024 - i) := by omega
  simp only [Rec.cells]
  rcases hcase with a0 | ⟨a0, a1⟩ | ⟨a0, a1, a2⟩ | ⟨a0, a1, a2, a3⟩ | ⟨a0, a1, a2, a3⟩
  all_goals
    go_enter Tryz.func58, Tryz.ntmps58
    go_wp2_with fail
    try go_region
    go_wp2_with (go_at_call 95; refine (recsame_any _ ⟨3, n, f, g, oA, on, oc, own, i, c, d, s0, s1, s2, s3⟩ ⟨3, ⟨#[]⟩, 0, 0, none, 0, 0, [], i, c, ⟨#[]⟩, 0, 0, 0, 0⟩ h14 rfl rfl rfl).mono ?_; rintro e w3 ⟨rfl, e3⟩)
    all_goals (go_ret; refine ⟨retB ?_, by (repeat (first | exact Below.refl _ _ | exact Ext.refl _ | assumption | refine Below.drew ?_ | refine below_drewN ?_ _ | refine below_alloc ?_ (by first | exact Nat.le_refl _ | assumption | (simp; done) | omega | (simp; omega)) _ | refine below_ext ?_ (by assumption) (by first | exact Nat.le_refl _ | assumption | (simp; done) | omega | (simp; omega)) | refine Ext.drew ?_ | refine Ext.drewN ?_ _ | refine Ext.alloc ?_ _ | refine Ext.setCell ?_ (by first | assumption | (simp; done) | (simp; omega)) _ | refine Below.setCell ?_ (by first | assumption | (simp; done) | (simp; omega)) _ | refine Ext.trans ?_ (by assumption)))⟩; rw [HS.out]; (first | (simp [*, sameB, sumZ]; done) | (simp [*, sameB, sumZ]; omega) | trace_state))

set_option maxHeartbeats 1000000 in
theorem may4_any (w : World) (x : Rec) (hx : x.wf) (hk : x.kind = 4) :
    Calls Tryz.prog 58 #[.agg x.cells.toArray] w fun e w' => e = .returned (.bool (mayB x)) ∧ Ext w w' := by
  have HS := Lib.hid (show mayB x = (x.name.toList == [] && x.frm == 0 && x.guid == 0 && x.index == 0 && x.count == 0 && x.data.toList == [] && decide (x.on = 0)) by rw [mayB, if_neg (by omega)]; rw [if_neg (by omega), if_neg (by omega)])
  obtain ⟨k, n, f, g, oA, on, oc, own, i, c, d, s0, s1, s2, s3⟩ := x
  obtain ⟨⟨h1, h2⟩, ⟨h3, h4⟩, ⟨h5, h6⟩, ⟨h7, h8⟩, ⟨h9, h10⟩, h11, h12, h13, h14, h15⟩ := hx
  simp only at hk h1 h2 h3 h4 h5 h6 h7 h8 h9 h10 h11 h12 h13 h14 h15
  subst hk
  clear h13 h15
  generalize mayB _ = b at HS
  have hcase : 0 ≤ 0 := by omega
  simp only [Rec.cells]
  rcases hcase with a0
  all_goals
    go_enter Tryz.func58, Tryz.ntmps58
    go_wp2_with fail
    try go_region
    go_wp2_with (go_at_call 95; refine (recsame_any _ ⟨4, n, f, g, oA, on, oc, own, i, c, d, s0, s1, s2, s3⟩ ⟨4, ⟨#[]⟩, 0, 0, none, 0, 0, [], 0, 0, ⟨#[]⟩, s0, s1, s2, s3⟩ h14 rfl rfl rfl).mono ?_; rintro e w3 ⟨rfl, e3⟩)
    all_goals (go_ret; refine ⟨retB ?_, by (repeat (first | exact Below.refl _ _ | exact Ext.refl _ | assumption | refine Below.drew ?_ | refine below_drewN ?_ _ | refine below_alloc ?_ (by first | exact Nat.le_refl _ | assumption | (simp; done) | omega | (simp; omega)) _ | refine below_ext ?_ (by assumption) (by first | exact Nat.le_refl _ | assumption | (simp; done) | omega | (simp; omega)) | refine Ext.drew ?_ | refine Ext.drewN ?_ _ | refine Ext.alloc ?_ _ | refine Ext.setCell ?_ (by first | assumption | (simp; done) | (simp; omega)) _ | refine Below.setCell ?_ (by first | assumption | (simp; done) | (simp; omega)) _ | refine Ext.trans ?_ (by assumption)))⟩; rw [HS.out]; (first | (simp [*, sameB, sumZ]; done) | (simp [*, sameB, sumZ]; omega) | trace_state))

end Go.Proofs.YtmecjjmlccdppaaGreatDoor
/- record.Check. -/
namespace Go.Proofs.YtmecjjmlccdppaaGreatDoor
open Go.RowKit

/-- may a record be: 0, 9 or 23 -/
def recE (x : Rec) : Int := if x.kind < 1 ∨ 4 < x.kind then 23 else if mayB x = true then 0 else 9
set_option maxHeartbeats 1000000 in
theorem check_any (w : World) (x : Rec) (hr : Rd w 0 w.heap.size x.oA (prps x.own)) (hx : x.wf) :
    Calls Tryz.prog 26 #[.agg x.cells.toArray] w fun e w' => e = .returned (.int .i64 (recE x)) ∧ Ext w w' := by
  have hmay : x.kind = 1 ∨ x.kind = 2 ∨ x.kind = 3 ∨ x.kind = 4 → ∀ w1, Ext w w1 → Calls Tryz.prog 58 #[.agg x.cells.toArray] w1 fun e w' => e = .returned (.bool (mayB x)) ∧ Ext w1 w' := fun h w1 e1 => by
    rcases h with h | h | h | h
    · exact may1_any w1 x (Rd.at hr e1 (Nat.le_refl _)) hx h
    · exact may2_any w1 x hx h
    · exact may3_any w1 x hx h
    · exact may4_any w1 x hx h
  have HM := Lib.hid hmay
  have h10 := hx.kind
  clear hmay
  have hv : Hid (recE x = if x.kind < 1 ∨ 4 < x.kind then 23 else if mayB x = true then 0 else 9) := Lib.hid rfl
  have hcase : x.kind < 1 ∨ (1 ≤ x.kind ∧ 4 < x.kind) ∨ (1 ≤ x.kind ∧ x.kind ≤ 4) := by omega
  obtain ⟨k, n, f, g, oA, on, oc, own, i, c, d, s0, s1, s2, s3⟩ := x
  simp only at h10 hcase hr hv
  clear hx
  generalize recE _ = y at *
  generalize mayB _ = mb at *
  have hk4 : Hid ((1 ≤ k ∧ k ≤ 4) → k = 1 ∨ k = 2 ∨ k = 3 ∨ k = 4) := Lib.hid (by omega)
  simp only [Rec.cells] at HM ⊢
  rcases hcase with a0 | ⟨a0, a1⟩ | ⟨a0, a1⟩
  all_goals
    go_enter Tryz.func26, Tryz.ntmps26
    go_wp2_with (go_at_call 58; refine (HM.out (hk4.out ⟨a0, a1⟩) _ (by (repeat (first | exact Below.refl _ _ | exact Ext.refl _ | assumption | refine Below.drew ?_ | refine below_drewN ?_ _ | refine below_alloc ?_ (by first | exact Nat.le_refl _ | assumption | (simp; done) | omega | (simp; omega)) _ | refine below_ext ?_ (by assumption) (by first | exact Nat.le_refl _ | assumption | (simp; done) | omega | (simp; omega)) | refine Ext.drew ?_ | refine Ext.drewN ?_ _ | refine Ext.alloc ?_ _ | refine Ext.setCell ?_ (by first | assumption | (simp; done) | (simp; omega)) _ | refine Below.setCell ?_ (by first | assumption | (simp; done) | (simp; omega)) _ | refine Ext.trans ?_ (by assumption))))).mono ?_; rintro e w3 ⟨rfl, e3⟩)
    all_goals (go_ret; refine ⟨retI ?_, by (repeat (first | exact Below.refl _ _ | exact Ext.refl _ | assumption | refine Below.drew ?_ | refine below_drewN ?_ _ | refine below_alloc ?_ (by first | exact Nat.le_refl _ | assumption | (simp; done) | omega | (simp; omega)) _ | refine below_ext ?_ (by assumption) (by first | exact Nat.le_refl _ | assumption | (simp; done) | omega | (simp; omega)) | refine Ext.drew ?_ | refine Ext.drewN ?_ _ | refine Ext.alloc ?_ _ | refine Ext.setCell ?_ (by first | assumption | (simp; done) | (simp; omega)) _ | refine Below.setCell ?_ (by first | assumption | (simp; done) | (simp; omega)) _ | refine Ext.trans ?_ (by assumption)))⟩; rw [hv.out]; (first | (simp [*]; done) | (simp [*]; omega) | (rw [if_neg (by omega)]; cases mb <;> simp_all; done) | trace_state))
end Go.Proofs.YtmecjjmlccdppaaGreatDoor
/- From a walk ('it returns true, and what was there stays') to a law's row, whatever the law. -/
namespace Go.Proofs.YtmecjjmlccdppaaGreatDoor
open Go.RowKit Go.ChangeShapes Go.WideShapes Go.Deep Go.Joins

section
variable {H : Type} {enc : TypeId × Value → H} {P : Program}
theorem trodAll_stays (hl : laidOutB P = true) {W W' : World} (hb : Ext W W') {sp : Nat → Bool} : ∀ (ts : List TypeId) (vs : List Value) (ds : List (DataW H)) (ps : List MemPlace),
    (∀ t ∈ ts, P.readableRec t = true ∧ t < P.types.size) → DataW.TrodAll enc P W 0 (fun _ => true) true ts vs ds ps → (∀ x ∈ ps, x.block < W.heap.size) → (∀ x ∈ ps, sp x.block = true) →
    DataW.TrodAll enc P W' 0 sp true ts vs ds ps
  | [], [], [], _, _, h, _, _ => h
  | t :: ts, v :: vs, d :: ds, _, hts, h, hlt, hsp => by
    obtain ⟨p, q, h1, h2, rfl⟩ := h
    have ht := hts t (by simp)
    refine ⟨p, q, WideElems.Trod_stays hl ht.1 ht.2 h1 (fun x hx => Below.same hb (hlt x (by simp [hx]))) (fun x hx => hsp x (by simp [hx])),
      trodAll_stays hl hb ts vs ds q (fun t' h' => hts t' (by simp [h'])) h2 (fun x hx => hlt x (by simp [hx])) (fun x hx => hsp x (by simp [hx])), rfl⟩
  | [], [], _ :: _, _, _, h, _, _ => h.elim
  | [], _ :: _, _, _, _, h, _, _ => h.elim
  | _ :: _, [], _, _, _, h, _, _ => h.elim
  | _ :: _, _ :: _, [], _, _, h, _, _ => h.elim

/-- The row's promise, out of 'it returns true, and what was there stays'. -/
theorem law_post {f : Func} {s : ChangeSpec} {W W' : World} {args : Array Value} {ds gs : List (DataW H)} {before : List MemPlace} {tb : TypeId} (hv : s.vars = [])
    (hW : DataW.Whole enc P f.params.toList s.vars false W args.toList ds gs before) (hl : laidOutB P = true) (hts : f.params.toList.all (fun t => P.readableRec t && decide (t < P.types.size)) = true)
    (hr : (s.fn H (ds ++ gs)).results = [.lit (.bool true)]) (ha : (s.fn H (ds ++ gs)).args = ds) (hvs : (s.fn H (ds ++ gs)).vars = []) (ht : f.resultTypes = #[tb]) (hu : P.underlying tb = some .bool) (hb : Ext W W') :
    s.post enc P f false true false false W args (.bool true) W' := by
  have hlt : ∀ p ∈ before, p.block < W.heap.size := fun p hp => hW.lt p hp
  obtain ⟨p, q, hA, hV, rfl, hz, hn⟩ := id hW
  rw [hv] at hV
  obtain ⟨_, rfl⟩ := trodVars_none hV
  simp only [List.append_nil] at hlt
  have hts' : ∀ t ∈ f.params.toList, P.readableRec t = true ∧ t < P.types.size := fun t h => by
    have := List.all_eq_true.1 hts t h
    simpa using this
  refine ⟨ds, gs, p ++ [], [], p, [], hW, ?_, ?_, ?_, ?_, fun h => by cases h⟩
  · rw [hr, ht]
    exact trodAll_mk1 (shut_bool hu true)
  · rw [ha]
    exact trodAll_stays hl hb _ _ _ _ hts' hA hlt (fun x hx => by simpa using hlt x hx)
  · rw [hvs, hv]
    rfl
  · exact World.keptBut_mono (fun x hx => ⟨by simpa using hx, Or.inr (Or.inl hx)⟩) (Below.frame hb (· ∈ p))
end

section
variable {H : Type} {enc : TypeId × Value → H} {P : Program} {w : World} {base : Nat} {spare : Nat → Bool} {held : Bool}
theorem open_slice_fields {t e : TypeId} {fs : Array Field} {fuel : Nat} {cs : List Value} {x : DataW H × List MemPlace} (ht : P.underlying t = some (.slice e)) (he : P.underlying e = some (.struct fs))
    (hone : oneCellFields P fs = true) (hC : P.cellsOf e = fs.size) (h : DataW.trod enc P w base spare held fuel t cs = some x) :
    (cs = [.slice none 0 0] ∧ x = (.nil, [])) ∨
    ∃ (a : Addr) (len cap m : Nat) (D : Nat → DataW H) (Pl : Nat → List MemPlace), cs = [.slice (some a) len cap] ∧ base ≤ a.block ∧ len ≤ cap ∧ cap ≤ maxLen ∧ m = (if spare a.block then cap else len) ∧
      x = (.slice ((List.range len).map D) ((List.range (m - len)).map fun j => D (len + j)), MemPlace.row a (m * fs.size) ++ (List.range m).flatMap Pl) ∧
      ∀ i, i < m → ∃ (ys : List (DataW H × List MemPlace)) (n : Nat), D i = .agg (ys.map (·.1)) ∧ Pl i = ys.flatMap (·.2) ∧ ys.length = fs.size ∧
        ∀ (j : Nat) (f : Field), fs[j]? = some f → ∃ (v : Value) (y : DataW H × List MemPlace), w.cell? (a.add (i * fs.size + j)) = some v ∧ ys[j]? = some y ∧ DataW.trod enc P w base spare held n f.type [v] = some y := by
  rcases open_slice ht h with h0 | ⟨a, len, cap, m, n, D, Pl, hcs, hb, hl, hm, hmm, hx, hi⟩
  · exact .inl h0
  · refine .inr ⟨a, len, cap, m, D, Pl, hcs, hb, hl, hm, hmm, by rw [hC] at hx; exact hx, fun i him => ?_⟩
    obtain ⟨cs', hc, ht'⟩ := hi i him
    rw [hC] at hc
    obtain ⟨ys, n', hn', hy, hlen, hyl, hf⟩ := DataW.trod_struct he ht'
    obtain ⟨_, hcl, hat⟩ := World.cells?_some hc
    simp only [Prod.mk.injEq] at hy
    refine ⟨ys, n', hy.1, hy.2, hyl, fun j f hj => ?_⟩
    obtain ⟨ho, hk⟩ := hone_of hone j f hj
    have hjl : j < fs.size := (Array.getElem?_eq_some_iff.1 hj).1
    have hcell := hat j hjl
    have hv : cs'[j]? = some (cs'[j]'(by omega)) := List.getElem?_eq_getElem (by omega)
    have h1 := hf j f hj
    rw [ho, hk] at h1
    have hone' : (cs'.drop j).take 1 = [cs'[j]'(by omega)] := by
      rw [List.drop_eq_getElem_cons (by omega)]
      rfl
    rw [hone'] at h1
    have hys : ys[j]? = some (ys[j]'(by omega)) := List.getElem?_eq_getElem (by omega)
    refine ⟨_, _, ?_, hys, h1.trans hys⟩
    rw [← Go.Deep.add_add, hcell, hv]

/-- the cells of a slice that came in stand at a plain address -/
theorem addr_plain {w : World} {a : Addr} {n : Nat} {v : Value} (h : w.cell? (a.add n) = some v) (h0 : ∃ u, w.cell? a = some u) : a = ⟨a.block, a.off, none⟩ := by
  obtain ⟨u, hu⟩ := h0
  obtain ⟨b, o, s⟩ := a
  unfold World.cell? at hu
  cases s with
  | none => rfl
  | some s =>
    simp at hu
    split at hu <;> simp at hu
theorem block_lt_of_cell {w : World} {a : Addr} {v : Value} (h : w.cell? a = some v) : a.block < w.heap.size := World.block_lt_of_cell? w a h
end
theorem wf_i64_bd {n : Int} (h : (Lit.int .i64 n).wf = true) : -9223372036854775808 ≤ n ∧ n ≤ 9223372036854775807 := by
  have h1 : IntKind.i64.min = -9223372036854775808 := rfl
  have h2 : IntKind.i64.max = 9223372036854775807 := rfl
  simp only [Lit.wf, Bool.and_eq_true, decide_eq_true_eq] at h
  omega
theorem length_le_reach {n b r : Nat} (h : n * b ≤ r) (hb : 1 ≤ b) : n ≤ r := Nat.le_trans (Nat.le_mul_of_pos_right n hb) h
end Go.Proofs.YtmecjjmlccdppaaGreatDoor
/- Arguments that come in: a list of texts, octets: as lists. -/
namespace Go.Proofs.YtmecjjmlccdppaaGreatDoor
open Go.RowKit Go.ChangeShapes Go.WideShapes Go.Deep Go.Joins
section
variable {H : Type} {enc : TypeId × Value → H} {P : Program} {w : World} {spare : Nat → Bool} {held : Bool}
theorem plain_of_cells {w : World} {a : Addr} {cs : List Value} (h : ∀ i u, cs[i]? = some u → w.cell? (a.add i) = some u) : Rd w 0 w.heap.size (some a) cs := fun hn => by
  have hl : 0 < cs.length := by
    rcases Nat.eq_zero_or_pos cs.length with h0 | h0
    · exact absurd (List.eq_nil_of_length_eq_zero h0) hn
    · exact h0
  have h0 := h 0 _ (List.getElem?_eq_getElem hl)
  have h0' : w.cell? a = some (cs[0]'hl) := by simpa [Addr.add] using h0
  have ha := addr_plain h0 ⟨_, h0'⟩
  refine ⟨a.block, a.off, by rw [← ha], Nat.zero_le _, block_lt_of_cell h0', fun j u hj => ?_⟩
  have := h j u hj
  rw [ha, add_lit] at this
  exact this
/-- a list of texts that came in -/
theorem open_texts {r : Reach} {b0 : Nat} {t e : TypeId} (ht : P.underlying t = some (.slice e)) (he : P.underlying e = some .string) (hc : P.cellsOf e = 1) {v : Value} {d : DataW H} {p : List MemPlace} (hv : Value.okWide P w r b0 t v) (h : DataW.Trod enc P w 0 spare held t v d p) :
    ∃ (A : Option Addr) (n c : Nat) (l : List ByteArray), v = .slice A n c ∧ n = l.length ∧ n ≤ c ∧ c ≤ maxLen ∧ Rd w 0 w.heap.size A (l.map Value.string) ∧ (∀ s ∈ l, s.size ≤ maxLen) ∧
      ((n = 0 ∧ l = []) ∨ ∃ elems sp, d = .slice elems sp ∧ n ≤ elems.length + sp.length ∧ ∀ s ∈ l, DataW.lit (.string s.data.toList) ∈ elems) := by
  obtain ⟨A, n, c, rfl⟩ := okWide_slice ht hv
  obtain ⟨fuel, hf⟩ := h
  rcases open_strings ht he hc (by simpa [Value.cells] using hf) with ⟨hcs, _⟩ | ⟨a, len, cap, ss, hcs, _, hl, hm, hz, hx, hcell, hws⟩
  · simp only [List.cons.injEq, Value.slice.injEq, and_true] at hcs
    obtain ⟨rfl, rfl, rfl⟩ := hcs
    exact ⟨none, 0, 0, [], rfl, rfl, Nat.le_refl _, Nat.zero_le _, Rd.nil, fun _ h => by simp at h, .inl ⟨rfl, rfl⟩⟩
  · simp only [List.cons.injEq, Value.slice.injEq, and_true] at hcs
    obtain ⟨rfl, rfl, rfl⟩ := hcs
    have hle : n ≤ ss.length := by rw [hz]; split <;> omega
    refine ⟨some a, n, c, ss.take n, rfl, by rw [List.length_take]; omega, hl, hm, plain_of_cells fun i u hi => ?_, fun s hs => hws s (List.mem_of_mem_take hs), .inr ⟨_, _, (Prod.mk.inj hx).1, by simp [strs]; omega, fun s hs => ?_⟩⟩
    · rw [List.getElem?_map] at hi
      have hin : i < n := by
        rcases Nat.lt_or_ge i n with h' | h'
        · exact h'
        · rw [List.getElem?_eq_none (by rw [List.length_take]; omega)] at hi; cases hi
      rw [List.getElem?_take_of_lt hin, List.getElem?_eq_getElem (by omega)] at hi
      rw [hcell i (by omega)]
      simp only [Option.map_some] at hi
      rw [← hi]
      simp [List.getD, List.getElem?_eq_getElem (show i < ss.length by omega)]
    · simp only [strs, List.mem_map]
      exact ⟨s, hs, rfl⟩
/-- octets that came in -/
theorem open_octets {r : Reach} {b0 : Nat} {t e : TypeId} (ht : P.underlying t = some (.slice e)) (he : P.underlying e = some (.int .u8)) (hc : P.cellsOf e = 1) {v : Value} {d : DataW H} {p : List MemPlace} (hv : Value.okWide P w r b0 t v) (h : DataW.Trod enc P w 0 spare held t v d p) :
    ∃ (A : Option Addr) (n c : Nat) (l : List UInt8), v = .slice A n c ∧ n = l.length ∧ n ≤ c ∧ c ≤ maxLen ∧ Rd w 0 w.heap.size A (bytes l) ∧
      (n = 0 ∨ ∃ elems sp, d = .slice elems sp ∧ n ≤ elems.length + sp.length) := by
  obtain ⟨A, n, c, rfl⟩ := okWide_slice ht hv
  obtain ⟨fuel, hf⟩ := h
  rcases open_ints ht he hc (by simpa [Value.cells] using hf) with ⟨hcs, _⟩ | ⟨a, len, cap, zs, hcs, _, hl, hm, hz, hx, hcell, hws⟩
  · simp only [List.cons.injEq, Value.slice.injEq, and_true] at hcs
    obtain ⟨rfl, rfl, rfl⟩ := hcs
    exact ⟨none, 0, 0, [], rfl, rfl, Nat.le_refl _, Nat.zero_le _, Rd.nil, .inl rfl⟩
  · simp only [List.cons.injEq, Value.slice.injEq, and_true] at hcs
    obtain ⟨rfl, rfl, rfl⟩ := hcs
    have hle : n ≤ zs.length := by rw [hz]; split <;> omega
    refine ⟨some a, n, c, (zs.take n).map (fun z => UInt8.ofNat z.toNat), rfl, by simp; omega, hl, hm, plain_of_cells fun i u hi => ?_, .inr ⟨_, _, (Prod.mk.inj hx).1, by simp [lits]; omega⟩⟩
    rw [bytes, List.map_map, List.getElem?_map] at hi
    have hin : i < n := by
      rcases Nat.lt_or_ge i n with h' | h'
      · exact h'
      · rw [List.getElem?_eq_none (by rw [List.length_take]; omega)] at hi; cases hi
    rw [List.getElem?_take_of_lt hin, List.getElem?_eq_getElem (by omega)] at hi
    simp only [Option.map_some, Function.comp] at hi
    rw [hcell i (by omega), ← hi]
    have hwf := hws (zs[i]'(by omega)) (List.getElem_mem _)
    have hb : 0 ≤ zs[i]'(by omega) ∧ zs[i]'(by omega) ≤ 255 := by simpa [Lit.wf, IntKind.min, IntKind.max, IntKind.signed, IntKind.bits] using hwf
    rw [List.getD, List.getElem?_eq_getElem (show i < zs.length by omega), Option.getD_some, UInt8.toNat_ofNat', Nat.mod_eq_of_lt (by omega)]
    congr 2
    omega
end
end Go.Proofs.YtmecjjmlccdppaaGreatDoor
/- Arguments that come in, of whatever nested type, as Lean's own data: openers that are put together. -/
namespace Go.Proofs.YtmecjjmlccdppaaGreatDoor
open Go.RowKit Go.ChangeShapes Go.WideShapes Go.Deep Go.Joins

/-- a slice's header and what it reads as -/
structure Sl (α : Type) where
  A : Option Addr
  n : Nat
  c : Nat
  xs : List α
def Sl.val {α : Type} (s : Sl α) : Value := .slice s.A s.n s.c
/-- what is said of a slice that came in: its row reads; its elements are so -/
structure Sl.In {α : Type} (P : Program) (w : World) (e : TypeId) (cells : α → List Value) (I : α → Prop) (s : Sl α) : Prop where
  len : s.n = s.xs.length
  le : s.n ≤ s.c
  cap : s.c ≤ maxLen
  bytes : s.n * P.bytesOf e ≤ reachBytes
  rd : Rd w 0 w.heap.size s.A (s.xs.flatMap cells)
  all : ∀ x ∈ s.xs, I x
section
variable {H : Type} {enc : TypeId × Value → H} {P : Program} {w : World} {t e : TypeId} {α β : Type}
/-- Whatever reads as a value of type t within the form's reach are the cells of some datum of which I holds. -/
def Opens (enc : TypeId × Value → H) (P : Program) (w : World) (t : TypeId) (cells : α → List Value) (I : α → Prop) : Prop :=
  ∀ (spare : Nat → Bool) (held : Bool) (fuel : Nat) (cs : List Value) (x : DataW H × List MemPlace), DataW.trod enc P w 0 spare held fuel t cs = some x → (∀ n ∈ x.1.weights P t, n ≤ reachBytes) → ∃ a, cs = cells a ∧ I a
theorem opens_int {k : IntKind} (ht : P.underlying t = some (.int k)) : Opens enc P w t (fun z : Int => [.int k z]) (fun z => k.min ≤ z ∧ z ≤ k.max) := fun _ _ _ _ _ h _ => by
  obtain ⟨n, rfl, _, hw⟩ := DataW.trod_int ht h
  simp only [Lit.wf, Bool.and_eq_true, decide_eq_true_eq] at hw
  exact ⟨n, rfl, hw⟩
theorem opens_bool (ht : P.underlying t = some .bool) : Opens enc P w t (fun z : Bool => [.bool z]) (fun _ => True) := fun _ _ _ _ _ h _ => by
  obtain ⟨n, rfl, _⟩ := DataW.trod_bool ht h
  exact ⟨n, rfl, trivial⟩
theorem opens_str (ht : P.underlying t = some .string) : Opens enc P w t (fun s : ByteArray => [.string s]) (fun s => s.size ≤ reachBytes) := fun _ _ _ _ _ h hw => by
  obtain ⟨s, rfl, rfl, _⟩ := DataW.trod_string ht h
  refine ⟨s, rfl, ?_⟩
  have := hw s.data.toList.length (by simp [DataW.weights])
  rw [Array.length_toList] at this
  exact this
theorem Opens.map {cells : α → List Value} {I : α → Prop} {cells' : β → List Value} {I' : β → Prop} (h : Opens enc P w t cells I) (f : α → β) (hc : ∀ a, I a → cells a = cells' (f a)) (hi : ∀ a, I a → I' (f a)) : Opens enc P w t cells' I' := fun _ _ _ _ _ h1 h2 => by
  obtain ⟨a, rfl, ha⟩ := h _ _ _ _ _ h1 h2
  exact ⟨f a, hc a ha, hi a ha⟩
theorem flat_get {cells : α → List Value} {size : Nat} (hs : ∀ a, (cells a).length = size) (xs : List α) (k j : Nat) (hj : j < size) (hk : k < xs.length) : (xs.flatMap cells)[k * size + j]? = (cells xs[k])[j]? := by
  induction xs generalizing k with
  | nil => simp at hk
  | cons x xs ih =>
    rw [List.flatMap_cons]
    cases k with
    | zero => rw [List.getElem?_append_left (by rw [hs]; omega)]; simp
    | succ k =>
      rw [List.getElem?_append_right (by rw [hs, Nat.succ_mul]; omega), hs, show (k + 1) * size + j - size = k * size + j by rw [Nat.succ_mul]; omega, ih k (by simpa using hk)]
      simp
theorem flat_length {cells : α → List Value} {size : Nat} (hs : ∀ a, (cells a).length = size) (xs : List α) : (xs.flatMap cells).length = xs.length * size := by
  induction xs with
  | nil => simp
  | cons x xs ih => rw [List.flatMap_cons, List.length_append, ih, hs, List.length_cons, Nat.succ_mul]; omega
theorem weights_all {l : List (DataW H)} {d : DataW H} (h : d ∈ l) : ∀ n ∈ d.weights P e, n ∈ DataW.weightsAll P e l := by
  induction l with
  | nil => cases h
  | cons x l ih =>
    intro n hn
    simp only [DataW.weightsAll, List.mem_append]
    rcases List.mem_cons.1 h with rfl | h
    · exact .inl hn
    · exact .inr (ih h n hn)
theorem opens_slice (size : Nat) {cells : α → List Value} {I : α → Prop} (ht : P.underlying t = some (.slice e)) (hC : P.cellsOf e = size) (h0 : 0 < size) (hs : ∀ a, (cells a).length = size) (el : Opens enc P w e cells I) :
    Opens enc P w t (fun s : Sl α => [s.val]) (Sl.In P w e cells I) := fun spare held fuel cs x h hw => by
  subst hC
  rcases open_slice ht h with ⟨rfl, rfl⟩ | ⟨a, len, cap, m, n, D, Pl, rfl, _, hl, hm, hmm, rfl, hi⟩
  · exact ⟨⟨none, 0, 0, []⟩, rfl, ⟨rfl, Nat.le_refl _, Nat.zero_le _, by simp, Rd.nil, fun _ h => by simp at h⟩⟩
  · have hnm : len ≤ m := by rw [hmm]; split <;> omega
    have hb : len * P.bytesOf e ≤ reachBytes := by
      have := hw _ (by simp only [DataW.weights, ht]; exact List.mem_cons_self)
      simp only [List.length_map, List.length_range] at this
      exact Nat.le_trans (Nat.mul_le_mul_right _ (by omega)) this
    rcases Nat.eq_zero_or_pos len with hlen | hlen
    · subst hlen
      exact ⟨⟨some a, 0, cap, []⟩, rfl, ⟨rfl, hl, hm, hb, Rd.nil, fun _ h => by simp at h⟩⟩
    · have one : ∀ i, i < len → ∃ y : α, I y ∧ ∀ j u, (cells y)[j]? = some u → w.cell? (a.add (i * P.cellsOf e + j)) = some u := by
        intro i hil
        obtain ⟨cs', hc, ht'⟩ := hi i (by omega)
        obtain ⟨y, rfl, hy⟩ := el _ _ _ _ _ ht' (fun n hn => hw n (by
          simp only [DataW.weights, ht, List.mem_cons, List.mem_append]
          exact .inr (.inl (weights_all (List.mem_map_of_mem (List.mem_range.2 hil)) n hn))))
        obtain ⟨_, _, hat⟩ := World.cells?_some hc
        refine ⟨y, hy, fun j u hu => ?_⟩
        have hj : j < P.cellsOf e := by
          have := (List.getElem?_eq_some_iff.1 hu).1
          rwa [hs] at this
        rw [← Go.Deep.add_add, hat j hj, hu]
      have key : ∀ i, ∃ y : α, i < len → I y ∧ ∀ j u, (cells y)[j]? = some u → w.cell? (a.add (i * P.cellsOf e + j)) = some u := by
        intro i
        by_cases hil : i < len
        · obtain ⟨y, h1, h2⟩ := one i hil
          exact ⟨y, fun _ => ⟨h1, h2⟩⟩
        · obtain ⟨y, _⟩ := one 0 hlen
          exact ⟨y, fun h => absurd h hil⟩
      obtain ⟨g, hg⟩ := Classical.axiomOfChoice key
      refine ⟨⟨some a, len, cap, (List.range len).map g⟩, rfl, ⟨by simp, hl, hm, hb, plain_of_cells fun i u hu => ?_, fun x hx => ?_⟩⟩
      · have hil : i < len * P.cellsOf e := by
          have := (List.getElem?_eq_some_iff.1 hu).1
          rw [flat_length hs] at this
          simpa using this
        have hk : i / P.cellsOf e < len := Nat.div_lt_of_lt_mul (by rw [Nat.mul_comm]; exact hil)
        have hij : i / P.cellsOf e * P.cellsOf e + i % P.cellsOf e = i := Nat.div_add_mod' i (P.cellsOf e)
        rw [← hij, flat_get hs _ _ _ (Nat.mod_lt _ h0) (by simpa using hk)] at hu
        simp only [List.getElem_map, List.getElem_range] at hu
        rw [← hij]
        exact (hg _ hk).2 _ u hu
      · simp only [List.mem_map, List.mem_range] at hx
        obtain ⟨i, hil, rfl⟩ := hx
        exact (hg i hil).1
/-- the fields of a struct, from one on, whose cells stand from off on; L cells in all -/
def OpensF (enc : TypeId × Value → H) (P : Program) (w : World) (L : Nat) (fs : List Field) (off : Nat) (cells : α → List Value) (I : α → Prop) : Prop :=
  ∀ (spare : Nat → Bool) (held : Bool) (fuel : Nat) (cs : List Value) (ys : List (DataW H × List MemPlace)), cs.length = L → ys.length = fs.length →
    (∀ (i : Nat) (f : Field), fs[i]? = some f → DataW.trod enc P w 0 spare held fuel f.type ((cs.drop f.offset).take (P.cellsOf f.type)) = ys[i]?) →
    (∀ n ∈ DataW.weightsEach P (fs.map (·.type)) (ys.map (·.1)), n ≤ reachBytes) → ∃ a, cs.drop off = cells a ∧ I a
theorem OpensF.nil {L : Nat} : OpensF enc P w L [] L (fun _ : Unit => []) (fun _ => True) := fun _ _ _ cs _ hl _ _ _ => ⟨(), List.drop_eq_nil_of_le (by omega), trivial⟩
theorem OpensF.cons (size : Nat) {L off : Nat} {f : Field} {fs : List Field} {cells : α → List Value} {I : α → Prop} {cells' : β → List Value} {I' : β → Prop} (h : Opens enc P w f.type cells I) (ho : f.offset = off) (hc : P.cellsOf f.type = size)
    (r : OpensF enc P w L fs (off + size) cells' I') : OpensF enc P w L (f :: fs) off (fun x : α × β => cells x.1 ++ cells' x.2) (fun x => I x.1 ∧ I' x.2) := fun spare held fuel cs ys hl hy hf hw => by
  subst ho hc
  cases ys with
  | nil => simp at hy
  | cons y ys =>
    obtain ⟨a, ha, hi⟩ := h _ _ _ _ y (hf 0 f rfl) (fun n hn => hw n (by simp only [List.map_cons, DataW.weightsEach, List.mem_append]; exact .inl hn))
    obtain ⟨b, hb, hj⟩ := r spare held fuel cs ys hl (by simpa using hy) (fun i g hg => hf (i + 1) g hg) (fun n hn => hw n (by simp only [List.map_cons, DataW.weightsEach, List.mem_append]; exact .inr hn))
    refine ⟨(a, b), ?_, hi, hj⟩
    show _ = cells a ++ cells' b
    rw [← ha, ← hb, ← List.drop_drop, List.take_append_drop]
theorem opens_struct {L : Nat} {fs : Array Field} {cells : α → List Value} {I : α → Prop} (hu : P.underlying t = some (.struct fs)) (hL : P.cellsOf t = L) (hF : OpensF enc P w L fs.toList 0 cells I) : Opens enc P w t cells I := fun spare held fuel cs x h hw => by
  obtain ⟨ys, n, _, rfl, hlen, hyl, hf⟩ := DataW.trod_struct hu h
  obtain ⟨a, ha, hi⟩ := hF spare held n cs ys (hlen.trans hL) (by simpa using hyl) (fun i f hif => hf i f (by simpa using hif)) (fun n hn => hw n (by simp only [DataW.weights, hu]; exact hn))
  exact ⟨a, by simpa using ha, hi⟩
/-- a parameter that is a struct -/
theorem Opens.param_struct {fs : Array Field} {cells : α → List Value} {I : α → Prop} (h : Opens enc P w t cells I) (hu : P.underlying t = some (.struct fs)) {r : Reach} {b0 : Nat} {spare : Nat → Bool} {held : Bool} {v : Value} {d : DataW H} {p : List MemPlace}
    (hv : Value.okWide P w r b0 t v) (ht : DataW.Trod enc P w 0 spare held t v d p) (hw : ∀ n ∈ d.weights P t, n ≤ reachBytes) : ∃ a, v = .agg (cells a).toArray ∧ I a := by
  obtain ⟨cs, rfl, _⟩ := okWide_struct hu hv
  obtain ⟨fuel, hf⟩ := ht
  obtain ⟨a, ha, hi⟩ := h _ _ _ _ _ hf hw
  exact ⟨a, by rw [← ha]; rfl, hi⟩
/-- a parameter that is a slice -/
theorem Opens.param_slice {I : Sl α → Prop} (h : Opens enc P w t (fun s : Sl α => [s.val]) I) (ht : P.underlying t = some (.slice e)) {r : Reach} {b0 : Nat} {spare : Nat → Bool} {held : Bool} {v : Value} {d : DataW H} {p : List MemPlace}
    (hv : Value.okWide P w r b0 t v) (htr : DataW.Trod enc P w 0 spare held t v d p) (hw : ∀ n ∈ d.weights P t, n ≤ reachBytes) : ∃ s : Sl α, v = s.val ∧ I s := by
  obtain ⟨A, n, c, rfl⟩ := okWide_slice ht hv
  obtain ⟨fuel, hf⟩ := htr
  obtain ⟨a, ha, hi⟩ := h _ _ _ _ _ hf hw
  exact ⟨a, by simpa [Value.cells] using ha, hi⟩
theorem weights_arg {ts : List TypeId} {ds : List (DataW H)} (h : (DataW.weightsEach P ts ds).all (· ≤ reachBytes) = true) {j : Nat} {d : DataW H} (ht : ts[j]? = some t) (hd : ds[j]? = some d) : ∀ n ∈ d.weights P t, n ≤ reachBytes := fun n hn => by
  have := List.all_eq_true.1 h _ (DataW.weights_mem_each ht hd n hn)
  simpa using this
end
end Go.Proofs.YtmecjjmlccdppaaGreatDoor
/- Element k of a row of structs; a function value that is called. Laws over whatever program. -/
namespace Go.Proofs.YtmecjjmlccdppaaGreatDoor
open Go.RowKit

theorem callF {P : Program} {f : FuncId} {fn : Func} {c : Code} (hf : P.funcs[f]? = some fn) (hname : (fn.name == "runtime.NumGoroutine") = false) (hb : fn.body = some c) : ∀ args w, (callFunc f args).run P w = .ok (.enter f args) w := fun args w => by
  have h1 : fn.name ≠ "runtime.NumGoroutine" := by simpa using hname
  simp [callFunc, hf, h1, hb]

/-- element k of a row of structs -/
theorem rd_flat {α : Type} {cells : α → List Value} {size : Nat} (hs : ∀ a, (cells a).length = size) (h0 : 0 < size) {w : World} {lo hi : Nat} {A : Option Addr} {xs : List α} (h : Rd w lo hi A (xs.flatMap cells)) {k : Nat} (hk : k < xs.length) :
    ∃ b o, A = some ⟨b, o, none⟩ ∧ lo ≤ b ∧ b < hi ∧ ∀ j u, (cells xs[k])[j]? = some u → w.cell? ⟨b, o + k * size + j, none⟩ = some u := by
  obtain ⟨b, o, h1, h2, h3, h4⟩ := h (fun e => by
    have := flat_length hs xs
    rw [e] at this
    have := Nat.mul_pos (show 0 < xs.length by omega) h0
    simp at *
    omega)
  refine ⟨b, o, h1, h2, h3, fun j u hu => ?_⟩
  have hj : j < size := by
    have := (List.getElem?_eq_some_iff.1 hu).1
    rwa [hs] at this
  rw [Nat.add_assoc]
  exact h4 _ u (by rw [flat_get hs xs k j hj hk]; exact hu)
end Go.Proofs.YtmecjjmlccdppaaGreatDoor
