/- order.Step. -/
import Derived.Test.YtmbnmggpnbapbaaOrd
namespace Go.Proofs.Ytmbnmggpnbapbaa
open Go.RowKit

structure St where
  seen : Int
  next : Int
  err : Int
def badS (s n : Int) : Bool := decide (s < 0) || decide (2 < s) || decide (n < 0) || decide (1024 < n)
/-- order.Step's answer -/
def stepR (s n : Int) (x : Rec) : St :=
  if badS s n = true then ⟨0, 0, 9⟩ else if recE x ≠ 0 then ⟨0, 0, recE x⟩ else if aftB s n x = true then ⟨aftS x, aftN n x, 0⟩ else ⟨0, 0, 35⟩
theorem rec_ok {x : Rec} (h : recE x = 0) : (1 ≤ x.kind ∧ x.kind ≤ 4) ∧ mayB x = true := by
  unfold recE at h
  split at h
  · omega
  · split at h
    · rename_i h1 h2; exact ⟨by omega, h2⟩
    · omega
theorem rec_ind {x : Rec} (h : recE x = 0) (hk : x.kind = 2 ∨ x.kind = 3) : 0 ≤ x.index ∧ x.index < 1024 := by
  have h2 := (rec_ok h).2
  unfold mayB at h2
  rcases hk with hk | hk
  · rw [if_neg (by omega), if_pos hk] at h2
    simp only [Bool.and_eq_true, decide_eq_true_eq] at h2
    omega
  · rw [if_neg (by omega), if_neg (by omega), if_pos hk] at h2
    simp only [Bool.and_eq_true, decide_eq_true_eq] at h2
    omega
theorem rec_cnt {x : Rec} (h : recE x = 0) (hk : x.kind = 3) : 1 ≤ x.count ∧ x.count ≤ 1024 - x.index := by
  have h2 := (rec_ok h).2
  unfold mayB at h2
  rw [if_neg (by omega), if_neg (by omega), if_pos hk] at h2
  simp only [Bool.and_eq_true, decide_eq_true_eq] at h2
  omega
set_option maxRecDepth 100000 in
set_option maxHeartbeats 2000000 in
theorem step_any (w : World) (s n : Int) (x : Rec) (hr : Rd w 0 w.heap.size x.oA (prps x.own)) (hx : x.wf) (hs : -9223372036854775808 ≤ s ∧ s ≤ 9223372036854775807) (hn : -9223372036854775808 ≤ n ∧ n ≤ 9223372036854775807) :
    Calls Try.prog 8 #[.agg #[.int .i64 s, .int .i64 n], .agg x.cells.toArray] w fun e w' => e = .returned (.tuple #[.agg #[.int .i64 (stepR s n x).seen, .int .i64 (stepR s n x).next], .int .i64 (stepR s n x).err]) ∧ Ext w w' := by
  have HV := Lib.hid (show stepR s n x = if badS s n = true then ⟨0, 0, 9⟩ else if recE x ≠ 0 then ⟨0, 0, recE x⟩ else if aftB s n x = true then ⟨aftS x, aftN n x, 0⟩ else ⟨0, 0, 35⟩ from rfl)
  have HC := Lib.hid (fun w1 (e1 : Ext w w1) => check_any w1 x (Rd.at hr e1 (Nat.le_refl _)) hx)
  have HA := Lib.hid (fun (he : recE x = 0) (h0 : 0 ≤ s ∧ s ≤ 2) (h1 : 0 ≤ n ∧ n ≤ 1024) w1 => after_any w1 s n x h0 h1 hx (rec_ind he) (fun h => by have := rec_cnt he h; have := rec_ind he (.inr h); omega))
  obtain ⟨b1, b2⟩ := hs
  obtain ⟨b3, b4⟩ := hn
  generalize stepR s n x = v at *
  generalize recE x = re at *
  generalize aftB s n x = ab at *
  generalize aftS x = av at *
  generalize aftN n x = an at *
  clear hx hr
  obtain ⟨k, nm, f, g, oA, on, oc, own, i, c, d, s0, s1, s2, s3⟩ := x
  simp only [Rec.cells] at *
  have hcase : s < 0 ∨ (0 ≤ s ∧ 2 < s) ∨ (0 ≤ s ∧ s ≤ 2 ∧ n < 0) ∨ (0 ≤ s ∧ s ≤ 2 ∧ 0 ≤ n ∧ 1024 < n) ∨ (0 ≤ s ∧ s ≤ 2 ∧ 0 ≤ n ∧ n ≤ 1024) := by omega
  rcases hcase with q0 | ⟨q0, q1⟩ | ⟨q0, q1, q2⟩ | ⟨q0, q1, q2, q3⟩ | ⟨q0, q1, q2, q3⟩
  iterate 4
    · have hb : badS s n = true := by simp [badS]; omega
      have hv : Hid (v = ⟨0, 0, 9⟩) := by rw [Hid, HV.out, if_pos hb]
      clear hb
      go_enter Try.func8, Try.ntmps8
      go_wp2_with fail
      refine bodyPost_ret (v := .tuple #[.agg #[.int .i64 0, .int .i64 0], .int .i64 9]) (by simp [results, Try.results8, go_sem]) rfl ⟨by rw [hv.out]; try rfl, by (repeat (first | exact Below.refl _ _ | exact Ext.refl _ | assumption | refine Below.drew ?_ | refine below_drewN ?_ _ | refine below_alloc ?_ (by first | exact Nat.le_refl _ | assumption | (simp; done) | omega | (simp; omega)) _ | refine below_ext ?_ (by assumption) (by first | exact Nat.le_refl _ | assumption | (simp; done) | omega | (simp; omega)) | refine Ext.drew ?_ | refine Ext.drewN ?_ _ | refine Ext.alloc ?_ _ | refine Ext.setCell ?_ (by first | assumption | (simp; done) | (simp; omega)) _ | refine Below.setCell ?_ (by first | assumption | (simp; done) | (simp; omega)) _ | refine Ext.trans ?_ (by assumption)))⟩
  · have hb : badS s n = false := by simp [badS]; omega
    have hv : Hid (v = if re ≠ 0 then ⟨0, 0, re⟩ else if ab = true then ⟨av, an, 0⟩ else ⟨0, 0, 35⟩) := by rw [Hid, HV.out, hb, if_neg (by decide)]
    clear hb HV
    by_cases hre : re = 0
    · subst hre
      cases ab
      · have hv : Hid (v = ⟨0, 0, 35⟩) := by rw [Hid, hv.out]; rfl
        go_enter Try.func8, Try.ntmps8
        go_wp2_with (first
          | (go_at_call 11; refine (HC.out _ (by (repeat (first | exact Below.refl _ _ | exact Ext.refl _ | assumption | refine Below.drew ?_ | refine below_drewN ?_ _ | refine below_alloc ?_ (by first | exact Nat.le_refl _ | assumption | (simp; done) | omega | (simp; omega)) _ | refine below_ext ?_ (by assumption) (by first | exact Nat.le_refl _ | assumption | (simp; done) | omega | (simp; omega)) | refine Ext.drew ?_ | refine Ext.drewN ?_ _ | refine Ext.alloc ?_ _ | refine Ext.setCell ?_ (by first | assumption | (simp; done) | (simp; omega)) _ | refine Below.setCell ?_ (by first | assumption | (simp; done) | (simp; omega)) _ | refine Ext.trans ?_ (by assumption))))).mono ?_; rintro e w2 ⟨rfl, e2⟩; obtain ⟨y1, y2⟩ := bcell e2; have z2 : w.heap.size + 2 < w2.heap.size := (by have := e2.size; simp at this; omega); have c0 : w2.cell? ⟨w.heap.size + 2, 0, none⟩ = some (.int .i64 0) := (by rw [y1 _ _ (by first | (simp; done) | (simp; omega))]; go_simp); have c1 : w2.cell? ⟨w.heap.size + 2, 1, none⟩ = some (.int .i64 0) := (by rw [y1 _ _ (by first | (simp; done) | (simp; omega))]; go_simp); have f0 : w2.frozen? ⟨w.heap.size + 2, 0, none⟩ = false := (by rw [y2 _ _ (by first | (simp; done) | (simp; omega))]; go_simp); have f1 : w2.frozen? ⟨w.heap.size + 2, 1, none⟩ = false := (by rw [y2 _ _ (by first | (simp; done) | (simp; omega))]; go_simp))
          | (go_at_call 12; refine (HA.out (by trivial) ⟨q0, q1⟩ ⟨q2, q3⟩ _).mono ?_; rintro e w3 ⟨rfl, e3⟩; obtain ⟨y3, y4⟩ := bcell e3; have z3 : w.heap.size + 2 < w3.heap.size := (by have := e3.size; omega); have c2 : w3.cell? ⟨w.heap.size + 2, 0, none⟩ = some (.int .i64 0) := (by rw [y3 _ _ z2]; exact c0); have c3 : w3.cell? ⟨w.heap.size + 2, 1, none⟩ = some (.int .i64 0) := (by rw [y3 _ _ z2]; exact c1); have f2 : w3.frozen? ⟨w.heap.size + 2, 0, none⟩ = false := (by rw [y4 _ _ z2]; exact f0); have f3 : w3.frozen? ⟨w.heap.size + 2, 1, none⟩ = false := (by rw [y4 _ _ z2]; exact f1)))
        refine bodyPost_ret (v := .tuple #[.agg #[.int .i64 0, .int .i64 0], .int .i64 35]) (by simp [results, Try.results8, go_sem, *]) rfl ⟨by rw [hv.out]; try rfl, by (repeat (first | exact Below.refl _ _ | exact Ext.refl _ | assumption | refine Below.drew ?_ | refine below_drewN ?_ _ | refine below_alloc ?_ (by first | exact Nat.le_refl _ | assumption | (simp; done) | omega | (simp; omega)) _ | refine below_ext ?_ (by assumption) (by first | exact Nat.le_refl _ | assumption | (simp; done) | omega | (simp; omega)) | refine Ext.drew ?_ | refine Ext.drewN ?_ _ | refine Ext.alloc ?_ _ | refine Ext.setCell ?_ (by first | assumption | (simp; done) | (simp; omega)) _ | refine Below.setCell ?_ (by first | assumption | (simp; done) | (simp; omega)) _ | refine Ext.trans ?_ (by assumption)))⟩
      · have hv : Hid (v = ⟨av, an, 0⟩) := by rw [Hid, hv.out]; rfl
        go_enter Try.func8, Try.ntmps8
        go_wp2_with (first
          | (go_at_call 11; refine (HC.out _ (by (repeat (first | exact Below.refl _ _ | exact Ext.refl _ | assumption | refine Below.drew ?_ | refine below_drewN ?_ _ | refine below_alloc ?_ (by first | exact Nat.le_refl _ | assumption | (simp; done) | omega | (simp; omega)) _ | refine below_ext ?_ (by assumption) (by first | exact Nat.le_refl _ | assumption | (simp; done) | omega | (simp; omega)) | refine Ext.drew ?_ | refine Ext.drewN ?_ _ | refine Ext.alloc ?_ _ | refine Ext.setCell ?_ (by first | assumption | (simp; done) | (simp; omega)) _ | refine Below.setCell ?_ (by first | assumption | (simp; done) | (simp; omega)) _ | refine Ext.trans ?_ (by assumption))))).mono ?_; rintro e w2 ⟨rfl, e2⟩; obtain ⟨y1, y2⟩ := bcell e2; have z2 : w.heap.size + 2 < w2.heap.size := (by have := e2.size; simp at this; omega); have c0 : w2.cell? ⟨w.heap.size + 2, 0, none⟩ = some (.int .i64 0) := (by rw [y1 _ _ (by first | (simp; done) | (simp; omega))]; go_simp); have c1 : w2.cell? ⟨w.heap.size + 2, 1, none⟩ = some (.int .i64 0) := (by rw [y1 _ _ (by first | (simp; done) | (simp; omega))]; go_simp); have f0 : w2.frozen? ⟨w.heap.size + 2, 0, none⟩ = false := (by rw [y2 _ _ (by first | (simp; done) | (simp; omega))]; go_simp); have f1 : w2.frozen? ⟨w.heap.size + 2, 1, none⟩ = false := (by rw [y2 _ _ (by first | (simp; done) | (simp; omega))]; go_simp))
          | (go_at_call 12; refine (HA.out (by trivial) ⟨q0, q1⟩ ⟨q2, q3⟩ _).mono ?_; rintro e w3 ⟨rfl, e3⟩; obtain ⟨y3, y4⟩ := bcell e3; have z3 : w.heap.size + 2 < w3.heap.size := (by have := e3.size; omega); have c2 : w3.cell? ⟨w.heap.size + 2, 0, none⟩ = some (.int .i64 0) := (by rw [y3 _ _ z2]; exact c0); have c3 : w3.cell? ⟨w.heap.size + 2, 1, none⟩ = some (.int .i64 0) := (by rw [y3 _ _ z2]; exact c1); have f2 : w3.frozen? ⟨w.heap.size + 2, 0, none⟩ = false := (by rw [y4 _ _ z2]; exact f0); have f3 : w3.frozen? ⟨w.heap.size + 2, 1, none⟩ = false := (by rw [y4 _ _ z2]; exact f1)))
        refine bodyPost_ret (v := .tuple #[.agg #[.int .i64 av, .int .i64 an], .int .i64 0]) (by simp [results, Try.results8, go_sem, *]) rfl ⟨by rw [hv.out]; try rfl, by (repeat (first | exact Below.refl _ _ | exact Ext.refl _ | assumption | refine Below.drew ?_ | refine below_drewN ?_ _ | refine below_alloc ?_ (by first | exact Nat.le_refl _ | assumption | (simp; done) | omega | (simp; omega)) _ | refine below_ext ?_ (by assumption) (by first | exact Nat.le_refl _ | assumption | (simp; done) | omega | (simp; omega)) | refine Ext.drew ?_ | refine Ext.drewN ?_ _ | refine Ext.alloc ?_ _ | refine Ext.setCell ?_ (by first | assumption | (simp; done) | (simp; omega)) _ | refine Below.setCell ?_ (by first | assumption | (simp; done) | (simp; omega)) _ | refine Ext.trans ?_ (by assumption)))⟩
    · have hv : Hid (v = ⟨0, 0, re⟩) := by rw [Hid, hv.out, if_pos hre]
      have hr2 : (re != 0) = true := by simpa using hre
      go_enter Try.func8, Try.ntmps8
      go_wp2_with (first
        | (go_at_call 11; refine (HC.out _ (by (repeat (first | exact Below.refl _ _ | exact Ext.refl _ | assumption | refine Below.drew ?_ | refine below_drewN ?_ _ | refine below_alloc ?_ (by first | exact Nat.le_refl _ | assumption | (simp; done) | omega | (simp; omega)) _ | refine below_ext ?_ (by assumption) (by first | exact Nat.le_refl _ | assumption | (simp; done) | omega | (simp; omega)) | refine Ext.drew ?_ | refine Ext.drewN ?_ _ | refine Ext.alloc ?_ _ | refine Ext.setCell ?_ (by first | assumption | (simp; done) | (simp; omega)) _ | refine Below.setCell ?_ (by first | assumption | (simp; done) | (simp; omega)) _ | refine Ext.trans ?_ (by assumption))))).mono ?_; rintro e w2 ⟨rfl, e2⟩; obtain ⟨y1, y2⟩ := bcell e2; have z2 : w.heap.size + 2 < w2.heap.size := (by have := e2.size; simp at this; omega); have c0 : w2.cell? ⟨w.heap.size + 2, 0, none⟩ = some (.int .i64 0) := (by rw [y1 _ _ (by first | (simp; done) | (simp; omega))]; go_simp); have c1 : w2.cell? ⟨w.heap.size + 2, 1, none⟩ = some (.int .i64 0) := (by rw [y1 _ _ (by first | (simp; done) | (simp; omega))]; go_simp); have f0 : w2.frozen? ⟨w.heap.size + 2, 0, none⟩ = false := (by rw [y2 _ _ (by first | (simp; done) | (simp; omega))]; go_simp); have f1 : w2.frozen? ⟨w.heap.size + 2, 1, none⟩ = false := (by rw [y2 _ _ (by first | (simp; done) | (simp; omega))]; go_simp)))
      refine bodyPost_ret (v := .tuple #[.agg #[.int .i64 0, .int .i64 0], .int .i64 re]) (by simp [results, Try.results8, go_sem, *]) rfl ⟨by rw [hv.out]; try rfl, by (repeat (first | exact Below.refl _ _ | exact Ext.refl _ | assumption | refine Below.drew ?_ | refine below_drewN ?_ _ | refine below_alloc ?_ (by first | exact Nat.le_refl _ | assumption | (simp; done) | omega | (simp; omega)) _ | refine below_ext ?_ (by assumption) (by first | exact Nat.le_refl _ | assumption | (simp; done) | omega | (simp; omega)) | refine Ext.drew ?_ | refine Ext.drewN ?_ _ | refine Ext.alloc ?_ _ | refine Ext.setCell ?_ (by first | assumption | (simp; done) | (simp; omega)) _ | refine Below.setCell ?_ (by first | assumption | (simp; done) | (simp; omega)) _ | refine Ext.trans ?_ (by assumption)))⟩
end Go.Proofs.Ytmbnmggpnbapbaa
