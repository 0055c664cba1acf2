/- The walks of the example 'alive' and of AuditLast. -/
import Derived.Test.YtehdfiiflhpoiaaA1
namespace Go.Proofs.Ytehdfiiflhpoiaa
open Go.RowKit

def ent0 : Ent := ⟨.empty, 0, .empty, 0⟩
def made16 : Array Value := (ents (List.replicate 16 ent0)).toArray
theorem made16_eq : madeCells (Value.agg #[.string .empty, .int .i64 0, .string .empty, .int .i64 0]).cells (Int.toNat 16 * 4) = made16 := by kernel_rfl
theorem mk16 (u : World) : (Instr.makeSlice 22 (.int .i64 16) (.int .i64 16)).run Try.prog u = .ok (.slice (some ⟨u.heap.size, 0, none⟩) 16 16) (u.alloc (.cells made16 25)) := by
  obtain ⟨i0, hi0, hz0, hz1, hz2⟩ := info_parts info25
  have h := run_make (P := Try.prog) u 22 25 i0 _ Try.underlying22 hi0 hz0 .i64 .i64 16 16 (by omega) (by omega) (by omega) (by omega)
  rw [hz1, made16_eq] at h
  exact h
def lastU : Ent := ⟨⟨#[117]⟩, 0, ⟨#[]⟩, 0⟩
set_option maxHeartbeats 400000 in
theorem alive_any (w : World) :
    Calls Try.prog 6 #[] w fun e w' => e = .returned (.bool true) ∧ Ext w w' := by
  have hmk := mk16
  go_enter Try.func6, Try.ntmps6
  go_wp2_with fail
  clear hmk
  have hrd := rd_new w made16 25
  generalize hw1 : World.alloc w _ = w1 at *
  obtain ⟨e1, z1, _⟩ := box_cells hw1
  clear hw1
  refine (add_any w1 _ 16 16 (ents (List.replicate 16 ent0)) ⟨#[117]⟩ ⟨#[]⟩ 0 0 rfl (by rw [z1]; exact hrd.more (Nat.zero_le _) (Nat.le_refl _)) (ents_one _) (by omega)).mono ?_
  rintro e w2 ⟨A, m, rfl, hm, hwr, e2⟩
  obtain rfl : m = 16 := hm
  have hw : ents (List.replicate 16 ent0) ++ [.string ⟨#[117]⟩, .int .i64 0, .string ⟨#[]⟩, .int .i64 0] = ents (List.replicate 16 ent0 ++ [lastU]) := (ents_append _ [lastU]).symm
  rw [hw, ents_drop] at hwr
  obtain ⟨b, o, rfl, h1, h2, g0, g1, g2, g3⟩ := rd_ent hwr.rd (k := 15) (by simp)
  have e3 : Ext w w2 := e1.trans e2
  clear hwr hw hrd g1 g2 g3
  have g0' : w2.cell? ⟨b, o + 60, none⟩ = some (.string ⟨#[117]⟩) := g0
  clear g0
  go_wp2
  go_ret
  exact ⟨rfl, e3⟩

set_option maxHeartbeats 400000 in
theorem last_any (w : World) (A : Option Addr) (n c : Nat) (xs : List Ent) (x : Ent) (hn : n = xs.length) (hr : Rd w 0 w.heap.size A (ents xs)) (hb : (n + 1) * 48 ≤ 140737488355328) :
    Calls Try.prog 3 #[.slice A n c, .agg #[.string x.user, .int .i64 x.kind, .string x.path, .int .i64 x.err]] w fun e w' => e = .returned (.bool true) ∧ Ext w w' := by
  have hl : (ents xs).length = n * 4 := by rw [ents_length, hn]
  have Hn := Lib.hid hn
  clear hn
  have hneq := neq25
  have hgd := guardrun25
  go_enter Try.func3, Try.ntmps3
  go_wp2_with fail
  generalize hw1 : World.alloc w _ = w1; obtain ⟨ew1, zw1, Gw1⟩ := box_cells hw1; have gw1_0 := Gw1 0 _ rfl; have gw1_1 := Gw1 1 _ rfl; have gw1_2 := Gw1 2 _ rfl; have gw1_3 := Gw1 3 _ rfl; have Zw1 := Lib.hid zw1; clear zw1 hw1 Gw1
  refine (alive_any _).mono ?_
  rintro e w2 ⟨rfl, e2⟩
  have e3 : Ext w1 w2 := by (repeat (first | exact Below.refl _ _ | exact Ext.refl _ | assumption | refine Below.drew ?_ | refine below_drewN ?_ _ | refine below_alloc ?_ (by first | exact Nat.le_refl _ | assumption | (simp; done) | omega | (simp; omega)) _ | refine below_ext ?_ (by assumption) (by first | exact Nat.le_refl _ | assumption | (simp; done) | omega | (simp; omega)) | refine Ext.drew ?_ | refine Ext.drewN ?_ _ | refine Ext.alloc ?_ _ | refine Ext.setCell ?_ (by first | assumption | (simp; done) | (simp; omega)) _ | refine Below.setCell ?_ (by first | assumption | (simp; done) | (simp; omega)) _ | refine Ext.trans ?_ (by assumption)))
  go_wp2_with fail
  refine (add_any _ A n c (ents xs) _ _ _ _ hl (hr.at (by (repeat (first | exact Below.refl _ _ | exact Ext.refl _ | assumption | refine Below.drew ?_ | refine below_drewN ?_ _ | refine below_alloc ?_ (by first | exact Nat.le_refl _ | assumption | (simp; done) | omega | (simp; omega)) _ | refine below_ext ?_ (by assumption) (by first | exact Nat.le_refl _ | assumption | (simp; done) | omega | (simp; omega)) | refine Ext.drew ?_ | refine Ext.drewN ?_ _ | refine Ext.alloc ?_ _ | refine Ext.setCell ?_ (by first | assumption | (simp; done) | (simp; omega)) _ | refine Below.setCell ?_ (by first | assumption | (simp; done) | (simp; omega)) _ | refine Ext.trans ?_ (by assumption)))) (Nat.le_refl _)) (ents_one _) hb).mono ?_
  rintro e w3 ⟨A3, m, rfl, hm, hwr, e4⟩
  have hall : ents xs ++ [.string x.user, .int .i64 x.kind, .string x.path, .int .i64 x.err] = ents (xs ++ [x]) := by rw [ents_append]; rfl
  rw [hall, ents_drop] at hwr
  have e5 : Ext w1 w3 := by (repeat (first | exact Below.refl _ _ | exact Ext.refl _ | assumption | refine Below.drew ?_ | refine below_drewN ?_ _ | refine below_alloc ?_ (by first | exact Nat.le_refl _ | assumption | (simp; done) | omega | (simp; omega)) _ | refine below_ext ?_ (by assumption) (by first | exact Nat.le_refl _ | assumption | (simp; done) | omega | (simp; omega)) | refine Ext.drew ?_ | refine Ext.drewN ?_ _ | refine Ext.alloc ?_ _ | refine Ext.setCell ?_ (by first | assumption | (simp; done) | (simp; omega)) _ | refine Below.setCell ?_ (by first | assumption | (simp; done) | (simp; omega)) _ | refine Ext.trans ?_ (by assumption)))
  have hm1 : 1 ≤ m := by omega
  have hm2 : m ≤ 16 := by omega
  have hm3 : m ≤ n + 1 := by omega
  have Hm := Lib.hid hm
  clear hm hall
  have hlen : ((xs ++ [x]).drop (n + 1 - m)).length = m := by rw [List.length_drop, List.length_append, ← Hn.out]; simp; omega
  obtain ⟨b, o, rfl, h1, h2, g0, g1, g2, g3⟩ := rd_ent hwr.rd (k := m - 1) (by rw [hlen]; omega)
  have hx : ((xs ++ [x]).drop (n + 1 - m))[m - 1]'(by rw [hlen]; omega) = x := by
    rw [List.getElem_drop]
    have : n + 1 - m + (m - 1) = xs.length := by rw [← Hn.out]; omega
    simp [this]
  rw [hx] at g0 g1 g2 g3
  clear hx
  have Hl := Lib.hid hlen
  have HL := Lib.hid hl
  clear hlen hl
  have b1 : ((m : Int) == 0) = false := by simp; omega
  have b2 : decide ((16 : Int) < (m : Int)) = false := by simp; omega
  have b3 : decide ((n : Int) + 1 < (m : Int)) = false := by simp; omega
  have b4 : Ent.eqB ⟨x.user, x.kind, x.path, x.err⟩ ⟨x.user, x.kind, x.path, x.err⟩ = true := (Ent.eqB_iff _ _).2 rfl
  go_wp2_with fail
  go_quiet (fail)
  clear g0 g1 g2 g3 b1 b2 b3 b4
  go_wp2_with fail
  go_loopw [7] (fun i wr => ∃ k : Nat, k ≤ m - 1 ∧ i = .int .i64 k ∧ Ext w3 wr) (fun i _ => m - (intOf i).toNat)
  case atStart => exact ⟨0, Nat.zero_le _, rfl, by (repeat (first | exact Below.refl _ _ | exact Ext.refl _ | assumption | refine Below.drew ?_ | refine below_drewN ?_ _ | refine below_alloc ?_ (by first | exact Nat.le_refl _ | assumption | (simp; done) | omega | (simp; omega)) _ | refine below_ext ?_ (by assumption) (by first | exact Nat.le_refl _ | assumption | (simp; done) | omega | (simp; omega)) | refine Ext.drew ?_ | refine Ext.drewN ?_ _ | refine Ext.alloc ?_ _ | refine Ext.setCell ?_ (by first | assumption | (simp; done) | (simp; omega)) _ | refine Below.setCell ?_ (by first | assumption | (simp; done) | (simp; omega)) _ | refine Ext.trans ?_ (by assumption)))⟩
  case round =>
    obtain ⟨k, hk, rfl, e6⟩ := hrel
    by_cases hlt : k < m - 1
    · obtain ⟨b', o', hbo, _, _, f0, f1, f2, f3⟩ := rd_ent (hwr.rd.ext e6 (Nat.le_refl _)) (k := k) (by rw [Hl.out]; omega)
      simp only [Option.some.injEq, Addr.mk.injEq, and_true] at hbo
      obtain ⟨rfl, rfl⟩ := hbo
      obtain ⟨b2, o2, rfl, _, _, d0, d1, d2, d3⟩ := rd_ent (hr.at (w' := wr) (by (repeat (first | exact Below.refl _ _ | exact Ext.refl _ | assumption | refine Below.drew ?_ | refine below_drewN ?_ _ | refine below_alloc ?_ (by first | exact Nat.le_refl _ | assumption | (simp; done) | omega | (simp; omega)) _ | refine below_ext ?_ (by assumption) (by first | exact Nat.le_refl _ | assumption | (simp; done) | omega | (simp; omega)) | refine Ext.drew ?_ | refine Ext.drewN ?_ _ | refine Ext.alloc ?_ _ | refine Ext.setCell ?_ (by first | assumption | (simp; done) | (simp; omega)) _ | refine Below.setCell ?_ (by first | assumption | (simp; done) | (simp; omega)) _ | refine Ext.trans ?_ (by assumption)))) (Nat.le_refl _)) (k := n - (m - 1) + k) (by rw [← Hn.out]; omega)
      have hxx : ((xs ++ [x]).drop (n + 1 - m))[k]'(by rw [Hl.out]; omega) = xs[n - (m - 1) + k]'(by rw [← Hn.out]; omega) := by
        have h1 := Hn.out
        rw [List.getElem_drop, List.getElem_append_left (by omega)]
        congr 1
        omega
      rw [hxx] at f0 f1 f2 f3
      clear hxx
      generalize xs[n - (m - 1) + k]'(by rw [← Hn.out]; omega) = y at *
      have b4 : Ent.eqB ⟨y.user, y.kind, y.path, y.err⟩ ⟨y.user, y.kind, y.path, y.err⟩ = true := (Ent.eqB_iff _ _).2 rfl
      go_wp2_with fail
      go_quiet (fail)
      go_wp2_with fail
      go_roundw
      case rel => exact ⟨k + 1, by omega, by go_num, by (repeat (first | exact Below.refl _ _ | exact Ext.refl _ | assumption | refine Below.drew ?_ | refine below_drewN ?_ _ | refine below_alloc ?_ (by first | exact Nat.le_refl _ | assumption | (simp; done) | omega | (simp; omega)) _ | refine below_ext ?_ (by assumption) (by first | exact Nat.le_refl _ | assumption | (simp; done) | omega | (simp; omega)) | refine Ext.drew ?_ | refine Ext.drewN ?_ _ | refine Ext.alloc ?_ _ | refine Ext.setCell ?_ (by first | assumption | (simp; done) | (simp; omega)) _ | refine Below.setCell ?_ (by first | assumption | (simp; done) | (simp; omega)) _ | refine Ext.trans ?_ (by assumption)))⟩
      case measure => simp [intOf]; omega
    · go_wp2_with fail
      go_ret
      exact ⟨rfl, by (repeat (first | exact Below.refl _ _ | exact Ext.refl _ | assumption | refine Below.drew ?_ | refine below_drewN ?_ _ | refine below_alloc ?_ (by first | exact Nat.le_refl _ | assumption | (simp; done) | omega | (simp; omega)) _ | refine below_ext ?_ (by assumption) (by first | exact Nat.le_refl _ | assumption | (simp; done) | omega | (simp; omega)) | refine Ext.drew ?_ | refine Ext.drewN ?_ _ | refine Ext.alloc ?_ _ | refine Ext.setCell ?_ (by first | assumption | (simp; done) | (simp; omega)) _ | refine Below.setCell ?_ (by first | assumption | (simp; done) | (simp; omega)) _ | refine Ext.trans ?_ (by assumption)))⟩
end Go.Proofs.Ytehdfiiflhpoiaa
