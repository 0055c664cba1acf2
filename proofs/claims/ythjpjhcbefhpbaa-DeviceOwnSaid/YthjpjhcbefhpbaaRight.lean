/- small, right. -/
import Derived.Test.YthjpjhcbefhpbaaDalive
import Derived.Laws.CopyOwn
namespace Go.Proofs.Ythjpjhcbefhpbaa
open Go.RowKit
set_option linter.unusedSimpArgs false
set_option linter.unusedVariables false

theorem turnN (a : Int) (N : Nat) (hN : 0 < N) : -(N : Int) < a.tmod N ∧ a.tmod N < N ∧ 0 ≤ a.tmod N + N ∧ 0 ≤ (a.tmod N + N) % N ∧ (a.tmod N + N) % N < N := by
  have h1 : a.tmod N < N := Int.tmod_lt_of_pos a (by omega)
  have h2 : -(N : Int) < a.tmod N := by
    rcases Int.le_total 0 a with h | h
    · have := Int.tmod_nonneg (N : Int) h
      omega
    · have := Int.tmod_lt_of_pos (-a) (show (0 : Int) < N by omega)
      rw [Int.neg_tmod] at this
      omega
  exact ⟨h2, h1, by omega, Int.emod_nonneg _ (by omega), Int.emod_lt_of_pos _ (by omega)⟩
theorem turn14 (a : Int) : -14 < a.tmod 14 ∧ a.tmod 14 < 14 ∧ 0 ≤ a.tmod 14 + 14 ∧ 0 ≤ (a.tmod 14 + 14) % 14 ∧ (a.tmod 14 + 14) % 14 < 14 := turnN a 14 (by omega)
def SomeInt' (P : Nat → Prop) (e : Ending) : Prop := ∃ k : Nat, P k ∧ e = .returned (.int .i64 (k : Int))
set_option maxHeartbeats 2000000 in
theorem small_any (w : World) (n : Int) (h0 : -9223372036854775808 ≤ n) (h1 : n ≤ 9223372036854775807) : Calls Try.prog 8 #[.int .i64 n] w fun e w' => SomeInt' (fun k => 2 ≤ k ∧ k ≤ 15) e ∧ w = w' := by
  obtain ⟨t1, t2, t3, t4, t5⟩ := turn14 n
  go_enter Try.func8, Try.ntmps8
  go_wp2
  go_ret
  exact ⟨⟨(2 + n.tmod 14 % 14).toNat, ⟨by omega, by omega⟩, congrArg (fun z => Ending.returned (.int .i64 z)) (by omega)⟩, rfl⟩
set_option maxRecDepth 100000 in
set_option maxHeartbeats 2000000 in
theorem right_flush (w : World) (p n : Int) (o : Oct) : Calls Try.prog 10 #[.agg #[.bool true, .int .i64 p, o.val], .int .i64 n] w fun e w' => e = .returned (.agg #[.bool true, .int .i64 0, .slice none 0 0]) ∧ Ext w w' := by
  go_enter Try.func10, Try.ntmps10
  go_wp2
  refine bodyPost_ret (v := .agg #[.bool true, .int .i64 0, .slice none 0 0]) (by simp [results, Try.results10, go_sem, *]) rfl ⟨rfl, ?_⟩
  exact ((Ext.refl _).alloc _).alloc _
set_option maxRecDepth 100000 in
set_option maxHeartbeats 2000000 in
theorem right_write (w : World) (p : Int) (n : Nat) (o : Oct) (p0 : -9223372036854775808 ≤ p) (p1 : p ≤ 9223372036854775807) (n0 : 0 < n) (n1 : n ≤ 1000) (ho : Oct.At w 0 w.heap.size o) :
    Calls Try.prog 10 #[.agg #[.bool false, .int .i64 p, o.val], .int .i64 (n : Int)] w fun e w' => (e = .returned (.agg #[.bool false, .int .i64 (p.tmod n % n), .slice (some ⟨w.heap.size + 2, 0, none⟩) 64 64])) ∧ Ext w w' ∧ Rd w' w.heap.size w'.heap.size (some ⟨w.heap.size + 2, 0, none⟩) (splice (bytes (zeros 64)) 0 (bytes (o.xs.take 64))) := by
  obtain ⟨t1, t2, t3, t4, t5⟩ := turnN p n n0
  have k2 := mk64
  have HO := Lib.hid ho
  have hne : ((n : Int) == 0) = false := by simp; omega
  clear ho
  go_enter Try.func10, Try.ntmps10
  have hlen : (bytes (o.xs.take 64)).length = Nat.min o.n 64 := by
    have h9 : o.n = o.xs.length := HO.out.len
    simp only [bytes, List.length_map, List.length_take]
    rw [h9]; exact Nat.min_comm _ _
  have hone : ∀ v ∈ bytes (o.xs.take 64), v.oneCell' = true := by
    intro v hv
    simp only [bytes, List.mem_map] at hv
    obtain ⟨x, _, rfl⟩ := hv
    rfl
  have hg2 : ∀ A B C, (((w.alloc A).alloc B).alloc C).heap[w.heap.size + 2]? = some C := by
    intro A B C
    show ((w.heap.push A).push B |>.push C)[w.heap.size + 2]? = some C
    have e9 : w.heap.size + 2 = ((w.heap.push A).push B).size := by simp
    rw [e9, Array.getElem?_push_size]
  have hp3 : ∀ A B C, 0 < (bytes (o.xs.take 64)).length → (some ⟨w.heap.size + 2, 0, none⟩ : Option Addr) = some ⟨w.heap.size + 2, 0, none⟩ ∧ ∃ ad, o.A = some ad ∧ ∀ j v, (bytes (o.xs.take 64))[j]? = some v → (((w.alloc A).alloc B).alloc C).cell? (ad.add j) = some v := by
    intro A B C h0
    have hr := HO.out.rdb
    have e3 : Ext w (((w.alloc A).alloc B).alloc C) := (((Ext.refl _).alloc _).alloc _).alloc _
    obtain ⟨b, f, h1, h2, h3, h4⟩ := hr (by intro h; simp [bytes] at h h0; simp [h] at h0)
    refine ⟨rfl, _, h1, fun j v hj => ?_⟩
    have h5 : (bytes o.xs)[j]? = some v := by
      rw [bytes, List.getElem?_map] at hj ⊢
      rw [List.getElem?_take] at hj
      split at hj
      · exact hj
      · simp at hj
    rw [show (⟨b, f, none⟩ : Addr).add j = ⟨b, f + j, none⟩ by simp [Addr.add]]
    exact (Below.cell e3 (p := ⟨b, f + j, none⟩) h3).trans (h4 j v h5)
  have hz : (bytes (zeros 64)).length = 64 := by rfl
  have hmin : Nat.min o.n 64 ≤ 64 := Nat.min_le_right _ _
  go_wp2_with (refine wpList_copy_splice rfl (.tmp 10) (.tmp 12) 34 34 rfl 5 rfl (by rfl) (some ⟨w.heap.size + 2, 0, none⟩) o.A 64 64 o.n o.c (by rfl) (by rfl) (w.heap.size + 2) 0 (bytes (zeros 64)) 5 (hg2 _ _ _) (bytes (o.xs.take 64)) hlen (hp3 _ _ _) (by omega) hone (w.heap.size + 2) ((w.alloc (.cells #[.bool false, .int .i64 p, o.val] 36)).alloc (.cells #[.bool false, .int .i64 0, .slice none 0 0] 36)) ((Below.refl _ _).alloc (by simp) _) (by omega) (fun w4 g4 b4 => ?_); have q0 : w4.cell? ⟨w.heap.size, 1, none⟩ = some (.int .i64 p) := (by rw [Below.cell b4 (by simp)]; go_simp); have q1 : w4.cell? ⟨w.heap.size + 1, 0, none⟩ = some (.bool false) := (by rw [Below.cell b4 (by simp)]; go_simp); have q2 : w4.cell? ⟨w.heap.size + 1, 1, none⟩ = some (.int .i64 0) := (by rw [Below.cell b4 (by simp)]; go_simp); have q3 : w4.cell? ⟨w.heap.size + 1, 2, none⟩ = some (.slice none 0 0) := (by rw [Below.cell b4 (by simp)]; go_simp); have q4 : w4.frozen? ⟨w.heap.size + 1, 0, none⟩ = false := (by rw [Below.frozen b4 (by simp)]; go_simp); have q5 : w4.frozen? ⟨w.heap.size + 1, 1, none⟩ = false := (by rw [Below.frozen b4 (by simp)]; go_simp); have q6 : w4.frozen? ⟨w.heap.size + 1, 2, none⟩ = false := (by rw [Below.frozen b4 (by simp)]; go_simp))
  have x4 : Ext w w4 := Below.trans (((Ext.refl _).alloc _).alloc _) (Below.mono b4 (by simp))
  have z4 : w.heap.size < w4.heap.size := Nat.lt_of_lt_of_le (by simp; omega) b4.size
  refine bodyPost_ret (v := .agg #[.bool false, .int .i64 (p.tmod n % n), .slice (some ⟨w.heap.size + 2, 0, none⟩) 64 64]) (by simp [results, Try.results10, go_sem, *]) rfl ⟨rfl, by (repeat (first | exact Below.refl _ _ | exact Ext.refl _ | assumption | refine Below.drew ?_ | refine below_drewN ?_ _ | refine below_alloc ?_ (by first | exact Nat.le_refl _ | assumption | (simp; done) | omega | (simp; omega)) _ | refine below_ext ?_ (by assumption) (by first | exact Nat.le_refl _ | assumption | (simp; done) | omega | (simp; omega)) | refine Ext.drew ?_ | refine Ext.drewN ?_ _ | refine Ext.alloc ?_ _ | refine Ext.setCell ?_ (by first | assumption | (simp; done) | (simp; omega)) _ | refine Below.setCell ?_ (by first | assumption | (simp; done) | (simp; omega)) _ | refine Ext.trans ?_ (by assumption))), ?_⟩
  have z5 : w.heap.size + 2 < w4.heap.size := by
    refine Decidable.byContradiction fun hc => ?_
    have h9 := g4.out
    rw [Array.getElem?_eq_none (by omega)] at h9
    simp at h9
  have R4 : Rd w4 (w.heap.size + 2) w4.heap.size (some ⟨w.heap.size + 2, 0, none⟩) (splice (bytes (zeros 64)) 0 (bytes (o.xs.take 64))) := fun _ => ⟨_, 0, rfl, Nat.le_refl _, z5, fun j u hj => by
    simp [World.cell?, g4.out, hj]⟩
  have R5 := (((R4.setCell_low (p := ⟨w.heap.size + 1, 0, none⟩) (by simp) (.bool false)).setCell_low (p := ⟨w.heap.size + 1, 1, none⟩) (by simp) (.int .i64 (p.tmod n % n))).setCell_low (p := ⟨w.heap.size + 1, 2, none⟩) (by simp) (.slice (some ⟨w.heap.size + 2, 0, none⟩) 64 64)).more (lo' := w.heap.size) (by omega) (Nat.le_refl _)
  simpa using R5
end Go.Proofs.Ythjpjhcbefhpbaa
