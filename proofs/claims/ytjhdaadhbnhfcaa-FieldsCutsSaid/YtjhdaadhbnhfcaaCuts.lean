/- The walk of FieldsCuts. -/
import Derived.Test.YtjhdaadhbnhfcaaBack
namespace Go.Proofs.Ytjhdaadhbnhfcaa
open Go.RowKit

theorem wB_pos (l : List ByteArray) (h : wE l = 0) : 2 ≤ (wB l).length := by
  rw [wB, if_pos h, flat, List.length_append, puts_length]
  omega
theorem turn (a : Int) (N : Nat) (hN : 0 < N) : -(N : Int) < a.tmod N ∧ a.tmod N < N ∧ 0 ≤ a.tmod N + N ∧ 0 ≤ a.tmod N % N ∧ a.tmod N % N < N := by
  have h1 : a.tmod N < N := Int.tmod_lt_of_pos a (by omega)
  have h2 : -(N : Int) < a.tmod N := by
    rcases Int.le_total 0 a with h | h
    · have := Int.tmod_nonneg (N : Int) h
      omega
    · have := Int.tmod_lt_of_pos (-a) (show (0 : Int) < N by omega)
      rw [Int.neg_tmod] at this
      omega
  exact ⟨h2, h1, by omega, Int.emod_nonneg _ (by omega), Int.emod_lt_of_pos _ (by omega)⟩


set_option maxHeartbeats 2000000 in
theorem cuts_law (w : World) (A B : Option Addr) (n c m d : Nat) (l : List ByteArray) (a : Int) (b : List UInt8) (hn : n = l.length) (hm : m = b.length) (hnn : n ≤ 140737488355328) (hmm : m ≤ 140737488355328) 
    (hr : Rd w 0 w.heap.size A (l.map Value.string)) (hs : Rd w 0 w.heap.size B (bytes b)) :
    Calls Try.prog 5 #[.slice A n c, .int .i64 a, .slice B m d] w (BackOk w) := by
  obtain ⟨i0, hi0, hz0, hz1, hz2⟩ := info_parts info5
  have Hn := Lib.hid hn
  have Hm := Lib.hid hm
  have hwl := wB_len l
  clear hn hm
  go_enter Try.func5, Try.ntmps5
  go_wp2_with fail
  refine (alive_any w).mono ?_
  rintro e w1 ⟨rfl, e1⟩
  go_wp2_with fail
  refine (write_any w1 A n c l Hn.out (by omega) (hr.at (by (repeat (first | exact Below.refl _ _ | exact Ext.refl _ | assumption | refine Below.drew ?_ | refine below_drewN ?_ _ | refine below_alloc ?_ (by first | exact Nat.le_refl _ | assumption | (simp; done) | omega | (simp; omega)) _ | refine below_ext ?_ (by assumption) (by first | exact Nat.le_refl _ | assumption | (simp; done) | omega | (simp; omega)) | refine Ext.drew ?_ | refine Ext.drewN ?_ _ | refine Ext.alloc ?_ _ | refine Ext.setCell ?_ (by first | assumption | (simp; done) | (simp; omega)) _ | refine Below.setCell ?_ (by first | assumption | (simp; done) | (simp; omega)) _ | refine Ext.trans ?_ (by assumption)))) (Nat.le_refl _))).mono ?_
  rintro e w2 ⟨v2, rfl, hown2, e2⟩
  obtain ⟨A2, c2, rfl, hc2, hc2', _⟩ := own_form hown2
  simp only [maxLen] at hc2'
  go_wp2_with fail
  refine (num_any _ _).mono ?_
  rintro e w3 ⟨rfl, e3⟩
  have e4 : Ext w w3 := by (repeat (first | exact Below.refl _ _ | exact Ext.refl _ | assumption | refine Below.drew ?_ | refine below_drewN ?_ _ | refine below_alloc ?_ (by first | exact Nat.le_refl _ | assumption | (simp; done) | omega | (simp; omega)) _ | refine below_ext ?_ (by assumption) (by first | exact Nat.le_refl _ | assumption | (simp; done) | omega | (simp; omega)) | refine Ext.drew ?_ | refine Ext.drewN ?_ _ | refine Ext.alloc ?_ _ | refine Ext.setCell ?_ (by first | assumption | (simp; done) | (simp; omega)) _ | refine Below.setCell ?_ (by first | assumption | (simp; done) | (simp; omega)) _ | refine Ext.trans ?_ (by assumption)))
  by_cases hw0 : wE l = 0
  · have HW := Lib.hid hw0
    have h2 := wB_pos l hw0
    rw [hw0]
    clear hw0
    have own3 := own_ext hown2 e3
    obtain ⟨N, hN⟩ : ∃ N, N = (wB l).length := ⟨_, rfl⟩
    rw [← hN] at hc2 hwl h2 own3 ⊢
    have HN := Lib.hid hN
    clear hown2 hN e1 e2 e3
    obtain ⟨t1, t2, t3, t4, t5⟩ := turn a N (by omega)
    have t6 : a.tmod N % N ≤ (c2 : Int) := by omega
    have t7 : ¬ (N : Int) = 0 := by omega
    have t8 : ((N : Int) == 0) = false := by simp; omega
    obtain ⟨k, hk⟩ : ∃ k : Nat, a.tmod N % N = k := ⟨_, (Int.toNat_of_nonneg t4).symm⟩
    go_wp2_with fail
    clear t7 t8
    rw [hk] at t4 t5 t6
    clear hk t1 t2 t3
    have hkN : k < (wB l).length := by rw [← HN.out]; omega
    have hcut := Lib.hid (rd_cut l HW.out k hkN)
    have hrA : Rd w3 0 w3.heap.size A2 (bytes (wB l)) := (Rd.of_own own3).more (Nat.zero_le _) (Nat.le_refl _)
    refine (read_any w3 A2 k c2 ((wB l).take k) (by rw [List.length_take]; omega) (by omega) (by rw [bytes, List.map_take]; exact hrA.take k) (by omega) hc2').mono ?_
    rintro e w4 ⟨v4, rfl, _, e5⟩
    rw [hcut.out]
    have e6 : Ext w w4 := e4.trans e5
    clear t4 t5 t6 hkN hcut
    have Hm2 := Lib.hid (show (bytes (wB l)).length = N * 1 by rw [bytes_length, ← HN.out, Nat.mul_one])
    obtain ⟨vx, hvx⟩ : ∃ vx, vx = Value.slice A2 N c2 := ⟨_, rfl⟩
    rw [← hvx]
    have Hvx := Lib.hid hvx
    clear hvx
    have Hn2 := Lib.hid (show (bytes b).length = m * 1 by rw [bytes_length, ← Hm.out, Nat.mul_one])
    go_wp2_with (first
      | (at_builtin
         refine list_app0 _ rfl (.tmp 44) (.tmp 45) _ rfl 5 i0 _ 1 1 Try.underlying30 hi0 hz0 hz1 hz2 rfl (by omega) rfl 0 _ A2 N c2 (bytes (wB l)) Hvx.out Hm2.out (hrA.at (w' := w4) e5 (Nat.le_refl _)) (bytes_one _) (by simp only [maxLen]; omega) (by omega) ?_
         intro v5 w5 hown5 e7
         have e8 : Ext w w5 := e6.trans e7)
      | (at_builtin
         refine list_app_wide _ rfl (.tmp 46) (.tmp 47) _ rfl 5 i0 _ 1 1 Try.underlying30 hi0 hz0 hz1 hz2 rfl (by omega) w4.heap.size v5 N _ rfl hown5 0 _ B m d (bytes b) rfl Hn2.out (hs.at (w' := w5) e8 (Nat.le_refl _)) (bytes_one _) (by simp only [maxLen]; omega) (by omega) (by omega) e7.size ?_
         intro v6 w6 hown6 he6 _
         have e9 : Ext w w6 := e6.trans (he6 w4 e7 (Nat.le_refl _))
         clear he6 hown5 e7 e8))
    obtain ⟨A6, c6, rfl, hc6, hc6', _⟩ := own_form hown6
    simp only [maxLen] at hc6'
    have hb6 : bytes (wB l) ++ bytes b = bytes (wB l ++ b) := by simp [bytes]
    rw [hb6] at hown6
    clear hb6
    have hl6 := Lib.hid (show N + m = (wB l ++ b).length by rw [List.length_append, ← HN.out, ← Hm.out])
    refine (read_any w6 A6 (N + m) c6 (wB l ++ b) hl6.out hc6 ((Rd.of_own hown6).more (Nat.zero_le _) (Nat.le_refl _)) (by omega) hc6').mono ?_
    rintro e w7 ⟨v7, rfl, _, e10⟩
    have e11 : Ext w w7 := e9.trans e10
    clear e10 e9 e6 e5 hown6
    have hfl := Lib.hid (rd_flat l HW.out b)
    rw [hfl.out]
    rw [← Hm.out]
    by_cases hm0 : m = 0
    · subst hm0
      rw [if_neg (by omega)]
      go_wp2_with (go_at_call 10; refine (num_any _ _).mono ?_; rintro e w8 ⟨rfl, e12⟩; replace e11 := e11.trans e12; clear e12)
      go_ret
      exact ⟨rfl, e11⟩
    · rw [if_pos (by omega)]
      have m1 : ((m : Int) == 0) = false := by simp; omega
      go_wp2_with (go_at_call 10; refine (num_any _ _).mono ?_; rintro e w8 ⟨rfl, e12⟩; replace e11 := e11.trans e12; clear e12)
      go_ret
      exact ⟨rfl, e11⟩
  · have b0 : (wE l != 0) = true := bne_ne hw0
    have hz : Hid ((wB l).length = 0) := by rw [Hid, wB, if_neg hw0]; rfl
    generalize wE l = we at *
    rw [hz.out]
    clear hw0 hown2 hc2
    go_wp2_with fail
    go_ret
    exact ⟨rfl, e4⟩
end Go.Proofs.Ytjhdaadhbnhfcaa
