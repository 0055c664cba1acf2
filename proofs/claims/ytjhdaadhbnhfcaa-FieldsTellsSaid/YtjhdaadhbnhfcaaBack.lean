/- The walk of FieldsBack. -/
import Derived.Test.YtjhdaadhbnhfcaaRead
import Derived.Test.YtjhdaadhbnhfcaaTexts
namespace Go.Proofs.Ytjhdaadhbnhfcaa
open Go.RowKit

theorem wB_len (l : List ByteArray) : (wB l).length ≤ 67111938 := by
  unfold wB
  by_cases h : wE l = 0
  · obtain ⟨h1, h2⟩ := (wE_zero l).1 h
    rw [if_pos h]
    have := acc_len l l.length ((any_long l).2 h2) (Nat.le_refl _)
    rw [acc, List.take_of_length_le (Nat.le_refl _)] at this
    rw [flat]
    omega
  · rw [if_neg h]
    simp
theorem bne_ne {a b : Int} (h : a ≠ b) : (a != b) = true := by simpa using h

/-- behind 'what was written is read': the second half of the law -/
theorem back_strings {P : Program} (w : World) (src dst e : TypeId) (hs : P.underlying src = some (.slice e)) (he : P.underlying e = some (.int .u8)) (hd : P.underlying dst = some .string)
    (lo hi : Nat) (A : Option Addr) (n c : Nat) (l l' : List UInt8) (hn : n = l.length) (h : Rd w lo hi A (bytes l)) (hl : l = l') : (convert src dst (.slice A n c)).run P w = .ok (.string ⟨l'.toArray⟩) w := by
  subst hl
  exact run_conv_str w src dst e hs he hd lo hi A n c l hn h

def BackOk (w : World) (e : Ending) (w' : World) : Prop := e = .returned (.bool true) ∧ Ext w w'

set_option maxHeartbeats 2000000 in
theorem back_law (w : World) (A B : Option Addr) (n c m d : Nat) (l : List ByteArray) (b : List UInt8) (hn : n = l.length) (hm : m = b.length) (hmd : m ≤ d) (hnn : n ≤ 140737488355328) (hmm : m ≤ 140737488355328) (hdd : d ≤ 9223372036854775807)
    (hr : Rd w 0 w.heap.size A (l.map Value.string)) (hs : Rd w 0 w.heap.size B (bytes b)) :
    Calls Try.prog 4 #[.slice A n c, .slice B m d] w (BackOk w) := by
  have Hn := Lib.hid hn
  have Hm := Lib.hid hm
  have hwl := wB_len l
  clear hn hm
  go_enter Try.func4, Try.ntmps4
  go_wp2_with fail
  refine (alive_any w).mono ?_
  rintro e w1 ⟨rfl, e1⟩
  go_wp2_with fail
  refine (write_any w1 A n c l Hn.out (by omega) (hr.at (by (repeat (first | exact Below.refl _ _ | exact Ext.refl _ | assumption | refine Below.drew ?_ | refine below_drewN ?_ _ | refine below_alloc ?_ (by first | exact Nat.le_refl _ | assumption | (simp; done) | omega | (simp; omega)) _ | refine below_ext ?_ (by assumption) (by first | exact Nat.le_refl _ | assumption | (simp; done) | omega | (simp; omega)) | refine Ext.drew ?_ | refine Ext.drewN ?_ _ | refine Ext.alloc ?_ _ | refine Ext.setCell ?_ (by first | assumption | (simp; done) | (simp; omega)) _ | refine Below.setCell ?_ (by first | assumption | (simp; done) | (simp; omega)) _ | refine Ext.trans ?_ (by assumption)))) (Nat.le_refl _))).mono ?_
  rintro e w2 ⟨v2, rfl, hown2, e2⟩
  obtain ⟨A2, c2, rfl, hc2, hc2', _⟩ := own_form hown2
  simp only [maxLen] at hc2'
  go_wp2_with fail
  refine (num_any _ _).mono ?_
  rintro e w3 ⟨rfl, e3⟩
  -- the first half: either nothing was written, or it is read back
  have e4 : Ext w w3 := by (repeat (first | exact Below.refl _ _ | exact Ext.refl _ | assumption | refine Below.drew ?_ | refine below_drewN ?_ _ | refine below_alloc ?_ (by first | exact Nat.le_refl _ | assumption | (simp; done) | omega | (simp; omega)) _ | refine below_ext ?_ (by assumption) (by first | exact Nat.le_refl _ | assumption | (simp; done) | omega | (simp; omega)) | refine Ext.drew ?_ | refine Ext.drewN ?_ _ | refine Ext.alloc ?_ _ | refine Ext.setCell ?_ (by first | assumption | (simp; done) | (simp; omega)) _ | refine Below.setCell ?_ (by first | assumption | (simp; done) | (simp; omega)) _ | refine Ext.trans ?_ (by assumption)))
  by_cases hw0 : wE l = 0
  case' pos =>
    have HB := Lib.hid (show rd (wB l) = (0, l) by have := rd_flat l hw0 []; simpa using this)
    have hwe := Lib.hid hw0
    rw [hw0]
    clear hw0
    go_wp2_with fail
    refine (read_any w3 A2 _ c2 (wB l) rfl hc2 (((Rd.of_own hown2).more (Nat.zero_le _) (Nat.le_refl _)).ext e3 (Nat.le_refl _) |>.more (Nat.le_refl _) e3.size) (by omega) hc2').mono ?_
    rintro e w5 ⟨v5, rfl, hown5, e5⟩
    rw [HB.out] at hown5 ⊢
    obtain ⟨A5, c5, rfl, _, _, _⟩ := own_form hown5
    rw [← Hn.out] at hown5 ⊢
    have e6 : Ext w w5 := by (repeat (first | exact Below.refl _ _ | exact Ext.refl _ | assumption | refine Below.drew ?_ | refine below_drewN ?_ _ | refine below_alloc ?_ (by first | exact Nat.le_refl _ | assumption | (simp; done) | omega | (simp; omega)) _ | refine below_ext ?_ (by assumption) (by first | exact Nat.le_refl _ | assumption | (simp; done) | omega | (simp; omega)) | refine Ext.drew ?_ | refine Ext.drewN ?_ _ | refine Ext.alloc ?_ _ | refine Ext.setCell ?_ (by first | assumption | (simp; done) | (simp; omega)) _ | refine Below.setCell ?_ (by first | assumption | (simp; done) | (simp; omega)) _ | refine Ext.trans ?_ (by assumption)))
    go_wp2_with (first
      | (go_at_call 10; refine (num_any _ _).mono ?_; rintro e w7 ⟨rfl, e7⟩
         have e8 : Ext w w7 := by (repeat (first | exact Below.refl _ _ | exact Ext.refl _ | assumption | refine Below.drew ?_ | refine below_drewN ?_ _ | refine below_alloc ?_ (by first | exact Nat.le_refl _ | assumption | (simp; done) | omega | (simp; omega)) _ | refine below_ext ?_ (by assumption) (by first | exact Nat.le_refl _ | assumption | (simp; done) | omega | (simp; omega)) | refine Ext.drew ?_ | refine Ext.drewN ?_ _ | refine Ext.alloc ?_ _ | refine Ext.setCell ?_ (by first | assumption | (simp; done) | (simp; omega)) _ | refine Below.setCell ?_ (by first | assumption | (simp; done) | (simp; omega)) _ | refine Ext.trans ?_ (by assumption))))
      | (go_at_call 13
         refine (same_texts w7 A A5 n c c5 _ _ _ _ l Hn.out (by omega) (hr.at (w' := w7) (by (repeat (first | exact Below.refl _ _ | exact Ext.refl _ | assumption | refine Below.drew ?_ | refine below_drewN ?_ _ | refine below_alloc ?_ (by first | exact Nat.le_refl _ | assumption | (simp; done) | omega | (simp; omega)) _ | refine below_ext ?_ (by assumption) (by first | exact Nat.le_refl _ | assumption | (simp; done) | omega | (simp; omega)) | refine Ext.drew ?_ | refine Ext.drewN ?_ _ | refine Ext.alloc ?_ _ | refine Ext.setCell ?_ (by first | assumption | (simp; done) | (simp; omega)) _ | refine Below.setCell ?_ (by first | assumption | (simp; done) | (simp; omega)) _ | refine Ext.trans ?_ (by assumption)))) (Nat.le_refl _)) (Nat.le_refl _) ((Rd.of_own hown5).ext e7 (Nat.le_refl _)) e7.size).mono ?_
         rintro e wx ⟨rfl, e9⟩
         have ex : Ext w wx := by (repeat (first | exact Below.refl _ _ | exact Ext.refl _ | assumption | refine Below.drew ?_ | refine below_drewN ?_ _ | refine below_alloc ?_ (by first | exact Nat.le_refl _ | assumption | (simp; done) | omega | (simp; omega)) _ | refine below_ext ?_ (by assumption) (by first | exact Nat.le_refl _ | assumption | (simp; done) | omega | (simp; omega)) | refine Ext.drew ?_ | refine Ext.drewN ?_ _ | refine Ext.alloc ?_ _ | refine Ext.setCell ?_ (by first | assumption | (simp; done) | (simp; omega)) _ | refine Below.setCell ?_ (by first | assumption | (simp; done) | (simp; omega)) _ | refine Ext.trans ?_ (by assumption)))))
    clear e6 e7 e8 e9 hown5 e5 e4
  case' neg =>
    have b0 : (wE l == 0) = false := by simpa using hw0
    generalize wE l = we at *
    clear hw0
    go_wp2_with fail
    clear b0
    obtain ⟨wx, rfl⟩ : ∃ wx : World, wx = w3 := ⟨_, rfl⟩
    have ex := e4
    clear e4
  all_goals (
    clear hown2 hc2 hc2'
    refine (read_any wx B m d b Hm.out hmd (hs.at ex (Nat.le_refl _)) (by omega) hdd).mono ?_
    rintro e wa ⟨va, rfl, howna, ea⟩
    obtain ⟨Aa, ca, rfl, _, _, _⟩ := own_form howna
    have ea' : Ext w wa := ex.trans ea
    go_wp2_with fail
    refine (num_any _ _).mono ?_
    rintro e wb ⟨rfl, eb⟩
    have eb' : Ext w wb := ea'.trans eb
    by_cases hg : (rd b).1 = 0
    · have HW := Lib.hid (rd_back b (rd b).2 (by rw [← hg]))
      rw [hg]
      clear hg
      go_wp2_with fail
      have hl2 : (rd b).2.length ≤ 1024 := ((wE_zero _).1 HW.out.1).1
      refine (write_any wb Aa _ ca (rd b).2 rfl (by omega) (((Rd.of_own howna).more (Nat.zero_le _) (Nat.le_refl _)).ext eb (Nat.le_refl _) |>.more (Nat.le_refl _) eb.size)).mono ?_
      rintro e wc ⟨vc, rfl, hownc, ec⟩
      rw [HW.out.1]
      rw [HW.out.2] at hownc
      obtain ⟨Ac, cc, rfl, _, _, _⟩ := own_form hownc
      have ec' : Ext w wc := eb'.trans ec
      go_wp2_with fail
      refine (num_any _ _).mono ?_
      rintro e wd ⟨rfl, ed⟩
      have ed' : Ext w wd := ec'.trans ed
      have hcv1 : (convert 30 9 (.slice Ac b.length cc)).run Try.prog wd = .ok (.string ⟨b.toArray⟩) wd := run_conv_str wd _ _ 5 Try.underlying30 Try.underlying5 Try.underlying9 _ _ Ac _ cc b rfl (Rd.of_own (own_ext hownc ed))
      have hcv2 : (convert 30 9 (.slice B m d)).run Try.prog wd = .ok (.string ⟨b.toArray⟩) wd := run_conv_str wd _ _ 5 Try.underlying30 Try.underlying5 Try.underlying9 _ _ B _ d b Hm.out (hs.at ed' (Nat.le_refl _))
      go_wp2
      go_ret
      exact ⟨rfl, ed'⟩
    · have HZ := Lib.hid (rd_none b hg)
      have b1 : ((rd b).1 != 0) = true := bne_ne hg
      generalize (rd b).1 = rg at *
      have h0 : (rd b).2.length = 0 := by rw [HZ.out]; rfl
      rw [h0]
      clear hg howna h0
      go_wp2
      go_ret
      exact ⟨rfl, eb'⟩)
end Go.Proofs.Ytjhdaadhbnhfcaa
