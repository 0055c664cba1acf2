/- The walk of FieldsTells. -/
import Derived.Test.YtjhdaadhbnhfcaaRw
import Derived.Test.YtjhdaadhbnhfcaaRr
import Derived.Test.YtjhdaadhbnhfcaaTexts
namespace Go.Proofs.Ytjhdaadhbnhfcaa
open Go.RowKit

set_option maxHeartbeats 4000000 in
theorem tells_law (w : World) (A B : Option Addr) (n c m d : Nat) (l : List ByteArray) (b : List UInt8) (a : Int) (s : ByteArray) (hn : n = l.length) (hm : m = b.length) (hmd : m ≤ d) (hnn : n ≤ 140737488355328) (hmm : m ≤ 140737488355328) (hdd : d ≤ 9223372036854775807)
    (ha1 : -9223372036854775808 ≤ a) (ha2 : a ≤ 9223372036854775807) (hss : s.size ≤ 9223372036854775807)
    (hr : Rd w 0 w.heap.size A (l.map Value.string)) (hs : Rd w 0 w.heap.size B (bytes b)) :
    Calls Try.prog 6 #[.slice A n c, .slice B m d, .int .i64 a, .string s] w (BackOk w) := by
  have Hn := Lib.hid hn
  have Hm := Lib.hid hm
  clear hn hm
  go_enter Try.func6, Try.ntmps6
  go_wp2_with fail
  refine (write_any w A n c l Hn.out (by omega) hr).mono ?_
  rintro e w1 ⟨v1, rfl, hown1, e1⟩
  obtain ⟨A1, c1, rfl, _, _, _⟩ := own_form hown1
  go_wp2_with fail
  refine (rwrite_any w1 A n c l Hn.out (by omega) (hr.at (by (repeat (first | exact Below.refl _ _ | exact Ext.refl _ | assumption | refine Below.drew ?_ | refine below_drewN ?_ _ | refine below_alloc ?_ (by first | exact Nat.le_refl _ | assumption | (simp; done) | omega | (simp; omega)) _ | refine below_ext ?_ (by assumption) (by first | exact Nat.le_refl _ | assumption | (simp; done) | omega | (simp; omega)) | refine Ext.drew ?_ | refine Ext.drewN ?_ _ | refine Ext.alloc ?_ _ | refine Ext.setCell ?_ (by first | assumption | (simp; done) | (simp; omega)) _ | refine Below.setCell ?_ (by first | assumption | (simp; done) | (simp; omega)) _ | refine Ext.trans ?_ (by assumption)))) (Nat.le_refl _))).mono ?_
  rintro e w2 ⟨v2, rfl, hown2, e2⟩
  obtain ⟨A2, c2, rfl, _, _, _⟩ := own_form hown2
  have E2 : Ext w w2 := e1.trans e2
  go_wp2_with fail
  refine (read_any w2 B m d b Hm.out hmd (hs.at E2 (Nat.le_refl _)) (by omega) hdd).mono ?_
  rintro e w3 ⟨v3, rfl, hown3, e3⟩
  obtain ⟨A3, c3, rfl, h31, h32, _⟩ := own_form hown3
  simp only [maxLen] at h32
  have E3 : Ext w w3 := E2.trans e3
  go_wp2_with fail
  refine (rread_any w3 B m d b Hm.out hmd (hs.at E3 (Nat.le_refl _)) (by omega) hdd).mono ?_
  rintro e w4 ⟨v4, rfl, hown4, e4⟩
  obtain ⟨A4, c4, rfl, _, _, _⟩ := own_form hown4
  have E4 : Ext w w4 := E3.trans e4
  go_wp2_with fail
  generalize hw5 : World.alloc w4 _ = w5
  have hrd : Rd w5 w4.heap.size (w4.heap.size + 1) (some ⟨w4.heap.size, 0, none⟩) (ints [a, n]) := by rw [← hw5]; exact rd_new w4 #[.int .i64 a, .int .i64 n] 3
  obtain ⟨e5, z5, _⟩ := box_cells hw5
  clear hw5
  refine (numbers_any w5 _ 2 2 [a, n] rfl (hrd.more (Nat.zero_le _) (by rw [z5]; exact Nat.le_refl _)) (by omega) (by simp; omega)).mono ?_
  rintro e w6 ⟨v6, rfl, hown6, e6⟩
  obtain ⟨A6, c6, rfl, _, _, _⟩ := own_form hown6
  have E6 : Ext w4 w6 := e5.trans e6
  clear hrd z5 e5 e6
  go_wp2_with fail
  refine (fnumber_any s w6 hss).mono ?_
  rintro e w7 ⟨rfl, e7⟩
  go_wp2_with fail
  refine (of_any s w7 hss).mono ?_
  rintro e w8 ⟨rfl, e8⟩
  have F8 : Ext w6 w8 := e7.trans e8
  have F4 : Ext w4 w8 := E6.trans F8
  have F3 : Ext w3 w8 := e4.trans F4
  have F2 : Ext w2 w8 := e3.trans F3
  have F1 : Ext w1 w8 := e2.trans F2
  have hcv1 : (convert 30 9 (.slice A1 (wB l).length c1)).run Try.prog w8 = .ok (.string ⟨(wB l).toArray⟩) w8 := run_conv_str w8 _ _ 5 Try.underlying30 Try.underlying5 Try.underlying9 _ _ A1 _ c1 (wB l) rfl (Rd.of_own (own_ext hown1 F1))
  have hcv2 : (convert 30 9 (.slice A2 (wB l).length c2)).run Try.prog w8 = .ok (.string ⟨(wB l).toArray⟩) w8 := run_conv_str w8 _ _ 5 Try.underlying30 Try.underlying5 Try.underlying9 _ _ A2 _ c2 (wB l) rfl (Rd.of_own (own_ext hown2 F2))
  have hrA3 : Rd w8 0 w8.heap.size A3 ((rd b).2.map Value.string) := (Rd.of_own (own_ext hown3 F3)).more (Nat.zero_le _) (Nat.le_refl _)
  have hrA4 : Rd w8 0 w8.heap.size A4 ((rd b).2.map Value.string) := (Rd.of_own (own_ext hown4 F4)).more (Nat.zero_le _) (Nat.le_refl _)
  have own6 := own_ext hown6 F8
  have E8 : Ext w w8 := E4.trans F4
  clear hown1 hown2 hown3 hown4 hown6 F8 F4 F3 F2 F1 e7 e8 E6 e4 e3 e2 e1 E2 E3 E4
  have hLn : (rd b).2.length ≤ 9223372036854775807 := by omega
  clear h31 h32
  generalize (rd b).2 = R at *
  generalize (rd b).1 = rE at *
  generalize wE l = WE at *
  generalize (⟨(wB l).toArray⟩ : ByteArray) = WB at *
  generalize (wB l).length = NW at *
  go_wp2_with (first
    | (go_at_call 10; refine (num_any _ _).mono ?_; rintro e w9 ⟨rfl, e9⟩; replace E8 := E8.trans e9; replace own6 := own_ext own6 e9; replace hrA3 := hrA3.at (w' := w9) e9 (Nat.le_refl _); replace hrA4 := hrA4.at (w' := w9) e9 (Nat.le_refl _); clear e9)
    | (go_at_call 13
       refine (same_texts _ A3 A4 R.length c3 c4 _ _ _ _ R rfl hLn hrA3 (Nat.le_refl _) hrA4 (Nat.le_refl _)).mono ?_
       rintro e w9 ⟨rfl, e9⟩
       replace E8 := E8.trans e9; replace own6 := own_ext own6 e9; replace hrA3 := hrA3.at (w' := w9) e9 (Nat.le_refl _); replace hrA4 := hrA4.at (w' := w9) e9 (Nat.le_refl _); clear e9))
  obtain ⟨b0, o0, rfl, _, hb0, hc⟩ := (Rd.of_own own6) (by simp [num8s])
  have f0 : ∀ w', Ext w9 w' → w'.cell? ⟨b0, o0, none⟩ = some (.string (num8 a)) := fun w' h => by rw [Below.cell h hb0]; exact hc 0 _ rfl
  have f1 : ∀ w', Ext w9 w' → w'.cell? ⟨b0, o0 + 1, none⟩ = some (.string (num8 n)) := fun w' h => by rw [Below.cell h hb0]; exact hc 1 _ rfl
  clear own6 hrA3 hrA4 hc hcv1 hcv2 hb0
  go_region_held3 (fun w' => Ext w9 w') (first | (repeat (first | exact Below.refl _ _ | exact Ext.refl _ | assumption | refine Below.drew ?_ | refine below_drewN ?_ _ | refine below_alloc ?_ (by first | exact Nat.le_refl _ | assumption | (simp; done) | omega | (simp; omega)) _ | refine below_ext ?_ (by assumption) (by first | exact Nat.le_refl _ | assumption | (simp; done) | omega | (simp; omega)) | refine Ext.drew ?_ | refine Ext.drewN ?_ _ | refine Ext.alloc ?_ _ | refine Ext.setCell ?_ (by first | assumption | (simp; done) | (simp; omega)) _ | refine Below.setCell ?_ (by first | assumption | (simp; done) | (simp; omega)) _ | refine Ext.trans ?_ (by assumption))) | (trace_state; fail))
    (first
      | (go_at_call 17
         first
           | (refine (rnum_any a _ ha1 ha2).mono ?_; rintro e wa ⟨rfl, ea⟩)
           | (refine (rnum_any (n : Int) _ (by omega) (by omega)).mono ?_; rintro e wb ⟨rfl, eb⟩))
      | (go_at_call 7
         refine (alive_any _).mono ?_; rintro e wc ⟨rfl, ec⟩))
  all_goals (
    go_wp2_with fail
    go_ret
    exact ⟨rfl, by (repeat (first | exact Below.refl _ _ | exact Ext.refl _ | assumption | refine Below.drew ?_ | refine below_drewN ?_ _ | refine below_alloc ?_ (by first | exact Nat.le_refl _ | assumption | (simp; done) | omega | (simp; omega)) _ | refine below_ext ?_ (by assumption) (by first | exact Nat.le_refl _ | assumption | (simp; done) | omega | (simp; omega)) | refine Ext.drew ?_ | refine Ext.drewN ?_ _ | refine Ext.alloc ?_ _ | refine Ext.setCell ?_ (by first | assumption | (simp; done) | (simp; omega)) _ | refine Below.setCell ?_ (by first | assumption | (simp; done) | (simp; omega)) _ | refine Ext.trans ?_ (by assumption)))⟩)
end Go.Proofs.Ytjhdaadhbnhfcaa
