/- The walk of AuditTells. -/
import Derived.Test.YtehdfiiflhpoiaaA3
import Derived.Test.YtehdfiiflhpoiaaAddR
import Derived.Test.YtehdfiiflhpoiaaText
import Derived.Test.YtehdfiiflhpoiaaCount
namespace Go.Proofs.Ytehdfiiflhpoiaa
open Go.RowKit

theorem kept_one (u : ByteArray) (xs : List Ent) (k : Nat) (hk : k < xs.length) : kept u (xs.take (k + 1)) = kept u (xs.take k) + if (xs[k].user.toList == u.toList) = true then 1 else 0 := by
  rw [kept_snoc u xs k hk]
  cases h : (xs[k].user.toList == u.toList) <;> simp [other, bne, h]

set_option maxHeartbeats 4000000 in
theorem tells_any (w : World) (A : Option Addr) (n c : Nat) (xs : List Ent) (x : Ent) (u : ByteArray) (hn : n = xs.length) (hr : Rd w 0 w.heap.size A (ents xs)) (hb : (n + 1) * 48 ≤ 140737488355328)
    (hwf : ∀ x ∈ xs, x.wf ∧ x.user.size + x.path.size ≤ 4611686018427387904) (hx1 : x.wf) (hx2 : x.user.size + x.path.size ≤ 4611686018427387904) :
    Calls Try.prog 5 #[.slice A n c, .agg #[.string x.user, .int .i64 x.kind, .string x.path, .int .i64 x.err], .string u] w fun e w' => e = .returned (.bool true) ∧ Ext w w' := by
  have hl : (ents xs).length = n * 4 := by rw [ents_length, hn]
  have HL := Lib.hid hl
  have Hn := Lib.hid hn
  have HW := Lib.hid hwf
  have HX := Lib.hid hx1
  clear hn hl hwf hx1
  go_enter Try.func5, Try.ntmps5
  go_wp2_with fail
  generalize hw1 : World.alloc w _ = w1; obtain ⟨ew1, zw1, Gw1⟩ := box_cells hw1; have gw1_0 := Gw1 0 _ rfl; have gw1_1 := Gw1 1 _ rfl; have gw1_2 := Gw1 2 _ rfl; have gw1_3 := Gw1 3 _ rfl; have Zw1 := Lib.hid zw1; clear zw1 hw1 Gw1
  go_loopw [7, 8] (fun s i wr => ∃ k : Nat, k ≤ n ∧ i = .int .i64 k ∧ s = .int .i64 (kept u (xs.take k)) ∧ Ext w1 wr) (fun _ i _ => n - (intOf i).toNat)
  case atStart => exact ⟨0, Nat.zero_le _, rfl, rfl, Ext.refl _⟩
  case round =>
    obtain ⟨k, hk, rfl, rfl, e1⟩ := hrel
    by_cases hlt : k < n
    · obtain ⟨b1, o1, rfl, _, _, f0, _, _, _⟩ := rd_ent (hr.at (w' := wr) (by (repeat (first | exact Below.refl _ _ | exact Ext.refl _ | assumption | refine Below.drew ?_ | refine below_drewN ?_ _ | refine below_alloc ?_ (by first | exact Nat.le_refl _ | assumption | (simp; done) | omega | (simp; omega)) _ | refine below_ext ?_ (by assumption) (by first | exact Nat.le_refl _ | assumption | (simp; done) | omega | (simp; omega)) | refine Ext.drew ?_ | refine Ext.drewN ?_ _ | refine Ext.alloc ?_ _ | refine Ext.setCell ?_ (by first | assumption | (simp; done) | (simp; omega)) _ | refine Below.setCell ?_ (by first | assumption | (simp; done) | (simp; omega)) _ | refine Ext.trans ?_ (by assumption)))) (Nat.le_refl _)) (k := k) (by rw [← Hn.out]; omega)
      have hks := Lib.hid (kept_one u xs k (by rw [← Hn.out]; omega))
      have hkl := kept_le u xs k
      generalize xs[k]'(by rw [← Hn.out]; omega) = y at *
      generalize kept u (xs.take k) = q at *
      cases ho : (y.user.toList == u.toList)
      · rw [ho] at hks
        go_wp2_with fail
        go_roundw
        case rel => exact ⟨k + 1, by omega, by go_num, by have h := hks.out; simp at h; rw [h], e1⟩
        case measure => simp [intOf]; omega
      · rw [ho] at hks
        go_wp2_with fail
        go_roundw
        case rel => exact ⟨k + 1, by omega, by go_num, by have h := hks.out; simp at h; rw [h]; go_num, e1⟩
        case measure => simp [intOf]; omega
    · obtain rfl : k = n := by omega
      have hkk := Lib.hid (show kept u (xs.take k) = kept u xs by rw [List.take_of_length_le (by rw [← Hn.out]; exact Nat.le_refl _)])
      go_wp2_with fail
      go_region_held3 (fun w' => Ext w1 w') (first | (repeat (first | exact Below.refl _ _ | exact Ext.refl _ | assumption | refine Below.drew ?_ | refine below_drewN ?_ _ | refine below_alloc ?_ (by first | exact Nat.le_refl _ | assumption | (simp; done) | omega | (simp; omega)) _ | refine below_ext ?_ (by assumption) (by first | exact Nat.le_refl _ | assumption | (simp; done) | omega | (simp; omega)) | refine Ext.drew ?_ | refine Ext.drewN ?_ _ | refine Ext.alloc ?_ _ | refine Ext.setCell ?_ (by first | assumption | (simp; done) | (simp; omega)) _ | refine Below.setCell ?_ (by first | assumption | (simp; done) | (simp; omega)) _ | refine Ext.trans ?_ (by assumption))) | (trace_state; fail))
        (first
          | (go_at_call 7
             refine (add_any _ A k c (ents xs) _ _ _ _ HL.out (hr.at (by (repeat (first | exact Below.refl _ _ | exact Ext.refl _ | assumption | refine Below.drew ?_ | refine below_drewN ?_ _ | refine below_alloc ?_ (by first | exact Nat.le_refl _ | assumption | (simp; done) | omega | (simp; omega)) _ | refine below_ext ?_ (by assumption) (by first | exact Nat.le_refl _ | assumption | (simp; done) | omega | (simp; omega)) | refine Ext.drew ?_ | refine Ext.drewN ?_ _ | refine Ext.alloc ?_ _ | refine Ext.setCell ?_ (by first | assumption | (simp; done) | (simp; omega)) _ | refine Below.setCell ?_ (by first | assumption | (simp; done) | (simp; omega)) _ | refine Ext.trans ?_ (by assumption)))) (Nat.le_refl _)) (ents_one _) hb).mono ?_
             rintro e w2 ⟨A2, m, rfl, hm, hwr, e2⟩
             have HM := Lib.hid hm
             clear hm)
          | (go_at_call 9
             refine (addr_any _ A k c (ents xs) _ _ _ _ HL.out (hr.at (by (repeat (first | exact Below.refl _ _ | exact Ext.refl _ | assumption | refine Below.drew ?_ | refine below_drewN ?_ _ | refine below_alloc ?_ (by first | exact Nat.le_refl _ | assumption | (simp; done) | omega | (simp; omega)) _ | refine below_ext ?_ (by assumption) (by first | exact Nat.le_refl _ | assumption | (simp; done) | omega | (simp; omega)) | refine Ext.drew ?_ | refine Ext.drewN ?_ _ | refine Ext.alloc ?_ _ | refine Ext.setCell ?_ (by first | assumption | (simp; done) | (simp; omega)) _ | refine Below.setCell ?_ (by first | assumption | (simp; done) | (simp; omega)) _ | refine Ext.trans ?_ (by assumption)))) (Nat.le_refl _)) (ents_one _) hb).mono ?_
             rintro e w3 ⟨A3, m3, c3, rfl, hm3, hrd, e3⟩
             obtain rfl : m = m3 := by rw [hm3, HM.out]
             clear hm3)
          | (go_at_call 8
             have hall : ents xs ++ [.string x.user, .int .i64 x.kind, .string x.path, .int .i64 x.err] = ents (xs ++ [x]) := by rw [ents_append]; rfl
             have hm := HM.out
             rw [hall, ents_drop] at hwr hrd
             refine (samelog_any w3 A2 A3 _ _ _ _ _ _ _ ((xs ++ [x]).drop (k + 1 - m)) (by rw [List.length_drop, List.length_append, ← Hn.out]; simp; omega) (by omega) (hwr.rd.ext e3 (Nat.le_refl _)) e3.size hrd (Nat.le_refl _)).mono ?_
             rintro e w4 ⟨rfl, e4⟩
             clear hm hall hwr hrd)
          | (go_at_call 10
             refine (text_a_any x _ HX.out hx2).mono ?_
             rintro e w5 ⟨rfl, e5⟩)
          | (go_at_call 11
             refine (text_r_any x _ HX.out hx2).mono ?_
             rintro e w6 ⟨rfl, e6⟩)
          | (go_at_call 13
             refine (lines_a _ A k c xs Hn.out (hr.at (by (repeat (first | exact Below.refl _ _ | exact Ext.refl _ | assumption | refine Below.drew ?_ | refine below_drewN ?_ _ | refine below_alloc ?_ (by first | exact Nat.le_refl _ | assumption | (simp; done) | omega | (simp; omega)) _ | refine below_ext ?_ (by assumption) (by first | exact Nat.le_refl _ | assumption | (simp; done) | omega | (simp; omega)) | refine Ext.drew ?_ | refine Ext.drewN ?_ _ | refine Ext.alloc ?_ _ | refine Ext.setCell ?_ (by first | assumption | (simp; done) | (simp; omega)) _ | refine Below.setCell ?_ (by first | assumption | (simp; done) | (simp; omega)) _ | refine Ext.trans ?_ (by assumption)))) (Nat.le_refl _)) (by omega) HW.out).mono ?_
             rintro e w7 ⟨v7, rfl, hown7, e7⟩
             obtain ⟨A7, c7, rfl, _, _, _⟩ := own_form hown7)
          | (go_at_call 14
             refine (lines_r _ A k c xs Hn.out (hr.at (by (repeat (first | exact Below.refl _ _ | exact Ext.refl _ | assumption | refine Below.drew ?_ | refine below_drewN ?_ _ | refine below_alloc ?_ (by first | exact Nat.le_refl _ | assumption | (simp; done) | omega | (simp; omega)) _ | refine below_ext ?_ (by assumption) (by first | exact Nat.le_refl _ | assumption | (simp; done) | omega | (simp; omega)) | refine Ext.drew ?_ | refine Ext.drewN ?_ _ | refine Ext.alloc ?_ _ | refine Ext.setCell ?_ (by first | assumption | (simp; done) | (simp; omega)) _ | refine Below.setCell ?_ (by first | assumption | (simp; done) | (simp; omega)) _ | refine Ext.trans ?_ (by assumption)))) (Nat.le_refl _)) (by omega) HW.out).mono ?_
             rintro e w8 ⟨v8, rfl, hown8, e8⟩
             obtain ⟨A8, c8, rfl, _, _, _⟩ := own_form hown8)
          | (go_at_call 12
             have ht : texts xs = (xs.map text).map Value.string := by simp [texts]
             have h7 := Rd.of_own (own_ext hown7 e8)
             have h8 := Rd.of_own hown8
             rw [ht] at h7 h8
             refine (same_texts w8 A7 A8 k _ _ _ _ _ _ (xs.map text) (by rw [List.length_map]; exact Hn.out) (by omega) h7 (Nat.le_refl _) h8 (Nat.le_refl _)).mono ?_
             rintro e w9 ⟨rfl, e9⟩
             clear ht h7 h8 hown7 hown8)
          | (go_at_call 15
             refine (count_any _ A k c u xs Hn.out (hr.at (by (repeat (first | exact Below.refl _ _ | exact Ext.refl _ | assumption | refine Below.drew ?_ | refine below_drewN ?_ _ | refine below_alloc ?_ (by first | exact Nat.le_refl _ | assumption | (simp; done) | omega | (simp; omega)) _ | refine below_ext ?_ (by assumption) (by first | exact Nat.le_refl _ | assumption | (simp; done) | omega | (simp; omega)) | refine Ext.drew ?_ | refine Ext.drewN ?_ _ | refine Ext.alloc ?_ _ | refine Ext.setCell ?_ (by first | assumption | (simp; done) | (simp; omega)) _ | refine Below.setCell ?_ (by first | assumption | (simp; done) | (simp; omega)) _ | refine Ext.trans ?_ (by assumption)))) (Nat.le_refl _)) (by omega)).mono ?_
             rintro e wa ⟨rfl, ea⟩
             rw [← hkk.out])
          | (go_at_call 6
             refine (alive_any _).mono ?_
             rintro e wb ⟨rfl, eb⟩))
      go_wp2
      go_ret
      exact ⟨rfl, by (repeat (first | exact Below.refl _ _ | exact Ext.refl _ | assumption | refine Below.drew ?_ | refine below_drewN ?_ _ | refine below_alloc ?_ (by first | exact Nat.le_refl _ | assumption | (simp; done) | omega | (simp; omega)) _ | refine below_ext ?_ (by assumption) (by first | exact Nat.le_refl _ | assumption | (simp; done) | omega | (simp; omega)) | refine Ext.drew ?_ | refine Ext.drewN ?_ _ | refine Ext.alloc ?_ _ | refine Ext.setCell ?_ (by first | assumption | (simp; done) | (simp; omega)) _ | refine Below.setCell ?_ (by first | assumption | (simp; done) | (simp; omega)) _ | refine Ext.trans ?_ (by assumption)))⟩
end Go.Proofs.Ytehdfiiflhpoiaa
