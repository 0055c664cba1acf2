/- The texts Nam in one file. -/
import Derived.Test.YtmecjjmlccdppaaGreatDoorM5
import Derived.Test.YtmecjjmlccdppaaGreatDoorM3
/- The walks of names.Name, props.value and the reference's Name and value. -/
namespace Go.Proofs.YtmecjjmlccdppaaGreatDoor
open Go.RowKit

def nameB (s : ByteArray) : Bool := decide (0 < s.size) && decide (s.size ≤ 16) && !(s.data.toList.any oddB)
def valB (s : ByteArray) : Bool := decide (s.size ≤ 32) && !(s.data.toList.any badB)

set_option maxHeartbeats 400000 in
theorem name_any (s : ByteArray) (w : World) (hm : s.size ≤ 9223372036854775807) : Calls Tryz.prog 57 #[.string s] w fun e w' => e = .returned (.bool (nameB s)) ∧ Ext w w' := by
  by_cases h0 : s.size = 0
  · obtain rfl := empty_of s h0
    go_enter Tryz.func57, Tryz.ntmps57
    go_wp2_with fail
    go_ret
    exact ⟨rfl, Ext.refl _⟩
  · have b0 : s.toList.isEmpty = false := by
      rw [ByteArray.toList_eq, List.isEmpty_eq_false_iff]
      intro e
      have := len_data s
      rw [e] at this
      exact h0 this.symm
    by_cases h16 : 16 < s.size
    · have hv : Hid (nameB s = false) := by simp [Hid, nameB]; omega
      go_enter Tryz.func57, Tryz.ntmps57
      go_wp2_with fail
      go_ret
      exact ⟨by rw [hv.out]; rfl, Ext.refl _⟩
    · have hv : Hid (nameB s = !(s.data.toList.any oddB)) := by
        have h1 : decide (0 < s.size) = true := by simp; omega
        have h2 : decide (s.size ≤ 16) = true := by simp; omega
        rw [Hid, nameB, h1, h2]; rfl
      have hcv := fun W => run_bytes_of_string (P := Tryz.prog) W 9 57 5 s Tryz.underlying9 Tryz.underlying57 Tryz.underlying5
      have hrd := rd_bytesRow w s (grownCap w s.size 0 5) 5 ((bytesRow s (grownCap w s.size 0 5)).size, (bytesRow s (grownCap w s.size 0 5)).size + 1)
      have HR := Lib.hid hrd
      clear hrd
      go_enter Tryz.func57, Tryz.ntmps57
      go_wp2_with fail
      clear hcv
      refine (ocont_any _ (some ⟨w.heap.size, 0, none⟩) s.size _ w.heap.size (w.heap.size + 1) s.data.toList (by rw [len_data]) hm HR.out.drew (by simp)).mono ?_
      rintro e w2 ⟨rfl, e2⟩
      generalize s.data.toList.any oddB = X at *
      go_wp2_with fail
      go_ret
      exact ⟨by rw [hv.out]; rfl, by (repeat (first | exact Below.refl _ _ | exact Ext.refl _ | assumption | refine Below.drew ?_ | refine below_drewN ?_ _ | refine below_alloc ?_ (by first | exact Nat.le_refl _ | assumption | (simp; done) | omega | (simp; omega)) _ | refine below_ext ?_ (by assumption) (by first | exact Nat.le_refl _ | assumption | (simp; done) | omega | (simp; omega)) | refine Ext.drew ?_ | refine Ext.drewN ?_ _ | refine Ext.alloc ?_ _ | refine Ext.setCell ?_ (by first | assumption | (simp; done) | (simp; omega)) _ | refine Below.setCell ?_ (by first | assumption | (simp; done) | (simp; omega)) _ | refine Ext.trans ?_ (by assumption)))⟩

set_option maxHeartbeats 400000 in
theorem value_any (s : ByteArray) (w : World) (hm : s.size ≤ 9223372036854775807) : Calls Tryz.prog 109 #[.string s] w fun e w' => e = .returned (.bool (valB s)) ∧ Ext w w' := by
  by_cases h16 : 32 < s.size
  · have hv : Hid (valB s = false) := by simp [Hid, valB]; omega
    go_enter Tryz.func109, Tryz.ntmps109
    go_wp2_with fail
    go_ret
    exact ⟨by rw [hv.out]; rfl, Ext.refl _⟩
  · have hv : Hid (valB s = !(s.data.toList.any badB)) := by
      have h2 : decide (s.size ≤ 32) = true := by simp; omega
      rw [Hid, valB, h2]; rfl
    have hcv := fun W => run_bytes_of_string (P := Tryz.prog) W 9 57 5 s Tryz.underlying9 Tryz.underlying57 Tryz.underlying5
    have hrd := rd_bytesRow w s (grownCap w s.size 0 5) 5 ((bytesRow s (grownCap w s.size 0 5)).size, (bytesRow s (grownCap w s.size 0 5)).size + 1)
    have HR := Lib.hid hrd
    clear hrd
    go_enter Tryz.func109, Tryz.ntmps109
    go_wp2_with fail
    clear hcv
    refine (bcont_any _ (some ⟨w.heap.size, 0, none⟩) s.size _ w.heap.size (w.heap.size + 1) s.data.toList (by rw [len_data]) hm HR.out.drew (by simp)).mono ?_
    rintro e w2 ⟨rfl, e2⟩
    generalize s.data.toList.any badB = X at *
    go_wp2_with fail
    go_ret
    exact ⟨by rw [hv.out]; rfl, by (repeat (first | exact Below.refl _ _ | exact Ext.refl _ | assumption | refine Below.drew ?_ | refine below_drewN ?_ _ | refine below_alloc ?_ (by first | exact Nat.le_refl _ | assumption | (simp; done) | omega | (simp; omega)) _ | refine below_ext ?_ (by assumption) (by first | exact Nat.le_refl _ | assumption | (simp; done) | omega | (simp; omega)) | refine Ext.drew ?_ | refine Ext.drewN ?_ _ | refine Ext.alloc ?_ _ | refine Ext.setCell ?_ (by first | assumption | (simp; done) | (simp; omega)) _ | refine Below.setCell ?_ (by first | assumption | (simp; done) | (simp; omega)) _ | refine Ext.trans ?_ (by assumption)))⟩

set_option maxHeartbeats 400000 in
theorem rname_any (s : ByteArray) (w : World) (hm : s.size ≤ 9223372036854775807) : Calls Tryz.prog 61 #[.string s] w fun e w' => e = .returned (.bool (nameB s)) ∧ Ext w w' := by
  have HD := Lib.hid (len_data s)
  go_enter Tryz.func61, Tryz.ntmps61
  go_wp2_with fail
  go_loopw [3] (fun i wr => ∃ k : Nat, k ≤ s.size ∧ i = .int .i64 k ∧ Hid ((s.data.toList.take k).any oddB = false) ∧ Ext w wr) (fun i _ => s.size - (intOf i).toNat)
  case atStart => exact ⟨0, Nat.zero_le _, rfl, by rw [Hid]; rfl, Ext.refl _⟩
  case round =>
    obtain ⟨k, hk, rfl, HK, e1⟩ := hrel
    by_cases hlt : k < s.size
    · have hl : k < s.data.toList.length := by rw [HD.out]; exact hlt
      obtain ⟨y, hy⟩ : ∃ y, s[k]'hlt = y := ⟨_, rfl⟩
      have HY : Hid (s.data.toList[k]'hl = y) := hy
      go_wp2_with fail
      refine (letter_any y _).mono ?_
      rintro e w2 ⟨rfl, e2⟩
      cases ho : oddB y
      · go_wp2_with fail
        go_roundw
        case rel =>
          refine ⟨k + 1, by omega, by go_num, Lib.hid ?_, by (repeat (first | exact Below.refl _ _ | exact Ext.refl _ | assumption | refine Below.drew ?_ | refine below_drewN ?_ _ | refine below_alloc ?_ (by first | exact Nat.le_refl _ | assumption | (simp; done) | omega | (simp; omega)) _ | refine below_ext ?_ (by assumption) (by first | exact Nat.le_refl _ | assumption | (simp; done) | omega | (simp; omega)) | refine Ext.drew ?_ | refine Ext.drewN ?_ _ | refine Ext.alloc ?_ _ | refine Ext.setCell ?_ (by first | assumption | (simp; done) | (simp; omega)) _ | refine Below.setCell ?_ (by first | assumption | (simp; done) | (simp; omega)) _ | refine Ext.trans ?_ (by assumption)))⟩
          rw [List.take_succ_eq_append_getElem hl, List.any_append, HK.out, HY.out]
          simp [ho]
        case measure => simp [intOf]; omega
      · have hv : Hid (nameB s = false) := by
          have h1 : s.data.toList.any oddB = true := List.any_eq_true.2 ⟨y, by rw [← HY.out]; exact List.getElem_mem _, ho⟩
          rw [Hid, nameB, h1]
          simp
        go_wp2_with fail
        go_ret
        exact ⟨by rw [hv.out]; rfl, by (repeat (first | exact Below.refl _ _ | exact Ext.refl _ | assumption | refine Below.drew ?_ | refine below_drewN ?_ _ | refine below_alloc ?_ (by first | exact Nat.le_refl _ | assumption | (simp; done) | omega | (simp; omega)) _ | refine below_ext ?_ (by assumption) (by first | exact Nat.le_refl _ | assumption | (simp; done) | omega | (simp; omega)) | refine Ext.drew ?_ | refine Ext.drewN ?_ _ | refine Ext.alloc ?_ _ | refine Ext.setCell ?_ (by first | assumption | (simp; done) | (simp; omega)) _ | refine Below.setCell ?_ (by first | assumption | (simp; done) | (simp; omega)) _ | refine Ext.trans ?_ (by assumption)))⟩
    · obtain rfl : k = s.size := by omega
      have h1 : s.data.toList.any oddB = false := by
        have h1 := HK.out
        rwa [List.take_of_length_le (by rw [HD.out]; exact Nat.le_refl _)] at h1
      have hv : Hid (nameB s = (decide (0 < s.size) && decide (s.size ≤ 16))) := by rw [Hid, nameB, h1]; simp
      clear h1
      by_cases hz : s.size = 0
      · have h2 : (decide (0 < s.size) && decide (s.size ≤ 16)) = false := by simp; omega
        have t1 : ¬ (1 : Int) ≤ (s.size : Int) := by omega
        go_wp2_with fail
        go_ret
        exact ⟨by rw [hv.out, h2]; rfl, e1⟩
      · have t1 : (1 : Int) ≤ (s.size : Int) := by omega
        by_cases h16 : 16 < s.size
        · have h2 : (decide (0 < s.size) && decide (s.size ≤ 16)) = false := by simp; omega
          have t2 : ¬ (s.size : Int) ≤ 16 := by omega
          go_wp2_with fail
          go_ret
          exact ⟨by rw [hv.out, h2]; first | rfl | (simp; omega), e1⟩
        · have h2 : (decide (0 < s.size) && decide (s.size ≤ 16)) = true := by simp; omega
          have t2 : (s.size : Int) ≤ 16 := by omega
          go_wp2_with fail
          go_ret
          exact ⟨by rw [hv.out, h2]; first | rfl | (simp; omega), e1⟩

set_option maxHeartbeats 400000 in
theorem rvalue_any (s : ByteArray) (w : World) (hm : s.size ≤ 9223372036854775807) : Calls Tryz.prog 90 #[.string s] w fun e w' => e = .returned (.bool (valB s)) ∧ Ext w w' := by
  have HD := Lib.hid (len_data s)
  go_enter Tryz.func90, Tryz.ntmps90
  go_wp2_with fail
  go_loopw [3] (fun i wr => ∃ k : Nat, k ≤ s.size ∧ i = .int .i64 k ∧ Hid ((s.data.toList.take k).any badB = false) ∧ Ext w wr) (fun i _ => s.size - (intOf i).toNat)
  case atStart => exact ⟨0, Nat.zero_le _, rfl, by rw [Hid]; rfl, Ext.refl _⟩
  case round =>
    obtain ⟨k, hk, rfl, HK, e1⟩ := hrel
    by_cases hlt : k < s.size
    · have hl : k < s.data.toList.length := by rw [HD.out]; exact hlt
      obtain ⟨y, hy⟩ : ∃ y, s[k]'hlt = y := ⟨_, rfl⟩
      have HY : Hid (s.data.toList[k]'hl = y) := hy
      cases ho : badB y
      · obtain ⟨t1, t2⟩ : ¬ (y.toNat : Int) < 32 ∧ ¬ (126 : Int) < (y.toNat : Int) := by
          simp only [badB, badN, Bool.or_eq_false_iff, decide_eq_false_iff_not] at ho
          exact ho
        go_wp2_with fail
        go_roundw
        case rel =>
          refine ⟨k + 1, by omega, by go_num, Lib.hid ?_, by (repeat (first | exact Below.refl _ _ | exact Ext.refl _ | assumption | refine Below.drew ?_ | refine below_drewN ?_ _ | refine below_alloc ?_ (by first | exact Nat.le_refl _ | assumption | (simp; done) | omega | (simp; omega)) _ | refine below_ext ?_ (by assumption) (by first | exact Nat.le_refl _ | assumption | (simp; done) | omega | (simp; omega)) | refine Ext.drew ?_ | refine Ext.drewN ?_ _ | refine Ext.alloc ?_ _ | refine Ext.setCell ?_ (by first | assumption | (simp; done) | (simp; omega)) _ | refine Below.setCell ?_ (by first | assumption | (simp; done) | (simp; omega)) _ | refine Ext.trans ?_ (by assumption)))⟩
          rw [List.take_succ_eq_append_getElem hl, List.any_append, HK.out, HY.out]
          simp [ho]
        case measure => simp [intOf]; omega
      · have hv : Hid (valB s = false) := by
          have h1 : s.data.toList.any badB = true := List.any_eq_true.2 ⟨y, by rw [← HY.out]; exact List.getElem_mem _, ho⟩
          rw [Hid, valB, h1]
          simp
        have ho2 : (y.toNat : Int) < 32 ∨ (¬ (y.toNat : Int) < 32 ∧ (126 : Int) < (y.toNat : Int)) := by
          simp only [badB, badN, Bool.or_eq_true, decide_eq_true_eq] at ho
          omega
        clear ho
        rcases ho2 with t1 | ⟨t1, t2⟩
        · go_wp2_with fail
          go_ret
          exact ⟨by rw [hv.out]; rfl, e1⟩
        · go_wp2_with fail
          go_ret
          exact ⟨by rw [hv.out]; rfl, e1⟩
    · obtain rfl : k = s.size := by omega
      have h1 : s.data.toList.any badB = false := by
        have h1 := HK.out
        rwa [List.take_of_length_le (by rw [HD.out]; exact Nat.le_refl _)] at h1
      have hv : Hid (valB s = decide (s.size ≤ 32)) := by rw [Hid, valB, h1]; simp
      clear h1
      by_cases h16 : 32 < s.size
      · have h2 : decide (s.size ≤ 32) = false := by simp; omega
        have t2 : ¬ (s.size : Int) ≤ 32 := by omega
        go_wp2_with fail
        go_ret
        exact ⟨by rw [hv.out, h2]; first | rfl | (simp; omega), e1⟩
      · have h2 : decide (s.size ≤ 32) = true := by simp; omega
        have t2 : (s.size : Int) ≤ 32 := by omega
        go_wp2_with fail
        go_ret
        exact ⟨by rw [hv.out, h2]; first | rfl | (simp; omega), e1⟩
end Go.Proofs.YtmecjjmlccdppaaGreatDoor
