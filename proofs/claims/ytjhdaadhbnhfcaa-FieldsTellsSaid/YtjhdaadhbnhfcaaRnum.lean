/- The walks of the reference's Number, Of, Put and Num. -/
import Derived.Test.YtjhdaadhbnhfcaaBack
namespace Go.Proofs.Ytjhdaadhbnhfcaa
open Go.RowKit

theorem val_mono (l : List UInt8) (k : Nat) : val (l.take k) ≤ val l := by
  have h : ∀ (m : List UInt8) (n : Nat), n ≤ m.foldl (fun n c => n * 256 + c.toNat) n := by
    intro m
    induction m with
    | nil => intro n; exact Nat.le_refl _
    | cons c m ih => intro n; exact Nat.le_trans (show n ≤ n * 256 + c.toNat by omega) (ih _)
  have h2 : val l = (l.drop k).foldl (fun n c => n * 256 + c.toNat) (val (l.take k)) := by
    unfold val
    rw [← List.foldl_append, List.take_append_drop]
  rw [h2]
  exact h _ _

set_option maxHeartbeats 400000 in
theorem rnumber_any (w : World) (A : Option Addr) (n c lo hi : Nat) (l : List UInt8) (hn : n = l.length) (hm : n ≤ 9223372036854775807) (hr : Rd w lo hi A (bytes l)) (hh : hi ≤ w.heap.size) :
    Calls Try.prog 24 #[.slice A n c] w fun e w' => e = .returned (.tuple #[.int .i64 (numV l), .int .i64 (numE l)]) ∧ Ext w w' := by
  have Hn := Lib.hid hn
  by_cases h0 : n = 0
  · have hv : Hid (numV l = 0 ∧ numE l = 8) := by rw [numV, numE, if_pos (by omega), if_pos (by omega)]; exact ⟨rfl, rfl⟩
    subst h0
    clear hn
    go_enter Try.func24, Try.ntmps24
    go_wp2_with fail
    go_ret2
    exact ⟨by rw [hv.out.1, hv.out.2]; rfl, Ext.refl _⟩
  · by_cases h8 : 8 < n
    · have hv : Hid (numV l = 0 ∧ numE l = 5) := by rw [numV, numE, if_neg (by omega), if_pos (by omega), if_neg (by omega), if_pos (by omega)]; exact ⟨rfl, rfl⟩
      have b0 : ((n : Int) == 0) = false := by simp; omega
      clear hn
      go_enter Try.func24, Try.ntmps24
      go_wp2_with fail
      go_ret2
      exact ⟨by rw [hv.out.1, hv.out.2]; rfl, Ext.refl _⟩
    · have b0 : ((n : Int) == 0) = false := by simp; omega
      have HN : Hid (¬ l.length = 0 ∧ ¬ 8 < l.length) := by rw [← Hn.out]; exact ⟨h0, h8⟩
      clear hn
      go_enter Try.func24, Try.ntmps24
      go_wp2_with fail
      go_loopw [4, 5] (fun v i wr => ∃ k : Nat, k ≤ n ∧ i = .int .i64 k ∧ v = .int .i64 (val (l.take k)) ∧ val (l.take k) ≤ 4611686018427387903 ∧ Ext w wr) (fun _ i _ => n - (intOf i).toNat)
      case atStart => exact ⟨0, Nat.zero_le _, rfl, rfl, by simp [val], Ext.refl _⟩
      case round =>
        obtain ⟨k, hk, rfl, rfl, hq, e1⟩ := hrel
        by_cases hlt : k < n
        · obtain ⟨b1, o1, rfl, _, _, f0⟩ := rd_byte (hr.ext e1 hh) (k := k) (by rw [← Hn.out]; omega)
          have hvt := Lib.hid (val_take l k (by rw [← Hn.out]; omega))
          have hvm := Lib.hid (val_mono l (k + 1))
          have hc := (l[k]'(by rw [← Hn.out]; omega)).toNat_lt
          generalize l[k]'(by rw [← Hn.out]; omega) = y at *
          generalize val (l.take k) = q at *
          have t0 : (0 : Int) ≤ 4611686018427387903 - (y.toNat : Int) := by omega
          by_cases hbig : 4611686018427387903 < q * 256 + y.toNat
          · have t1 : (4611686018427387903 - (y.toNat : Int)) / 256 < (q : Int) := by omega
            have hv : Hid (numV l = 0 ∧ numE l = 4) := by
              have hb : 4611686018427387903 < val l := by
                have h1 := hvm.out
                rw [hvt.out] at h1
                omega
              rw [numV, numE, if_neg HN.out.1, if_neg HN.out.2, if_neg HN.out.1, if_neg HN.out.2, if_pos hb, if_pos hb]
              exact ⟨rfl, rfl⟩
            go_wp2_with fail
            go_ret2
            exact ⟨by rw [hv.out.1, hv.out.2]; rfl, e1⟩
          · have t1 : (q : Int) ≤ (4611686018427387903 - (y.toNat : Int)) / 256 := by omega
            have t2 : ¬ (4611686018427387903 - (y.toNat : Int)) / 256 < (q : Int) := by omega
            go_wp2_with fail
            go_roundw
            case rel => exact ⟨k + 1, by omega, by go_num, by rw [hvt.out]; simp, by rw [hvt.out]; omega, by (repeat (first | exact Below.refl _ _ | exact Ext.refl _ | assumption | refine Below.drew ?_ | refine below_drewN ?_ _ | refine below_alloc ?_ (by first | exact Nat.le_refl _ | assumption | (simp; done) | omega | (simp; omega)) _ | refine below_ext ?_ (by assumption) (by first | exact Nat.le_refl _ | assumption | (simp; done) | omega | (simp; omega)) | refine Ext.drew ?_ | refine Ext.drewN ?_ _ | refine Ext.alloc ?_ _ | refine Ext.setCell ?_ (by first | assumption | (simp; done) | (simp; omega)) _ | refine Below.setCell ?_ (by first | assumption | (simp; done) | (simp; omega)) _ | refine Ext.trans ?_ (by assumption)))⟩
            case measure => simp [intOf]; omega
        · obtain rfl : k = n := by omega
          have ht : val (l.take k) = val l := by rw [List.take_of_length_le (by rw [← Hn.out]; exact Nat.le_refl _)]
          rw [ht] at hq ⊢
          clear ht
          have hv : Hid (numV l = val l ∧ numE l = 0) := by rw [numV, numE, if_neg HN.out.1, if_neg HN.out.2, if_neg HN.out.1, if_neg HN.out.2, if_neg (by omega), if_neg (by omega)]; exact ⟨rfl, rfl⟩
          go_wp2_with fail
          go_ret2
          exact ⟨by rw [hv.out.1, hv.out.2]; rfl, e1⟩

set_option maxHeartbeats 400000 in
theorem of_any (s : ByteArray) (w : World) (hm : s.size ≤ 9223372036854775807) :
    Calls Try.prog 16 #[.string s] w fun e w' => e = .returned (.tuple #[.int .i64 (fV s), .int .i64 (fE s)]) ∧ Ext w w' := by
  by_cases h0 : s.size < 8
  · have hv : Hid (fV s = 0 ∧ fE s = 8) := by rw [fV, fE, if_pos h0, if_pos h0]; exact ⟨rfl, rfl⟩
    go_enter Try.func16, Try.ntmps16
    go_wp2_with fail
    go_ret2
    exact ⟨by rw [hv.out.1, hv.out.2]; rfl, Ext.refl _⟩
  · by_cases h8 : 8 < s.size
    · have hv : Hid (fV s = 0 ∧ fE s = 5) := by rw [fV, fE, if_neg h0, if_neg h0, if_pos h8, if_pos h8]; exact ⟨rfl, rfl⟩
      go_enter Try.func16, Try.ntmps16
      go_wp2_with fail
      go_ret2
      exact ⟨by rw [hv.out.1, hv.out.2]; rfl, Ext.refl _⟩
    · have hv : Hid (fV s = numV s.data.toList ∧ fE s = numE s.data.toList) := by rw [fV, fE, if_neg h0, if_neg h0, if_neg h8, if_neg h8]; exact ⟨rfl, rfl⟩
      have hcv := fun W => run_bytes_of_string (P := Try.prog) W 9 30 5 s Try.underlying9 Try.underlying30 Try.underlying5
      have hrd := rd_bytesRow w s (grownCap w s.size 0 5) 5 ((bytesRow s (grownCap w s.size 0 5)).size, (bytesRow s (grownCap w s.size 0 5)).size + 1)
      have HR := Lib.hid hrd
      clear hrd
      go_enter Try.func16, Try.ntmps16
      go_wp2_with fail
      clear hcv
      refine (rnumber_any _ _ s.size _ _ _ s.data.toList (by rw [len_data]) hm HR.out.drew (by simp)).mono ?_
      rintro e w2 ⟨rfl, e2⟩
      go_wp2_with fail
      go_ret2
      exact ⟨by rw [hv.out.1, hv.out.2]; rfl, by (repeat (first | exact Below.refl _ _ | exact Ext.refl _ | assumption | refine Below.drew ?_ | refine below_drewN ?_ _ | refine below_alloc ?_ (by first | exact Nat.le_refl _ | assumption | (simp; done) | omega | (simp; omega)) _ | refine below_ext ?_ (by assumption) (by first | exact Nat.le_refl _ | assumption | (simp; done) | omega | (simp; omega)) | refine Ext.drew ?_ | refine Ext.drewN ?_ _ | refine Ext.alloc ?_ _ | refine Ext.setCell ?_ (by first | assumption | (simp; done) | (simp; omega)) _ | refine Below.setCell ?_ (by first | assumption | (simp; done) | (simp; omega)) _ | refine Ext.trans ?_ (by assumption)))⟩
end Go.Proofs.Ytjhdaadhbnhfcaa
