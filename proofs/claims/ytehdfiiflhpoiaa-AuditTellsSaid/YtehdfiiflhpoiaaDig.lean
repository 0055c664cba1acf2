/- The walks of the two texts' decimal digits: both give one text. -/
import Derived.Test.YtehdfiiflhpoiaaLib
namespace Go.Proofs.Ytehdfiiflhpoiaa
open Go.RowKit

/-- one digit -/
def dig1 (n : Nat) : ByteArray := ⟨#[(48 + n).toUInt8]⟩
theorem dig1_size (n : Nat) : (dig1 n).size = 1 := rfl
/-- a number's digits -/
def dgs : Nat → Nat → ByteArray
  | 0, n => dig1 n
  | f + 1, n => if n < 10 then dig1 n else dgs f (n / 10) ++ dig1 (n % 10)
theorem dgs_size (f n : Nat) : (dgs f n).size ≤ f + 1 := by
  induction f generalizing n with
  | zero => exact Nat.le_refl 1
  | succ f ih =>
    unfold dgs
    split
    · rw [dig1_size]
      omega
    · have := ih (n / 10)
      rw [ByteArray.size_append, dig1_size]
      omega
theorem dgs_small (f n : Nat) (h : n < 10) : dgs f n = dig1 n := by
  cases f with
  | zero => rfl
  | succ f => rw [dgs, if_pos h]

set_option maxHeartbeats 400000 in
theorem dig_a_small (n : Nat) (m : Int) (hm : m = n) (w : World) (h : n < 10) : Calls Try.prog 21 #[.int .u64 m] w fun e w' => e = .returned (.string (dig1 n)) ∧ Ext w w' := by
  subst hm
  have hcv : (convert 43 9 (Value.slice (some { block := w.heap.size, off := 0 }) 1 1)).run Try.prog (w.alloc (Obj.cells #[Value.int IntKind.u8 (48 + ↑n)] 5)) = .ok (.string (dig1 n)) (w.alloc (Obj.cells #[Value.int IntKind.u8 (48 + ↑n)] 5)) :=
    run_conv_str _ _ _ 5 Try.underlying43 Try.underlying5 Try.underlying9 _ _ _ 1 1 [(48 + n).toUInt8] rfl (by
      have h1 := rd_new w #[Value.int IntKind.u8 (48 + ↑n)] 5
      have h2 : bytes [(48 + n).toUInt8] = [Value.int IntKind.u8 (48 + ↑n)] := by
        have : (48 + n) % 256 = 48 + n := by omega
        simp [bytes, this]
      rw [h2]
      exact h1)
  go_enter Try.func21, Try.ntmps21
  go_wp2_with fail
  go_ret
  exact ⟨rfl, by (repeat (first | exact Below.refl _ _ | exact Ext.refl _ | assumption | refine Below.drew ?_ | refine below_drewN ?_ _ | refine below_alloc ?_ (by first | exact Nat.le_refl _ | assumption | (simp; done) | omega | (simp; omega)) _ | refine below_ext ?_ (by assumption) (by first | exact Nat.le_refl _ | assumption | (simp; done) | omega | (simp; omega)) | refine Ext.drew ?_ | refine Ext.drewN ?_ _ | refine Ext.alloc ?_ _ | refine Ext.setCell ?_ (by first | assumption | (simp; done) | (simp; omega)) _ | refine Below.setCell ?_ (by first | assumption | (simp; done) | (simp; omega)) _ | refine Ext.trans ?_ (by assumption)))⟩

set_option maxHeartbeats 400000 in
theorem dig_a_any (f : Nat) : ∀ (n : Nat) (m : Int) (w : World), m = n → n < 18446744073709551616 → n < 10 ^ (f + 1) → f < 30 → Calls Try.prog 21 #[.int .u64 m] w fun e w' => e = .returned (.string (dgs f n)) ∧ Ext w w' := by
  induction f with
  | zero => exact fun n m w hm _ h _ => (dig_a_small n m hm w (by simpa using h)).mono fun _ _ ⟨h1, h2⟩ => ⟨h1, h2⟩
  | succ f ih =>
    intro n m w hm hn h hf
    by_cases hs : n < 10
    · rw [dgs_small _ _ hs]
      exact dig_a_small n m hm w hs
    · subst hm
      have hd : dgs (f + 1) n = dgs f (n / 10) ++ dig1 (n % 10) := by rw [dgs, if_neg hs]
      have hz := dgs_size f (n / 10)
      have h1 : n / 10 < 10 ^ (f + 1) := by rw [Nat.div_lt_iff_lt_mul (by omega), ← Nat.pow_succ]; exact h
      have HD := Lib.hid hd
      have H1 := Lib.hid h1
      have IH := Lib.hid ih
      clear hd h1 ih h
      go_enter Try.func21, Try.ntmps21
      go_wp2_with fail
      refine (IH.out (n / 10) _ w (by omega) (by omega) H1.out (by omega)).mono ?_
      rintro e w2 ⟨rfl, e2⟩
      go_wp2_with fail
      refine (dig_a_small (n % 10) _ (by omega) w2 (by omega)).mono ?_
      rintro e w3 ⟨rfl, e3⟩
      have hz1 := dig1_size (n % 10)
      go_wp2_with fail
      go_ret
      exact ⟨by rw [HD.out]; rfl, by (repeat (first | exact Below.refl _ _ | exact Ext.refl _ | assumption | refine Below.drew ?_ | refine below_drewN ?_ _ | refine below_alloc ?_ (by first | exact Nat.le_refl _ | assumption | (simp; done) | omega | (simp; omega)) _ | refine below_ext ?_ (by assumption) (by first | exact Nat.le_refl _ | assumption | (simp; done) | omega | (simp; omega)) | refine Ext.drew ?_ | refine Ext.drewN ?_ _ | refine Ext.alloc ?_ _ | refine Ext.setCell ?_ (by first | assumption | (simp; done) | (simp; omega)) _ | refine Below.setCell ?_ (by first | assumption | (simp; done) | (simp; omega)) _ | refine Ext.trans ?_ (by assumption)))⟩
set_option maxHeartbeats 400000 in
theorem dig_r_small (n : Nat) (m : Int) (hm : m = n) (w : World) (h : n < 10) : Calls Try.prog 22 #[.int .u64 m] w fun e w' => e = .returned (.string (dig1 n)) ∧ Ext w w' := by
  subst hm
  have hcv : (convert 43 9 (Value.slice (some { block := w.heap.size, off := 0 }) 1 1)).run Try.prog (w.alloc (Obj.cells #[Value.int IntKind.u8 (48 + ↑n)] 5)) = .ok (.string (dig1 n)) (w.alloc (Obj.cells #[Value.int IntKind.u8 (48 + ↑n)] 5)) :=
    run_conv_str _ _ _ 5 Try.underlying43 Try.underlying5 Try.underlying9 _ _ _ 1 1 [(48 + n).toUInt8] rfl (by
      have h1 := rd_new w #[Value.int IntKind.u8 (48 + ↑n)] 5
      have h2 : bytes [(48 + n).toUInt8] = [Value.int IntKind.u8 (48 + ↑n)] := by
        have : (48 + n) % 256 = 48 + n := by omega
        simp [bytes, this]
      rw [h2]
      exact h1)
  go_enter Try.func22, Try.ntmps22
  go_wp2_with fail
  go_ret
  exact ⟨rfl, by (repeat (first | exact Below.refl _ _ | exact Ext.refl _ | assumption | refine Below.drew ?_ | refine below_drewN ?_ _ | refine below_alloc ?_ (by first | exact Nat.le_refl _ | assumption | (simp; done) | omega | (simp; omega)) _ | refine below_ext ?_ (by assumption) (by first | exact Nat.le_refl _ | assumption | (simp; done) | omega | (simp; omega)) | refine Ext.drew ?_ | refine Ext.drewN ?_ _ | refine Ext.alloc ?_ _ | refine Ext.setCell ?_ (by first | assumption | (simp; done) | (simp; omega)) _ | refine Below.setCell ?_ (by first | assumption | (simp; done) | (simp; omega)) _ | refine Ext.trans ?_ (by assumption)))⟩

set_option maxHeartbeats 400000 in
theorem dig_r_any (f : Nat) : ∀ (n : Nat) (m : Int) (w : World), m = n → n < 18446744073709551616 → n < 10 ^ (f + 1) → f < 30 → Calls Try.prog 22 #[.int .u64 m] w fun e w' => e = .returned (.string (dgs f n)) ∧ Ext w w' := by
  induction f with
  | zero => exact fun n m w hm _ h _ => (dig_r_small n m hm w (by simpa using h)).mono fun _ _ ⟨h1, h2⟩ => ⟨h1, h2⟩
  | succ f ih =>
    intro n m w hm hn h hf
    by_cases hs : n < 10
    · rw [dgs_small _ _ hs]
      exact dig_r_small n m hm w hs
    · subst hm
      have hd : dgs (f + 1) n = dgs f (n / 10) ++ dig1 (n % 10) := by rw [dgs, if_neg hs]
      have hz := dgs_size f (n / 10)
      have h1 : n / 10 < 10 ^ (f + 1) := by rw [Nat.div_lt_iff_lt_mul (by omega), ← Nat.pow_succ]; exact h
      have HD := Lib.hid hd
      have H1 := Lib.hid h1
      have IH := Lib.hid ih
      clear hd h1 ih h
      go_enter Try.func22, Try.ntmps22
      go_wp2_with fail
      refine (IH.out (n / 10) _ w (by omega) (by omega) H1.out (by omega)).mono ?_
      rintro e w2 ⟨rfl, e2⟩
      go_wp2_with fail
      refine (dig_r_small (n % 10) _ (by omega) w2 (by omega)).mono ?_
      rintro e w3 ⟨rfl, e3⟩
      have hz1 := dig1_size (n % 10)
      go_wp2_with fail
      go_ret
      exact ⟨by rw [HD.out]; rfl, by (repeat (first | exact Below.refl _ _ | exact Ext.refl _ | assumption | refine Below.drew ?_ | refine below_drewN ?_ _ | refine below_alloc ?_ (by first | exact Nat.le_refl _ | assumption | (simp; done) | omega | (simp; omega)) _ | refine below_ext ?_ (by assumption) (by first | exact Nat.le_refl _ | assumption | (simp; done) | omega | (simp; omega)) | refine Ext.drew ?_ | refine Ext.drewN ?_ _ | refine Ext.alloc ?_ _ | refine Ext.setCell ?_ (by first | assumption | (simp; done) | (simp; omega)) _ | refine Below.setCell ?_ (by first | assumption | (simp; done) | (simp; omega)) _ | refine Ext.trans ?_ (by assumption)))⟩
/-- a number's digits, '-' ahead below 0 -/
def minus : ByteArray := ⟨#[45]⟩
def dec (n : Int) : ByteArray := if n < 0 then minus ++ dgs 19 (-n).toNat else dgs 19 n.toNat
theorem dec_size (n : Int) : (dec n).size ≤ 21 := by
  unfold dec
  split
  · have := dgs_size 19 (-n).toNat
    rw [ByteArray.size_append]
    show 1 + _ ≤ _
    omega
  · have := dgs_size 19 n.toNat
    omega
set_option maxHeartbeats 400000 in
theorem decimal_a_any (n : Int) (w : World) (h1 : -9223372036854775808 ≤ n) (h2 : n ≤ 9223372036854775807) : Calls Try.prog 17 #[.int .i64 n] w fun e w' => e = .returned (.string (dec n)) ∧ Ext w w' := by
  by_cases hneg : n < 0
  · have hd : dec n = ⟨#[45]⟩ ++ dgs 19 (-n).toNat := by rw [dec, if_pos hneg]; rfl
    have hz := dgs_size 19 (-n).toNat
    have HD := Lib.hid hd
    clear hd
    by_cases hmin : n = -9223372036854775808
    · subst hmin
      have HM : Hid (dec (-9223372036854775808) = ⟨#[45]⟩ ++ dgs 19 9223372036854775808) := HD.out
      have hzm : (dgs 19 9223372036854775808).size ≤ 20 := hz
      clear HD hz
      go_enter Try.func17, Try.ntmps17
      go_wp2_with fail
      refine (dig_a_any 19 9223372036854775808 _ w (by first | rfl | (unfold wrap64; rw [IntKind.wrap_u64]; omega) | omega) (by omega) (by omega) (by omega)).mono ?_
      rintro e w2 ⟨rfl, e2⟩
      go_wp2_with fail
      go_ret
      exact ⟨by rw [HM.out]; rfl, by (repeat (first | exact Below.refl _ _ | exact Ext.refl _ | assumption | refine Below.drew ?_ | refine below_drewN ?_ _ | refine below_alloc ?_ (by first | exact Nat.le_refl _ | assumption | (simp; done) | omega | (simp; omega)) _ | refine below_ext ?_ (by assumption) (by first | exact Nat.le_refl _ | assumption | (simp; done) | omega | (simp; omega)) | refine Ext.drew ?_ | refine Ext.drewN ?_ _ | refine Ext.alloc ?_ _ | refine Ext.setCell ?_ (by first | assumption | (simp; done) | (simp; omega)) _ | refine Below.setCell ?_ (by first | assumption | (simp; done) | (simp; omega)) _ | refine Ext.trans ?_ (by assumption)))⟩
    · go_enter Try.func17, Try.ntmps17
      go_wp2_with fail
      refine (dig_a_any 19 (-n).toNat _ w (by omega) (by omega) (by omega) (by omega)).mono ?_
      rintro e w2 ⟨rfl, e2⟩
      go_wp2_with fail
      go_ret
      exact ⟨by rw [HD.out]; rfl, by (repeat (first | exact Below.refl _ _ | exact Ext.refl _ | assumption | refine Below.drew ?_ | refine below_drewN ?_ _ | refine below_alloc ?_ (by first | exact Nat.le_refl _ | assumption | (simp; done) | omega | (simp; omega)) _ | refine below_ext ?_ (by assumption) (by first | exact Nat.le_refl _ | assumption | (simp; done) | omega | (simp; omega)) | refine Ext.drew ?_ | refine Ext.drewN ?_ _ | refine Ext.alloc ?_ _ | refine Ext.setCell ?_ (by first | assumption | (simp; done) | (simp; omega)) _ | refine Below.setCell ?_ (by first | assumption | (simp; done) | (simp; omega)) _ | refine Ext.trans ?_ (by assumption)))⟩
  · have hd : dec n = dgs 19 n.toNat := by rw [dec, if_neg hneg]
    have HD := Lib.hid hd
    clear hd
    go_enter Try.func17, Try.ntmps17
    go_wp2_with fail
    refine (dig_a_any 19 n.toNat _ w (by omega) (by omega) (by omega) (by omega)).mono ?_
    rintro e w2 ⟨rfl, e2⟩
    go_wp2_with fail
    go_ret
    exact ⟨by rw [HD.out]; rfl, by (repeat (first | exact Below.refl _ _ | exact Ext.refl _ | assumption | refine Below.drew ?_ | refine below_drewN ?_ _ | refine below_alloc ?_ (by first | exact Nat.le_refl _ | assumption | (simp; done) | omega | (simp; omega)) _ | refine below_ext ?_ (by assumption) (by first | exact Nat.le_refl _ | assumption | (simp; done) | omega | (simp; omega)) | refine Ext.drew ?_ | refine Ext.drewN ?_ _ | refine Ext.alloc ?_ _ | refine Ext.setCell ?_ (by first | assumption | (simp; done) | (simp; omega)) _ | refine Below.setCell ?_ (by first | assumption | (simp; done) | (simp; omega)) _ | refine Ext.trans ?_ (by assumption)))⟩
set_option maxHeartbeats 400000 in
theorem decimal_r_any (n : Int) (w : World) (h1 : -9223372036854775808 ≤ n) (h2 : n ≤ 9223372036854775807) : Calls Try.prog 18 #[.int .i64 n] w fun e w' => e = .returned (.string (dec n)) ∧ Ext w w' := by
  by_cases hneg : n < 0
  · have hd : dec n = ⟨#[45]⟩ ++ dgs 19 (-n).toNat := by rw [dec, if_pos hneg]; rfl
    have hz := dgs_size 19 (-n).toNat
    have HD := Lib.hid hd
    clear hd
    by_cases hmin : n = -9223372036854775808
    · subst hmin
      have HM : Hid (dec (-9223372036854775808) = ⟨#[45]⟩ ++ dgs 19 9223372036854775808) := HD.out
      have hzm : (dgs 19 9223372036854775808).size ≤ 20 := hz
      clear HD hz
      go_enter Try.func18, Try.ntmps18
      go_wp2_with fail
      refine (dig_r_any 19 9223372036854775808 _ w (by first | rfl | (unfold wrap64; rw [IntKind.wrap_u64]; omega) | omega) (by omega) (by omega) (by omega)).mono ?_
      rintro e w2 ⟨rfl, e2⟩
      go_wp2_with fail
      go_ret
      exact ⟨by rw [HM.out]; rfl, by (repeat (first | exact Below.refl _ _ | exact Ext.refl _ | assumption | refine Below.drew ?_ | refine below_drewN ?_ _ | refine below_alloc ?_ (by first | exact Nat.le_refl _ | assumption | (simp; done) | omega | (simp; omega)) _ | refine below_ext ?_ (by assumption) (by first | exact Nat.le_refl _ | assumption | (simp; done) | omega | (simp; omega)) | refine Ext.drew ?_ | refine Ext.drewN ?_ _ | refine Ext.alloc ?_ _ | refine Ext.setCell ?_ (by first | assumption | (simp; done) | (simp; omega)) _ | refine Below.setCell ?_ (by first | assumption | (simp; done) | (simp; omega)) _ | refine Ext.trans ?_ (by assumption)))⟩
    · go_enter Try.func18, Try.ntmps18
      go_wp2_with fail
      refine (dig_r_any 19 (-n).toNat _ w (by omega) (by omega) (by omega) (by omega)).mono ?_
      rintro e w2 ⟨rfl, e2⟩
      go_wp2_with fail
      go_ret
      exact ⟨by rw [HD.out]; rfl, by (repeat (first | exact Below.refl _ _ | exact Ext.refl _ | assumption | refine Below.drew ?_ | refine below_drewN ?_ _ | refine below_alloc ?_ (by first | exact Nat.le_refl _ | assumption | (simp; done) | omega | (simp; omega)) _ | refine below_ext ?_ (by assumption) (by first | exact Nat.le_refl _ | assumption | (simp; done) | omega | (simp; omega)) | refine Ext.drew ?_ | refine Ext.drewN ?_ _ | refine Ext.alloc ?_ _ | refine Ext.setCell ?_ (by first | assumption | (simp; done) | (simp; omega)) _ | refine Below.setCell ?_ (by first | assumption | (simp; done) | (simp; omega)) _ | refine Ext.trans ?_ (by assumption)))⟩
  · have hd : dec n = dgs 19 n.toNat := by rw [dec, if_neg hneg]
    have HD := Lib.hid hd
    clear hd
    go_enter Try.func18, Try.ntmps18
    go_wp2_with fail
    refine (dig_r_any 19 n.toNat _ w (by omega) (by omega) (by omega) (by omega)).mono ?_
    rintro e w2 ⟨rfl, e2⟩
    go_wp2_with fail
    go_ret
    exact ⟨by rw [HD.out]; rfl, by (repeat (first | exact Below.refl _ _ | exact Ext.refl _ | assumption | refine Below.drew ?_ | refine below_drewN ?_ _ | refine below_alloc ?_ (by first | exact Nat.le_refl _ | assumption | (simp; done) | omega | (simp; omega)) _ | refine below_ext ?_ (by assumption) (by first | exact Nat.le_refl _ | assumption | (simp; done) | omega | (simp; omega)) | refine Ext.drew ?_ | refine Ext.drewN ?_ _ | refine Ext.alloc ?_ _ | refine Ext.setCell ?_ (by first | assumption | (simp; done) | (simp; omega)) _ | refine Below.setCell ?_ (by first | assumption | (simp; done) | (simp; omega)) _ | refine Ext.trans ?_ (by assumption)))⟩
end Go.Proofs.Ytehdfiiflhpoiaa
