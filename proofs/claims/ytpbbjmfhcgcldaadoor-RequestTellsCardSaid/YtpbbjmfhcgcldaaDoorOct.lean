/- The walks of octets.Number, slices.Clone of octets, octets.Cut. -/
import Derived.Test.YtpbbjmfhcgcldaaDoorPut
namespace Go.Proofs.YtpbbjmfhcgcldaaDoor
open Go.RowKit

/-- octets as a number -/
def val (l : List UInt8) : Nat := l.foldl (fun n c => n * 256 + c.toNat) 0
theorem val_snoc (l : List UInt8) (c : UInt8) : val (l ++ [c]) = val l * 256 + c.toNat := by simp [val]
theorem val_lt (l : List UInt8) : val l < 256 ^ l.length := by
  suffices h : ∀ (n : Nat) (k : Nat), n < 256 ^ k → l.foldl (fun n c => n * 256 + c.toNat) n < 256 ^ (k + l.length) by
    have := h 0 0 (by omega)
    rwa [Nat.zero_add] at this
  induction l with
  | nil => exact fun n k h => h
  | cons c l ih =>
    intro n k h
    have hc : c.toNat < 256 := c.toNat_lt
    have := ih (n * 256 + c.toNat) (k + 1) (by rw [Nat.pow_succ]; omega)
    simp only [List.foldl_cons, List.length_cons]
    rw [show k + (l.length + 1) = k + 1 + l.length from by omega]
    exact this
theorem val_take (l : List UInt8) (k : Nat) (hk : k < l.length) : val (l.take (k + 1)) = val (l.take k) * 256 + l[k].toNat := by
  rw [List.take_succ_eq_append_getElem hk, val_snoc]
theorem val_lt7 (l : List UInt8) (k : Nat) (hk : k ≤ 7) : val (l.take k) < 72057594037927936 := by
  have h1 := val_lt (l.take k)
  have h2 : (l.take k).length ≤ 7 := Nat.le_trans (List.length_take_le _ _) hk
  exact Nat.lt_of_lt_of_le h1 (Nat.pow_le_pow_right (by omega) h2)
theorem or_u64 (q y : Nat) (hq : q < 72057594037927936) (hy : y < 2 ^ 8) : bits .or .u64 ((q : Int) * 256) (y : Int) = ((q * 256 + y : Nat) : Int) := by
  have h1 : q * 256 ||| y = q * 256 + y := by
    have := Nat.shiftLeft_add_eq_or_of_lt hy q
    rw [Nat.shiftLeft_eq] at this
    exact this.symm
  have h2 : ((q : Int) * 256) = ((q * 256 : Nat) : Int) := by omega
  rw [h2]
  show IntKind.u64.wrap ((BitVec.ofInt 64 ((q * 256 : Nat) : Int) ||| BitVec.ofInt 64 (y : Int)).toNat : Int) = _
  rw [BitVec.toNat_or, BitVec.ofInt_natCast, BitVec.ofInt_natCast, BitVec.toNat_ofNat, BitVec.toNat_ofNat, Nat.mod_eq_of_lt (by omega), Nat.mod_eq_of_lt (by omega), h1, IntKind.wrap_u64]
  omega
def numE (l : List UInt8) : Int := if l.length = 0 then 8 else if 8 < l.length then 5 else if 4611686018427387903 < val l then 4 else 0
def numV (l : List UInt8) : Int := if l.length = 0 then 0 else if 8 < l.length then 0 else if 4611686018427387903 < val l then 0 else val l

set_option maxRecDepth 100000 in
set_option maxHeartbeats 400000 in
theorem number_any (w : World) (A : Option Addr) (n c lo hi : Nat) (l : List UInt8) (hn : n = l.length) (hm : n ≤ 9223372036854775807) (hr : Rd w lo hi A (bytes l)) (hh : hi ≤ w.heap.size) :
    Calls Tryd.prog 36 #[.slice A n c] w fun e w' => e = .returned (.tuple #[.int .i64 (numV l), .int .i64 (numE l)]) ∧ Ext w w' := by
  have Hn := Lib.hid hn
  by_cases h0 : n = 0
  · have hv : Hid (numV l = 0 ∧ numE l = 8) := by rw [numV, numE, if_pos (by omega), if_pos (by omega)]; exact ⟨rfl, rfl⟩
    subst h0
    clear hn
    go_enter Tryd.func36, Tryd.ntmps36
    go_wp2_with fail
    go_ret2
    exact ⟨by rw [hv.out.1, hv.out.2]; rfl, Ext.refl _⟩
  · by_cases h8 : 8 < n
    · have hv : Hid (numV l = 0 ∧ numE l = 5) := by rw [numV, numE, if_neg (by omega), if_pos (by omega), if_neg (by omega), if_pos (by omega)]; exact ⟨rfl, rfl⟩
      have b0 : ((n : Int) == 0) = false := by simp; omega
      clear hn
      go_enter Tryd.func36, Tryd.ntmps36
      go_wp2_with fail
      go_ret2
      exact ⟨by rw [hv.out.1, hv.out.2]; rfl, Ext.refl _⟩
    · have b0 : ((n : Int) == 0) = false := by simp; omega
      clear hn
      go_enter Tryd.func36, Tryd.ntmps36
      go_wp2_with fail
      go_loopw [4, 17] (fun v i wr => ∃ k : Nat, k ≤ n ∧ i = .int .i64 k ∧ v = .int .u64 (val (l.take k)) ∧ Ext w wr) (fun _ i _ => n - (intOf i).toNat)
      case atStart => exact ⟨0, Nat.zero_le _, rfl, rfl, Ext.refl _⟩
      case round =>
        obtain ⟨k, hk, rfl, rfl, e1⟩ := hrel
        by_cases hlt : k < n
        · obtain ⟨b1, o1, rfl, _, _, f0⟩ := rd_byte (hr.ext e1 hh) (k := k) (by rw [← Hn.out]; omega)
          have hvt := Lib.hid (val_take l k (by rw [← Hn.out]; omega))
          have h7 := val_lt7 l k (by omega)
          have hc := (l[k]'(by rw [← Hn.out]; omega)).toNat_lt
          generalize l[k]'(by rw [← Hn.out]; omega) = y at *
          generalize val (l.take k) = q at *
          go_wp2_with fail
          go_roundw
          case rel => exact ⟨k + 1, by omega, by go_num, by rw [or_u64 q y.toNat h7 hc, hvt.out], by (repeat (first | exact Below.refl _ _ | exact Ext.refl _ | assumption | refine Below.drew ?_ | refine below_drewN ?_ _ | refine below_alloc ?_ (by first | exact Nat.le_refl _ | assumption | (simp; done) | omega | (simp; omega)) _ | refine below_ext ?_ (by assumption) (by first | exact Nat.le_refl _ | assumption | (simp; done) | omega | (simp; omega)) | refine Ext.drew ?_ | refine Ext.drewN ?_ _ | refine Ext.alloc ?_ _ | refine Ext.setCell ?_ (by first | assumption | (simp; done) | (simp; omega)) _ | refine Below.setCell ?_ (by first | assumption | (simp; done) | (simp; omega)) _ | refine Ext.trans ?_ (by assumption)))⟩
          case measure => simp [intOf]; omega
        · obtain rfl : k = n := by omega
          have ht : val (l.take k) = val l := by rw [List.take_of_length_le (by rw [← Hn.out]; exact Nat.le_refl _)]
          rw [ht]
          clear ht
          have hlt := val_lt l
          have hl8 : val l < 18446744073709551616 := Nat.lt_of_lt_of_le hlt (by
            have : l.length ≤ 8 := by rw [← Hn.out]; omega
            exact Nat.pow_le_pow_right (n := 256) (by omega) this)
          clear hlt
          have HN : Hid (¬ l.length = 0 ∧ ¬ 8 < l.length) := by rw [← Hn.out]; exact ⟨h0, h8⟩
          by_cases hbig : 4611686018427387903 < val l
          · have hv : Hid (numV l = 0 ∧ numE l = 4) := by rw [numV, numE, if_neg HN.out.1, if_neg HN.out.2, if_neg HN.out.1, if_neg HN.out.2, if_pos hbig, if_pos hbig]; exact ⟨rfl, rfl⟩
            go_wp2_with fail
            go_ret2
            exact ⟨by rw [hv.out.1, hv.out.2]; rfl, e1⟩
          · have hv : Hid (numV l = val l ∧ numE l = 0) := by rw [numV, numE, if_neg HN.out.1, if_neg HN.out.2, if_neg HN.out.1, if_neg HN.out.2, if_neg hbig, if_neg hbig]; exact ⟨rfl, rfl⟩
            go_wp2_with fail
            go_ret2
            exact ⟨by rw [hv.out.1, hv.out.2]; rfl, e1⟩

theorem bt_div (n : Int) (i : Nat) : bt (n / 256) i = bt n (i + 1) := by
  unfold bt
  rw [Int.ediv_ediv_of_nonneg (by omega), Int.pow_succ, Int.mul_comm]
theorem puts_succ (n : Int) (m : Nat) : puts n (m + 1) = puts (n / 256) m ++ [bt n 0] := by
  unfold puts
  rw [List.range_succ, List.map_append]
  congr 1
  · apply List.map_congr_left
    intro j hj
    rw [List.mem_range] at hj
    rw [bt_div]
    congr 1
    omega
  · simp
theorem emod_step (n K : Int) (hK : 0 < K) : n % (K * 256) = (n / 256 % K) * 256 + n % 256 := by
  have h1 := Int.emod_add_mul_ediv n 256
  have h2 := Int.emod_add_mul_ediv (n / 256) K
  have a1 : 0 ≤ n % 256 := Int.emod_nonneg _ (by omega)
  have a2 : n % 256 < 256 := Int.emod_lt_of_pos _ (by omega)
  have b1 : 0 ≤ n / 256 % K := Int.emod_nonneg _ (by omega)
  have b2 : n / 256 % K < K := Int.emod_lt_of_pos _ hK
  have e : n = ((n / 256 % K) * 256 + n % 256) + (K * 256) * (n / 256 / K) := by
    have : (K * 256) * (n / 256 / K) = 256 * (K * (n / 256 / K)) := by rw [Int.mul_comm K 256, Int.mul_assoc]
    rw [this]
    omega
  have hr : n % (K * 256) = ((n / 256 % K) * 256 + n % 256) % (K * 256) := by
    conv => lhs; rw [e]
    rw [Int.add_mul_emod_self_left]
  rw [hr, Int.emod_eq_of_lt (by omega) (by omega)]
theorem val_puts (n : Int) (m : Nat) : (val (puts n m) : Int) = n % (256 : Int) ^ m := by
  induction m generalizing n with
  | zero => simp [puts, val, Int.emod_one]
  | succ m ih =>
    rw [puts_succ, val_snoc, Int.pow_succ, emod_step n _ (Int.pow_pos (by omega)), ← ih (n / 256)]
    have := bt_zero n
    omega
/-- from 0 to 2^62 - 1 a number comes back -/
theorem num_back (n : Int) (h1 : -9223372036854775808 ≤ n) (h2 : n ≤ 9223372036854775807) : numE (puts n 8) = (if n < 0 ∨ 4611686018427387903 < n then 4 else 0) ∧ (¬ (n < 0 ∨ 4611686018427387903 < n) → numV (puts n 8) = n) := by
  have hv := val_puts n 8
  have hl := puts_length n 8
  have hp : (256 : Int) ^ 8 = 18446744073709551616 := by decide
  rw [hp] at hv
  unfold numE numV
  rw [hl]
  by_cases h : n < 0 ∨ 4611686018427387903 < n
  · have hb : 4611686018427387903 < val (puts n 8) := by omega
    simp [h, hb]
  · have hb : ¬ 4611686018427387903 < val (puts n 8) := by omega
    rw [if_neg h, if_neg (by omega), if_neg (by omega), if_neg hb, if_neg (by omega), if_neg (by omega), if_neg hb]
    exact ⟨rfl, fun _ => by omega⟩
end Go.Proofs.YtpbbjmfhcgcldaaDoor
