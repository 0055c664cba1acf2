/- The texts Oct, Str, Fld in one file. -/
import Derived.Test.YtckaneapjpiocaaGreatDoorM3
import Derived.Test.YtckaneapjpiocaaGreatDoorM1
import Derived.Lib.AppendStr
import Derived.Test.YtckaneapjpiocaaGreatDoorM2
namespace Go.Proofs.YtckaneapjpiocaaGreatDoor
open Go.RowKit
def val (l : List UInt8) : Nat := l.foldl (fun n c => n * 256 + c.toNat) 0
theorem val_snoc (l : List UInt8) (c : UInt8) : val (l ++ [c]) = val l * 256 + c.toNat := by simp [val]
theorem val_lt (l : List UInt8) : val l < 256 ^ l.length := by
  suffices h : ∀ (n : Nat) (k : Nat), n < 256 ^ k → l.foldl (fun n c => n * 256 + c.toNat) n < 256 ^ (k + l.length) by
    have := h 0 0 (by omega)
    rwa [Nat.zero_add] at this
  induction l with
  | nil => exact fun n k h => h
  | cons c l ih =>
    intro n k h
    have hc : c.toNat < 256 := c.toNat_lt
    have := ih (n * 256 + c.toNat) (k + 1) (by rw [Nat.pow_succ]; omega)
    simp only [List.foldl_cons, List.length_cons]
    rw [show k + (l.length + 1) = k + 1 + l.length from by omega]
    exact this
theorem val_take (l : List UInt8) (k : Nat) (hk : k < l.length) : val (l.take (k + 1)) = val (l.take k) * 256 + l[k].toNat := by
  rw [List.take_succ_eq_append_getElem hk, val_snoc]
theorem val_lt7 (l : List UInt8) (k : Nat) (hk : k ≤ 7) : val (l.take k) < 72057594037927936 := by
  have h1 := val_lt (l.take k)
  have h2 : (l.take k).length ≤ 7 := Nat.le_trans (List.length_take_le _ _) hk
  exact Nat.lt_of_lt_of_le h1 (Nat.pow_le_pow_right (by omega) h2)
theorem or_u64 (q y : Nat) (hq : q < 72057594037927936) (hy : y < 2 ^ 8) : bits .or .u64 ((q : Int) * 256) (y : Int) = ((q * 256 + y : Nat) : Int) := by
  have h1 : q * 256 ||| y = q * 256 + y := by
    have := Nat.shiftLeft_add_eq_or_of_lt hy q
    rw [Nat.shiftLeft_eq] at this
    exact this.symm
  have h2 : ((q : Int) * 256) = ((q * 256 : Nat) : Int) := by omega
  rw [h2]
  show IntKind.u64.wrap ((BitVec.ofInt 64 ((q * 256 : Nat) : Int) ||| BitVec.ofInt 64 (y : Int)).toNat : Int) = _
  rw [BitVec.toNat_or, BitVec.ofInt_natCast, BitVec.ofInt_natCast, BitVec.toNat_ofNat, BitVec.toNat_ofNat, Nat.mod_eq_of_lt (by omega), Nat.mod_eq_of_lt (by omega), h1, IntKind.wrap_u64]
  omega
def numE (l : List UInt8) : Int := if l.length = 0 then 8 else if 8 < l.length then 5 else if 4611686018427387903 < val l then 4 else 0
def numV (l : List UInt8) : Int := if l.length = 0 then 0 else if 8 < l.length then 0 else if 4611686018427387903 < val l then 0 else val l
set_option maxRecDepth 100000 in
set_option maxHeartbeats 400000 in
theorem number_any (w : World) (A : Option Addr) (n c lo hi : Nat) (l : List UInt8) (hn : n = l.length) (hm : n ≤ 9223372036854775807) (hr : Rd w lo hi A (bytes l)) (hh : hi ≤ w.heap.size) :
    Calls Tryz.prog 156 #[.slice A n c] w fun e w' => e = .returned (.tuple #[.int .i64 (numV l), .int .i64 (numE l)]) ∧ Ext w w' := by
  have Hn := Lib.hid hn
  by_cases h0 : n = 0
  · have hv : Hid (numV l = 0 ∧ numE l = 8) := by rw [numV, numE, if_pos (by omega), if_pos (by omega)]; exact ⟨rfl, rfl⟩
    subst h0
    clear hn
    go_enter Tryz.func156, Tryz.ntmps156
    go_wp2_with fail
    go_ret2
    exact ⟨by rw [hv.out.1, hv.out.2]; rfl, Ext.refl _⟩
  · by_cases h8 : 8 < n
    · have hv : Hid (numV l = 0 ∧ numE l = 5) := by rw [numV, numE, if_neg (by omega), if_pos (by omega), if_neg (by omega), if_pos (by omega)]; exact ⟨rfl, rfl⟩
      have b0 : ((n : Int) == 0) = false := by simp; omega
      clear hn
      go_enter Tryz.func156, Tryz.ntmps156
      go_wp2_with fail
      go_ret2
      exact ⟨by rw [hv.out.1, hv.out.2]; rfl, Ext.refl _⟩
    · have b0 : ((n : Int) == 0) = false := by simp; omega
      clear hn
      go_enter Tryz.func156, Tryz.ntmps156
      go_wp2_with fail
      go_loopw [4, 17] (fun v i wr => ∃ k : Nat, k ≤ n ∧ i = .int .i64 k ∧ v = .int .u64 (val (l.take k)) ∧ Ext w wr) (fun _ i _ => n - (intOf i).toNat)
      case atStart => exact ⟨0, Nat.zero_le _, rfl, rfl, Ext.refl _⟩
      case round =>
        obtain ⟨k, hk, rfl, rfl, e1⟩ := hrel
        by_cases hlt : k < n
        · obtain ⟨b1, o1, rfl, _, _, f0⟩ := rd_byte (hr.ext e1 hh) (k := k) (by rw [← Hn.out]; omega)
          have hvt := Lib.hid (val_take l k (by rw [← Hn.out]; omega))
          have h7 := val_lt7 l k (by omega)
          have hc := (l[k]'(by rw [← Hn.out]; omega)).toNat_lt
          generalize l[k]'(by rw [← Hn.out]; omega) = y at *
          generalize val (l.take k) = q at *
          go_wp2_with fail
          go_roundw
          case rel => exact ⟨k + 1, by omega, by go_num, by rw [or_u64 q y.toNat h7 hc, hvt.out], blo⟩
          case measure => simp [intOf]; omega
        · obtain rfl : k = n := by omega
          have ht : val (l.take k) = val l := by rw [List.take_of_length_le (by rw [← Hn.out]; exact Nat.le_refl _)]
          rw [ht]
          clear ht
          have hlt := val_lt l
          have hl8 : val l < 18446744073709551616 := Nat.lt_of_lt_of_le hlt (by
            have : l.length ≤ 8 := by rw [← Hn.out]; omega
            exact Nat.pow_le_pow_right (n := 256) (by omega) this)
          clear hlt
          have HN : Hid (¬ l.length = 0 ∧ ¬ 8 < l.length) := by rw [← Hn.out]; exact ⟨h0, h8⟩
          by_cases hbig : 4611686018427387903 < val l
          · have hv : Hid (numV l = 0 ∧ numE l = 4) := by rw [numV, numE, if_neg HN.out.1, if_neg HN.out.2, if_neg HN.out.1, if_neg HN.out.2, if_pos hbig, if_pos hbig]; exact ⟨rfl, rfl⟩
            go_wp2_with fail
            go_ret2
            exact ⟨by rw [hv.out.1, hv.out.2]; rfl, e1⟩
          · have hv : Hid (numV l = val l ∧ numE l = 0) := by rw [numV, numE, if_neg HN.out.1, if_neg HN.out.2, if_neg HN.out.1, if_neg HN.out.2, if_neg hbig, if_neg hbig]; exact ⟨rfl, rfl⟩
            go_wp2_with fail
            go_ret2
            exact ⟨by rw [hv.out.1, hv.out.2]; rfl, e1⟩
theorem bt_div (n : Int) (i : Nat) : bt (n / 256) i = bt n (i + 1) := by
  unfold bt
  rw [Int.ediv_ediv_of_nonneg (by omega), Int.pow_succ, Int.mul_comm]
theorem puts_succ (n : Int) (m : Nat) : puts n (m + 1) = puts (n / 256) m ++ [bt n 0] := by
  unfold puts
  rw [List.range_succ, List.map_append]
  congr 1
  · apply List.map_congr_left
    intro j hj
    rw [List.mem_range] at hj
    rw [bt_div]
    congr 1
    omega
  · simp
theorem emod_step (n K : Int) (hK : 0 < K) : n % (K * 256) = (n / 256 % K) * 256 + n % 256 := by
  have h1 := Int.emod_add_mul_ediv n 256
  have h2 := Int.emod_add_mul_ediv (n / 256) K
  have a1 : 0 ≤ n % 256 := Int.emod_nonneg _ (by omega)
  have a2 : n % 256 < 256 := Int.emod_lt_of_pos _ (by omega)
  have b1 : 0 ≤ n / 256 % K := Int.emod_nonneg _ (by omega)
  have b2 : n / 256 % K < K := Int.emod_lt_of_pos _ hK
  have e : n = ((n / 256 % K) * 256 + n % 256) + (K * 256) * (n / 256 / K) := by
    have : (K * 256) * (n / 256 / K) = 256 * (K * (n / 256 / K)) := by rw [Int.mul_comm K 256, Int.mul_assoc]
    rw [this]
    omega
  have hr : n % (K * 256) = ((n / 256 % K) * 256 + n % 256) % (K * 256) := by
    conv => lhs; rw [e]
    rw [Int.add_mul_emod_self_left]
  rw [hr, Int.emod_eq_of_lt (by omega) (by omega)]
theorem val_puts (n : Int) (m : Nat) : (val (puts n m) : Int) = n % (256 : Int) ^ m := by
  induction m generalizing n with
  | zero => simp [puts, val, Int.emod_one]
  | succ m ih =>
    rw [puts_succ, val_snoc, Int.pow_succ, emod_step n _ (Int.pow_pos (by omega)), ← ih (n / 256)]
    have := bt_zero n
    omega
theorem num_back (n : Int) (h1 : -9223372036854775808 ≤ n) (h2 : n ≤ 9223372036854775807) : numE (puts n 8) = (if n < 0 ∨ 4611686018427387903 < n then 4 else 0) ∧ (¬ (n < 0 ∨ 4611686018427387903 < n) → numV (puts n 8) = n) := by
  have hv := val_puts n 8
  have hl := puts_length n 8
  have hp : (256 : Int) ^ 8 = 18446744073709551616 := by decide
  rw [hp] at hv
  unfold numE numV
  rw [hl]
  by_cases h : n < 0 ∨ 4611686018427387903 < n
  · have hb : 4611686018427387903 < val (puts n 8) := by omega
    simp [h, hb]
  · have hb : ¬ 4611686018427387903 < val (puts n 8) := by omega
    rw [if_neg h, if_neg (by omega), if_neg (by omega), if_neg hb, if_neg (by omega), if_neg (by omega), if_neg hb]
    exact ⟨rfl, fun _ => by omega⟩
open Go.RowKit
theorem len_data (s : ByteArray) : s.data.toList.length = s.size := by rw [Array.length_toList]; rfl
theorem rd_bytesRow (W : World) (s : ByteArray) (cap : Nat) (e : TypeId) (fz : Nat × Nat) : Rd (W.alloc (.cells (bytesRow s cap) e fz)) W.heap.size (W.heap.size + 1) (some ⟨W.heap.size, 0, none⟩) (bytes s.data.toList) := fun _ => by
  refine ⟨_, _, rfl, Nat.le_refl _, Nat.lt_succ_self _, fun j u h => ?_⟩
  have h1 := heap_alloc_new W (.cells (bytesRow s cap) e fz)
  unfold World.cell?
  rw [h1]
  simp only [bytes, List.getElem?_map, Array.getElem?_toList] at h
  simp only [Nat.zero_add, Option.isSome_none, Bool.false_eq_true, if_false, bytesRow]
  have hj : j < s.data.size := by
    rcases Nat.lt_or_ge j s.data.size with h' | h'
    · exact h'
    · rw [Array.getElem?_eq_none h'] at h; cases h
  rw [Array.getElem?_append_left (by simpa using hj), Array.getElem?_map]
  exact h
theorem empty_of (s : ByteArray) (h : s.size = 0) : s = ⟨#[]⟩ := by
  cases s with
  | mk d =>
    have : d = #[] := Array.eq_empty_of_size_eq_zero h
    rw [this]
theorem rd_str {w : World} {lo hi : Nat} {A : Option Addr} {l : List ByteArray} (h : Rd w lo hi A (l.map Value.string)) {k : Nat} (hk : k < l.length) :
    ∃ b o, A = some ⟨b, o, none⟩ ∧ lo ≤ b ∧ b < hi ∧ w.cell? ⟨b, o + k, none⟩ = some (.string l[k]) := by
  obtain ⟨b, o, h1, h2, h3, h4⟩ := h (fun e => by have : (l.map Value.string).length = l.length := by simp
                                                  rw [e] at this; simp at this; omega)
  exact ⟨b, o, h1, h2, h3, h4 k _ (by rw [List.getElem?_map, List.getElem?_eq_getElem hk]; rfl)⟩
open Go.RowKit
def fE (s : ByteArray) : Int := if s.size < 8 then 8 else if 8 < s.size then 5 else numE s.data.toList
def fV (s : ByteArray) : Int := if s.size < 8 then 0 else if 8 < s.size then 0 else numV s.data.toList
set_option maxRecDepth 100000 in
set_option maxHeartbeats 400000 in
theorem fnumber_any (s : ByteArray) (w : World) (hm : s.size ≤ 9223372036854775807) :
    Calls Tryz.prog 153 #[.string s] w fun e w' => e = .returned (.tuple #[.int .i64 (fV s), .int .i64 (fE s)]) ∧ Ext w w' := by
  by_cases h0 : s.size < 8
  · have hv : Hid (fV s = 0 ∧ fE s = 8) := by rw [fV, fE, if_pos h0, if_pos h0]; exact ⟨rfl, rfl⟩
    go_enter Tryz.func153, Tryz.ntmps153
    go_wp2_with fail
    go_ret2
    exact ⟨by rw [hv.out.1, hv.out.2]; rfl, Ext.refl _⟩
  · by_cases h8 : 8 < s.size
    · have hv : Hid (fV s = 0 ∧ fE s = 5) := by rw [fV, fE, if_neg h0, if_neg h0, if_pos h8, if_pos h8]; exact ⟨rfl, rfl⟩
      go_enter Tryz.func153, Tryz.ntmps153
      go_wp2_with fail
      go_ret2
      exact ⟨by rw [hv.out.1, hv.out.2]; rfl, Ext.refl _⟩
    · have hv : Hid (fV s = numV s.data.toList ∧ fE s = numE s.data.toList) := by rw [fV, fE, if_neg h0, if_neg h0, if_neg h8, if_neg h8]; exact ⟨rfl, rfl⟩
      have hcv := fun W => run_bytes_of_string (P := Tryz.prog) W 9 53 5 s Tryz.underlying9 Tryz.underlying53 Tryz.underlying5
      have hrd := rd_bytesRow w s (grownCap w s.size 0 5) 5 ((bytesRow s (grownCap w s.size 0 5)).size, (bytesRow s (grownCap w s.size 0 5)).size + 1)
      have HR := Lib.hid hrd
      clear hrd
      go_enter Tryz.func153, Tryz.ntmps153
      go_wp2_with fail
      clear hcv
      refine (number_any _ _ s.size _ _ _ s.data.toList (by rw [len_data]) hm HR.out.drew (by simp)).mono ?_
      rintro e w2 ⟨rfl, e2⟩
      go_wp2_with fail
      go_ret2
      exact ⟨by rw [hv.out.1, hv.out.2]; rfl, blo⟩
theorem info9 : (Tryz.prog.info? 9).map (fun i => (i.zero, i.size, i.bytes)) = some (some (.string .empty), 1, 16) := by kernel_rfl
def num8 (z : Int) : ByteArray := ⟨(puts z 8).toArray⟩
def ints (zs : List Int) : List Value := zs.map (Value.int .i64)
theorem rd_int {w : World} {lo hi : Nat} {A : Option Addr} {l : List Int} (h : Rd w lo hi A (ints l)) {k : Nat} (hk : k < l.length) :
    ∃ b o, A = some ⟨b, o, none⟩ ∧ lo ≤ b ∧ b < hi ∧ w.cell? ⟨b, o + k, none⟩ = some (.int .i64 l[k]) := by
  obtain ⟨b, o, h1, h2, h3, h4⟩ := h (fun e => by have : (ints l).length = l.length := by simp [ints]
                                                  rw [e] at this; simp at this; omega)
  exact ⟨b, o, h1, h2, h3, h4 k _ (by rw [ints, List.getElem?_map, List.getElem?_eq_getElem hk]; rfl)⟩
def num8s (zs : List Int) : List Value := zs.map fun z => .string (num8 z)
theorem num8s_snoc (xs : List Int) (k : Nat) (hk : k < xs.length) : num8s (xs.take (k + 1)) = num8s (xs.take k) ++ [.string (num8 xs[k])] := by
  rw [List.take_succ_eq_append_getElem hk, num8s, num8s, List.map_append]
  rfl
set_option maxRecDepth 100000 in
set_option maxHeartbeats 1000000 in
theorem numbers_any (w : World) (A : Option Addr) (n c : Nat) (zs : List Int) (hn : n = zs.length) (hr : Rd w 0 w.heap.size A (ints zs)) (hb : n * 16 ≤ 140737488355328) (hwf : ∀ z ∈ zs, -9223372036854775808 ≤ z ∧ z ≤ 9223372036854775807) :
    Calls Tryz.prog 95 #[.slice A n c] w fun e w' => ∃ v, e = .returned v ∧ w'.ownsRow w.heap.size 9 1 v n (num8s zs) ∧ Ext w w' := by
  obtain ⟨i0, hi0, hz0, hz1, hz2⟩ := info_parts info9
  have Hn := Lib.hid hn
  have HW := Lib.hid hwf
  clear hn hwf
  go_enter Tryz.func95, Tryz.ntmps95
  go_wp2_with fail
  go_loopw [3, 8] (fun v i wr => ∃ k : Nat, k ≤ n ∧ i = .int .i64 k ∧ wr.ownsRow w.heap.size 9 1 v k (num8s (zs.take k)) ∧ Ext w wr) (fun _ i _ => n - (intOf i).toNat)
  case atStart => exact ⟨0, Nat.zero_le _, rfl, World.ownsRow_nil _ _ _ _, Ext.refl _⟩
  case round =>
    obtain ⟨k, hk, rfl, hown, e3⟩ := hrel
    by_cases hlt : k < n
    · obtain ⟨b1, o1, rfl, _, _, f0⟩ := rd_int (hr.at (w' := wr) blo (Nat.le_refl _)) (k := k) (by rw [← Hn.out]; omega)
      have hy := HW.out zs[k] (List.getElem_mem _)
      have htx := Lib.hid (num8s_snoc zs k (by rw [← Hn.out]; omega))
      generalize zs[k]'(by rw [← Hn.out]; omega) = y at *
      go_wp2_with fail
      clear f0
      refine (put_any y _ 8 (Nat.le_refl _) rfl wr hy.1 hy.2).mono ?_
      rintro e w2 ⟨v2, rfl, hown2, e2⟩
      obtain ⟨A2, c2, rfl, _, _, _⟩ := own_form hown2
      have hcv : (convert 53 9 (.slice A2 8 c2)).run Tryz.prog w2 = .ok (.string (num8 y)) w2 := run_conv_str w2 _ _ 5 Tryz.underlying53 Tryz.underlying5 Tryz.underlying9 _ _ A2 8 c2 (puts y 8) (puts_length _ _).symm (Rd.of_own hown2)
      have own2 := own_ext hown e2
      have e4 : Ext w w2 := blo
      clear hown e2 e3 hown2
      go_wp2_with
        (at_builtin
         refine list_app _ rfl (.tmp 12) (.tmp 16) _ rfl 9 i0 _ 1 16 Tryz.underlying109 hi0 hz0 hz1 hz2 rfl (by omega) _ _ k _ rfl (own2.alloc _) 0 _ _ 1 1 [.string (num8 y)] rfl rfl
           ((rd_new _ _ _).m0) (by simp [Value.oneCell']) (by simp only [maxLen]; omega) (by omega) (by have := e4.size; simp; omega) ?_
         intro v3 w3 hown3 he3 _ _
         have e5 : Ext w w3 := he3 _ (e4.alloc _) (Nat.le_refl _)
         clear he3 own2 e4)
      go_roundw
      case rel => exact ⟨k + 1, by omega, by go_num, by rw [htx.out]; exact hown3, e5⟩
      case measure => simp [intOf]; omega
    · go_wp2_with fail
      obtain rfl : k = n := by omega
      go_ret
      exact ⟨_, rfl, by rw [List.take_of_length_le (by rw [← Hn.out]; exact Nat.le_refl _)] at hown; exact hown, e3⟩
end Go.Proofs.YtckaneapjpiocaaGreatDoor
