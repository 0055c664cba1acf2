/- The texts Oct, Str, Fld, Imp, SrtA, Iky, Spc in one file. -/
import Derived.Test.YtfongpdeflfioaaGreatS3
import Derived.Test.YtfongpdeflfioaaGreatS1
import Derived.Lib.AppendStr
import Derived.Maps.Own
import Derived.Maps.OwnSet
import Derived.Maps.OwnOps
import Derived.Maps.Range
import Derived.Maps.Keyed
import Derived.Shelf.SortM.Plain
import Derived.Shelf.SortM.SortNone
import Derived.Ground.SlgmProg
import Derived.Test.YtfongpdeflfioaaGreatProg
import Derived.Sort.MapsRangeIn
import Derived.Sort.OwnSortedInts
import Derived.Test.YtfongpdeflfioaaGreatS2
/- The walks of octets.Number, slices.Clone of octets, octets.Cut. -/
namespace Go.Proofs.YtfongpdeflfioaaGreat
open Go.RowKit
def val (l : List UInt8) : Nat := l.foldl (fun n c => n * 256 + c.toNat) 0
theorem val_snoc (l : List UInt8) (c : UInt8) : val (l ++ [c]) = val l * 256 + c.toNat := by simp [val]
theorem val_lt (l : List UInt8) : val l < 256 ^ l.length := by
  suffices h : ∀ (n : Nat) (k : Nat), n < 256 ^ k → l.foldl (fun n c => n * 256 + c.toNat) n < 256 ^ (k + l.length) by
    have := h 0 0 (by omega)
    rwa [Nat.zero_add] at this
  induction l with
  | nil => exact fun n k h => h
  | cons c l ih =>
    intro n k h
    have hc : c.toNat < 256 := c.toNat_lt
    have := ih (n * 256 + c.toNat) (k + 1) (by rw [Nat.pow_succ]; omega)
    simp only [List.foldl_cons, List.length_cons]
    rw [show k + (l.length + 1) = k + 1 + l.length from by omega]
    exact this
theorem val_take (l : List UInt8) (k : Nat) (hk : k < l.length) : val (l.take (k + 1)) = val (l.take k) * 256 + l[k].toNat := by
  rw [List.take_succ_eq_append_getElem hk, val_snoc]
theorem val_lt7 (l : List UInt8) (k : Nat) (hk : k ≤ 7) : val (l.take k) < 72057594037927936 := by
  have h1 := val_lt (l.take k)
  have h2 : (l.take k).length ≤ 7 := Nat.le_trans (List.length_take_le _ _) hk
  exact Nat.lt_of_lt_of_le h1 (Nat.pow_le_pow_right (by omega) h2)
theorem or_u64 (q y : Nat) (hq : q < 72057594037927936) (hy : y < 2 ^ 8) : bits .or .u64 ((q : Int) * 256) (y : Int) = ((q * 256 + y : Nat) : Int) := by
  have h1 : q * 256 ||| y = q * 256 + y := by
    have := Nat.shiftLeft_add_eq_or_of_lt hy q
    rw [Nat.shiftLeft_eq] at this
    exact this.symm
  have h2 : ((q : Int) * 256) = ((q * 256 : Nat) : Int) := by omega
  rw [h2]
  show IntKind.u64.wrap ((BitVec.ofInt 64 ((q * 256 : Nat) : Int) ||| BitVec.ofInt 64 (y : Int)).toNat : Int) = _
  rw [BitVec.toNat_or, BitVec.ofInt_natCast, BitVec.ofInt_natCast, BitVec.toNat_ofNat, BitVec.toNat_ofNat, Nat.mod_eq_of_lt (by omega), Nat.mod_eq_of_lt (by omega), h1, IntKind.wrap_u64]
  omega
def numE (l : List UInt8) : Int := if l.length = 0 then 8 else if 8 < l.length then 5 else if 4611686018427387903 < val l then 4 else 0
def numV (l : List UInt8) : Int := if l.length = 0 then 0 else if 8 < l.length then 0 else if 4611686018427387903 < val l then 0 else val l
set_option maxRecDepth 100000 in
set_option maxHeartbeats 400000 in
theorem number_any (w : World) (A : Option Addr) (n c lo hi : Nat) (l : List UInt8) (hn : n = l.length) (hm : n ≤ 9223372036854775807) (hr : Rd w lo hi A (bytes l)) (hh : hi ≤ w.heap.size) :
    Calls Tryz.prog 79 #[.slice A n c] w fun e w' => e = .returned (.tuple #[.int .i64 (numV l), .int .i64 (numE l)]) ∧ Ext w w' := by
  have Hn := Lib.hid hn
  by_cases h0 : n = 0
  · have hv : Hid (numV l = 0 ∧ numE l = 8) := by rw [numV, numE, if_pos (by omega), if_pos (by omega)]; exact ⟨rfl, rfl⟩
    subst h0
    clear hn
    go_enter Tryz.func79, Tryz.ntmps79
    go_wp2_with fail
    go_ret2
    exact ⟨by rw [hv.out.1, hv.out.2]; rfl, Ext.refl _⟩
  · by_cases h8 : 8 < n
    · have hv : Hid (numV l = 0 ∧ numE l = 5) := by rw [numV, numE, if_neg (by omega), if_pos (by omega), if_neg (by omega), if_pos (by omega)]; exact ⟨rfl, rfl⟩
      have b0 : ((n : Int) == 0) = false := by simp; omega
      clear hn
      go_enter Tryz.func79, Tryz.ntmps79
      go_wp2_with fail
      go_ret2
      exact ⟨by rw [hv.out.1, hv.out.2]; rfl, Ext.refl _⟩
    · have b0 : ((n : Int) == 0) = false := by simp; omega
      clear hn
      go_enter Tryz.func79, Tryz.ntmps79
      go_wp2_with fail
      go_loopw [4, 17] (fun v i wr => ∃ k : Nat, k ≤ n ∧ i = .int .i64 k ∧ v = .int .u64 (val (l.take k)) ∧ Ext w wr) (fun _ i _ => n - (intOf i).toNat)
      case atStart => exact ⟨0, Nat.zero_le _, rfl, rfl, Ext.refl _⟩
      case round =>
        obtain ⟨k, hk, rfl, rfl, e1⟩ := hrel
        by_cases hlt : k < n
        · obtain ⟨b1, o1, rfl, _, _, f0⟩ := rd_byte (hr.ext e1 hh) (k := k) (by rw [← Hn.out]; omega)
          have hvt := Lib.hid (val_take l k (by rw [← Hn.out]; omega))
          have h7 := val_lt7 l k (by omega)
          have hc := (l[k]'(by rw [← Hn.out]; omega)).toNat_lt
          generalize l[k]'(by rw [← Hn.out]; omega) = y at *
          generalize val (l.take k) = q at *
          go_wp2_with fail
          go_roundw
          case rel => exact ⟨k + 1, by omega, by go_num, by rw [or_u64 q y.toNat h7 hc, hvt.out], by exact blo⟩
          case measure => simp [intOf]; omega
        · obtain rfl : k = n := by omega
          have ht : val (l.take k) = val l := by rw [List.take_of_length_le (by rw [← Hn.out]; exact Nat.le_refl _)]
          rw [ht]
          clear ht
          have hlt := val_lt l
          have hl8 : val l < 18446744073709551616 := Nat.lt_of_lt_of_le hlt (by
            have : l.length ≤ 8 := by rw [← Hn.out]; omega
            exact Nat.pow_le_pow_right (n := 256) (by omega) this)
          clear hlt
          have HN : Hid (¬ l.length = 0 ∧ ¬ 8 < l.length) := by rw [← Hn.out]; exact ⟨h0, h8⟩
          by_cases hbig : 4611686018427387903 < val l
          · have hv : Hid (numV l = 0 ∧ numE l = 4) := by rw [numV, numE, if_neg HN.out.1, if_neg HN.out.2, if_neg HN.out.1, if_neg HN.out.2, if_pos hbig, if_pos hbig]; exact ⟨rfl, rfl⟩
            go_wp2_with fail
            go_ret2
            exact ⟨by rw [hv.out.1, hv.out.2]; rfl, e1⟩
          · have hv : Hid (numV l = val l ∧ numE l = 0) := by rw [numV, numE, if_neg HN.out.1, if_neg HN.out.2, if_neg HN.out.1, if_neg HN.out.2, if_neg hbig, if_neg hbig]; exact ⟨rfl, rfl⟩
            go_wp2_with fail
            go_ret2
            exact ⟨by rw [hv.out.1, hv.out.2]; rfl, e1⟩
theorem bt_div (n : Int) (i : Nat) : bt (n / 256) i = bt n (i + 1) := by
  unfold bt
  rw [Int.ediv_ediv_of_nonneg (by omega), Int.pow_succ, Int.mul_comm]
theorem puts_succ (n : Int) (m : Nat) : puts n (m + 1) = puts (n / 256) m ++ [bt n 0] := by
  unfold puts
  rw [List.range_succ, List.map_append]
  congr 1
  · apply List.map_congr_left
    intro j hj
    rw [List.mem_range] at hj
    rw [bt_div]
    congr 1
    omega
  · simp
theorem emod_step (n K : Int) (hK : 0 < K) : n % (K * 256) = (n / 256 % K) * 256 + n % 256 := by
  have h1 := Int.emod_add_mul_ediv n 256
  have h2 := Int.emod_add_mul_ediv (n / 256) K
  have a1 : 0 ≤ n % 256 := Int.emod_nonneg _ (by omega)
  have a2 : n % 256 < 256 := Int.emod_lt_of_pos _ (by omega)
  have b1 : 0 ≤ n / 256 % K := Int.emod_nonneg _ (by omega)
  have b2 : n / 256 % K < K := Int.emod_lt_of_pos _ hK
  have e : n = ((n / 256 % K) * 256 + n % 256) + (K * 256) * (n / 256 / K) := by
    have : (K * 256) * (n / 256 / K) = 256 * (K * (n / 256 / K)) := by rw [Int.mul_comm K 256, Int.mul_assoc]
    rw [this]
    omega
  have hr : n % (K * 256) = ((n / 256 % K) * 256 + n % 256) % (K * 256) := by
    conv => lhs; rw [e]
    rw [Int.add_mul_emod_self_left]
  rw [hr, Int.emod_eq_of_lt (by omega) (by omega)]
theorem val_puts (n : Int) (m : Nat) : (val (puts n m) : Int) = n % (256 : Int) ^ m := by
  induction m generalizing n with
  | zero => simp [puts, val, Int.emod_one]
  | succ m ih =>
    rw [puts_succ, val_snoc, Int.pow_succ, emod_step n _ (Int.pow_pos (by omega)), ← ih (n / 256)]
    have := bt_zero n
    omega
theorem num_back (n : Int) (h1 : -9223372036854775808 ≤ n) (h2 : n ≤ 9223372036854775807) : numE (puts n 8) = (if n < 0 ∨ 4611686018427387903 < n then 4 else 0) ∧ (¬ (n < 0 ∨ 4611686018427387903 < n) → numV (puts n 8) = n) := by
  have hv := val_puts n 8
  have hl := puts_length n 8
  have hp : (256 : Int) ^ 8 = 18446744073709551616 := by decide
  rw [hp] at hv
  unfold numE numV
  rw [hl]
  by_cases h : n < 0 ∨ 4611686018427387903 < n
  · have hb : 4611686018427387903 < val (puts n 8) := by omega
    simp [h, hb]
  · have hb : ¬ 4611686018427387903 < val (puts n 8) := by omega
    rw [if_neg h, if_neg (by omega), if_neg (by omega), if_neg hb, if_neg (by omega), if_neg (by omega), if_neg hb]
    exact ⟨rfl, fun _ => by omega⟩
end Go.Proofs.YtfongpdeflfioaaGreat
/- A string's octets as cells. Laws over whatever program. -/
namespace Go.Proofs.YtfongpdeflfioaaGreat
open Go.RowKit
theorem len_data (s : ByteArray) : s.data.toList.length = s.size := by rw [Array.length_toList]; rfl
theorem rd_bytesRow (W : World) (s : ByteArray) (cap : Nat) (e : TypeId) (fz : Nat × Nat) : Rd (W.alloc (.cells (bytesRow s cap) e fz)) W.heap.size (W.heap.size + 1) (some ⟨W.heap.size, 0, none⟩) (bytes s.data.toList) := fun _ => by
  refine ⟨_, _, rfl, Nat.le_refl _, Nat.lt_succ_self _, fun j u h => ?_⟩
  have h1 := heap_alloc_new W (.cells (bytesRow s cap) e fz)
  unfold World.cell?
  rw [h1]
  simp only [bytes, List.getElem?_map, Array.getElem?_toList] at h
  simp only [Nat.zero_add, Option.isSome_none, Bool.false_eq_true, if_false, bytesRow]
  have hj : j < s.data.size := by
    rcases Nat.lt_or_ge j s.data.size with h' | h'
    · exact h'
    · rw [Array.getElem?_eq_none h'] at h; cases h
  rw [Array.getElem?_append_left (by simpa using hj), Array.getElem?_map]
  exact h
theorem empty_of (s : ByteArray) (h : s.size = 0) : s = ⟨#[]⟩ := by
  cases s with
  | mk d =>
    have : d = #[] := Array.eq_empty_of_size_eq_zero h
    rw [this]
theorem rd_str {w : World} {lo hi : Nat} {A : Option Addr} {l : List ByteArray} (h : Rd w lo hi A (l.map Value.string)) {k : Nat} (hk : k < l.length) :
    ∃ b o, A = some ⟨b, o, none⟩ ∧ lo ≤ b ∧ b < hi ∧ w.cell? ⟨b, o + k, none⟩ = some (.string l[k]) := by
  obtain ⟨b, o, h1, h2, h3, h4⟩ := h (fun e => by have : (l.map Value.string).length = l.length := by simp
                                                  rw [e] at this; simp at this; omega)
  exact ⟨b, o, h1, h2, h3, h4 k _ (by rw [List.getElem?_map, List.getElem?_eq_getElem hk]; rfl)⟩
end Go.Proofs.YtfongpdeflfioaaGreat
/- The walks of fields.Number, fields.Numbers, fields.Write. -/
namespace Go.Proofs.YtfongpdeflfioaaGreat
open Go.RowKit
def fE (s : ByteArray) : Int := if s.size < 8 then 8 else if 8 < s.size then 5 else numE s.data.toList
def fV (s : ByteArray) : Int := if s.size < 8 then 0 else if 8 < s.size then 0 else numV s.data.toList
set_option maxRecDepth 100000 in
set_option maxHeartbeats 400000 in
theorem fnumber_any (s : ByteArray) (w : World) (hm : s.size ≤ 9223372036854775807) :
    Calls Tryz.prog 106 #[.string s] w fun e w' => e = .returned (.tuple #[.int .i64 (fV s), .int .i64 (fE s)]) ∧ Ext w w' := by
  by_cases h0 : s.size < 8
  · have hv : Hid (fV s = 0 ∧ fE s = 8) := by rw [fV, fE, if_pos h0, if_pos h0]; exact ⟨rfl, rfl⟩
    go_enter Tryz.func106, Tryz.ntmps106
    go_wp2_with fail
    go_ret2
    exact ⟨by rw [hv.out.1, hv.out.2]; rfl, Ext.refl _⟩
  · by_cases h8 : 8 < s.size
    · have hv : Hid (fV s = 0 ∧ fE s = 5) := by rw [fV, fE, if_neg h0, if_neg h0, if_pos h8, if_pos h8]; exact ⟨rfl, rfl⟩
      go_enter Tryz.func106, Tryz.ntmps106
      go_wp2_with fail
      go_ret2
      exact ⟨by rw [hv.out.1, hv.out.2]; rfl, Ext.refl _⟩
    · have hv : Hid (fV s = numV s.data.toList ∧ fE s = numE s.data.toList) := by rw [fV, fE, if_neg h0, if_neg h0, if_neg h8, if_neg h8]; exact ⟨rfl, rfl⟩
      have hcv := fun W => run_bytes_of_string (P := Tryz.prog) W 9 33 5 s Tryz.underlying9 Tryz.underlying33 Tryz.underlying5
      have hrd := rd_bytesRow w s (grownCap w s.size 0 5) 5 ((bytesRow s (grownCap w s.size 0 5)).size, (bytesRow s (grownCap w s.size 0 5)).size + 1)
      have HR := Lib.hid hrd
      clear hrd
      go_enter Tryz.func106, Tryz.ntmps106
      go_wp2_with fail
      clear hcv
      refine (number_any _ _ s.size _ _ _ s.data.toList (by rw [len_data]) hm HR.out.drew (by simp)).mono ?_
      rintro e w2 ⟨rfl, e2⟩
      go_wp2_with fail
      go_ret2
      exact ⟨by rw [hv.out.1, hv.out.2]; rfl, by exact blo⟩
theorem info9 : (Tryz.prog.info? 9).map (fun i => (i.zero, i.size, i.bytes)) = some (some (.string .empty), 1, 16) := by kernel_rfl
def num8 (z : Int) : ByteArray := ⟨(puts z 8).toArray⟩
def ints (zs : List Int) : List Value := zs.map (Value.int .i64)
theorem rd_int {w : World} {lo hi : Nat} {A : Option Addr} {l : List Int} (h : Rd w lo hi A (ints l)) {k : Nat} (hk : k < l.length) :
    ∃ b o, A = some ⟨b, o, none⟩ ∧ lo ≤ b ∧ b < hi ∧ w.cell? ⟨b, o + k, none⟩ = some (.int .i64 l[k]) := by
  obtain ⟨b, o, h1, h2, h3, h4⟩ := h (fun e => by have : (ints l).length = l.length := by simp [ints]
                                                  rw [e] at this; simp at this; omega)
  exact ⟨b, o, h1, h2, h3, h4 k _ (by rw [ints, List.getElem?_map, List.getElem?_eq_getElem hk]; rfl)⟩
def num8s (zs : List Int) : List Value := zs.map fun z => .string (num8 z)
theorem num8s_snoc (xs : List Int) (k : Nat) (hk : k < xs.length) : num8s (xs.take (k + 1)) = num8s (xs.take k) ++ [.string (num8 xs[k])] := by
  rw [List.take_succ_eq_append_getElem hk, num8s, num8s, List.map_append]
  rfl
set_option maxRecDepth 100000 in
set_option maxHeartbeats 1000000 in
theorem numbers_any (w : World) (A : Option Addr) (n c : Nat) (zs : List Int) (hn : n = zs.length) (hr : Rd w 0 w.heap.size A (ints zs)) (hb : n * 16 ≤ 140737488355328) (hwf : ∀ z ∈ zs, -9223372036854775808 ≤ z ∧ z ≤ 9223372036854775807) :
    Calls Tryz.prog 91 #[.slice A n c] w fun e w' => ∃ v, e = .returned v ∧ w'.ownsRow w.heap.size 9 1 v n (num8s zs) ∧ Ext w w' := by
  obtain ⟨i0, hi0, hz0, hz1, hz2⟩ := info_parts info9
  have Hn := Lib.hid hn
  have HW := Lib.hid hwf
  clear hn hwf
  go_enter Tryz.func91, Tryz.ntmps91
  go_wp2_with fail
  go_loopw [3, 8] (fun v i wr => ∃ k : Nat, k ≤ n ∧ i = .int .i64 k ∧ wr.ownsRow w.heap.size 9 1 v k (num8s (zs.take k)) ∧ Ext w wr) (fun _ i _ => n - (intOf i).toNat)
  case atStart => exact ⟨0, Nat.zero_le _, rfl, World.ownsRow_nil _ _ _ _, Ext.refl _⟩
  case round =>
    obtain ⟨k, hk, rfl, hown, e3⟩ := hrel
    by_cases hlt : k < n
    · obtain ⟨b1, o1, rfl, _, _, f0⟩ := rd_int (hr.at (w' := wr) (by exact blo) (Nat.le_refl _)) (k := k) (by rw [← Hn.out]; omega)
      have hy := HW.out zs[k] (List.getElem_mem _)
      have htx := Lib.hid (num8s_snoc zs k (by rw [← Hn.out]; omega))
      generalize zs[k]'(by rw [← Hn.out]; omega) = y at *
      go_wp2_with fail
      clear f0
      refine (put_any y _ 8 (Nat.le_refl _) rfl wr hy.1 hy.2).mono ?_
      rintro e w2 ⟨v2, rfl, hown2, e2⟩
      obtain ⟨A2, c2, rfl, _, _, _⟩ := own_form hown2
      have hcv : (convert 33 9 (.slice A2 8 c2)).run Tryz.prog w2 = .ok (.string (num8 y)) w2 := run_conv_str w2 _ _ 5 Tryz.underlying33 Tryz.underlying5 Tryz.underlying9 _ _ A2 8 c2 (puts y 8) (puts_length _ _).symm (Rd.of_own hown2)
      have own2 := own_ext hown e2
      have e4 : Ext w w2 := by exact blo
      clear hown e2 e3 hown2
      go_wp2_with
        (at_builtin
         refine list_app _ rfl (.tmp 12) (.tmp 16) _ rfl 9 i0 _ 1 16 Tryz.underlying126 hi0 hz0 hz1 hz2 rfl (by omega) _ _ k _ rfl (own2.alloc _) 0 _ _ 1 1 [.string (num8 y)] rfl rfl
           ((rd_new _ _ _).m0) (by simp [Value.oneCell']) (by simp only [maxLen]; omega) (by omega) (by have := e4.size; simp; omega) ?_
         intro v3 w3 hown3 he3 _ _
         have e5 : Ext w w3 := he3 _ (e4.alloc _) (Nat.le_refl _)
         clear he3 own2 e4)
      go_roundw
      case rel => exact ⟨k + 1, by omega, by go_num, by rw [htx.out]; exact hown3, e5⟩
      case measure => simp [intOf]; omega
    · go_wp2_with fail
      obtain rfl : k = n := by omega
      go_ret
      exact ⟨_, rfl, by rw [List.take_of_length_le (by rw [← Hn.out]; exact Nat.le_refl _)] at hown; exact hown, e3⟩
end Go.Proofs.YtfongpdeflfioaaGreat
/- A set of numbers as a map of bools: a list that rises. The plain law. -/
namespace Go.Proofs.YtfongpdeflfioaaGreat
open Go.RowKit Go.Maps
set_option linter.unusedVariables false
theorem ints_length (l : List Int) : (ints l).length = l.length := by simp [ints]
theorem ints_append (a b : List Int) : ints (a ++ b) = ints a ++ ints b := by simp [ints]
theorem ints_one (l : List Int) : ∀ u ∈ ints l, u.oneCell' = true := by
  intro u hu
  obtain ⟨x, _, rfl⟩ := List.mem_map.1 hu
  rfl
def entI (n : Int) : Lit × DataW Unit := (.int .i64 n, .lit (.bool true))
def dmI (L : List Int) : DataW Unit := .map (L.map entI)
def insI (n : Int) : List Int → List Int
  | [] => [n]
  | y :: r => if n < y then n :: y :: r else y :: insI n r
def delI (L : List Int) (n : Int) : List Int := L.filter fun y => decide (y ≠ n)
def putI (L : List Int) (n : Int) : List Int := insI n (delI L n)
abbrev SortI (L : List Int) : Prop := L.Pairwise (· < ·)
theorem same_int (a b : Int) : Lit.sameKey (.int .i64 a) (.int .i64 b) = decide (a = b) := by simp [Lit.sameKey]
theorem insI_map (n : Int) : ∀ l : List Int, DataW.insert (entI n) (l.map entI) = (insI n l).map entI
  | [] => rfl
  | y :: r => by
    rw [List.map_cons, DataW.insert, insI]
    have hb : (entI n).1.before (entI y).1 = decide (n < y) := rfl
    rw [hb, insI_map n r]
    by_cases h : n < y <;> simp [h]
theorem delI_map (L : List Int) (n : Int) : (L.map entI).filter (fun p => !p.1.sameKey (.int .i64 n)) = (delI L n).map entI := by
  rw [List.filter_map, delI]
  congr 2
  funext y
  show (!Lit.sameKey (.int .i64 y) (.int .i64 n)) = _
  rw [same_int]
  by_cases h : y = n <;> simp [h]
theorem dmI_put (L : List Int) (n : Int) : (dmI L).put (.int .i64 n) (.lit (.bool true)) = dmI (putI L n) := by
  show DataW.map (DataW.insert (entI n) ((L.map entI).filter fun p => !p.1.sameKey (.int .i64 n))) = _
  rw [delI_map, insI_map]
  rfl
theorem dmI_del (L : List Int) (n : Int) : (dmI L).del (.int .i64 n) = dmI (delI L n) := by
  show DataW.map ((L.map entI).filter fun p => !p.1.sameKey (.int .i64 n)) = _
  rw [delI_map]
  rfl
theorem dmI_size (L : List Int) : Maps.size (dmI L) = L.length := by rw [dmI, Maps.size_eq, List.length_map]
theorem dmI_at : ∀ (L : List Int) (n : Int), (dmI L).atKey (.int .i64 n) (.lit (.bool false)) = .lit (.bool (decide (n ∈ L)))
  | [], n => rfl
  | y :: r, n => by
    have ih := dmI_at r n
    simp only [dmI, DataW.atKey, List.map_cons] at ih ⊢
    by_cases h : y = n
    · subst h
      rw [List.find?_cons_of_pos (by show Lit.sameKey (.int .i64 y) (.int .i64 y) = true; simp [Lit.sameKey])]
      simp [entI]
    · rw [List.find?_cons_of_neg (by show ¬ Lit.sameKey (.int .i64 y) (.int .i64 n) = true; simp [Lit.sameKey, h])]
      rw [ih]
      have : n ≠ y := fun e => h e.symm
      simp [this]
theorem dmI_has : ∀ (L : List Int) (n : Int), Maps.has (dmI L) (.int .i64 n) = decide (n ∈ L)
  | [], n => rfl
  | y :: r, n => by
    have ih := dmI_has r n
    simp only [dmI, Maps.has_eq, List.map_cons, List.any_cons] at ih ⊢
    rw [ih]
    show (Lit.sameKey (.int .i64 y) (.int .i64 n) || _) = _
    rw [same_int]
    by_cases h : y = n
    · subst h; simp
    · have : n ≠ y := fun e => h e.symm
      simp [h, this]
theorem mem_insI {n x : Int} : ∀ {l : List Int}, x ∈ insI n l ↔ x = n ∨ x ∈ l
  | [] => by simp [insI]
  | y :: r => by
    rw [insI]
    split
    · simp
    · rw [List.mem_cons, mem_insI (l := r), List.mem_cons]
      constructor <;> (rintro (h | h | h) <;> simp [h])
theorem mem_delI {n x : Int} {l : List Int} : x ∈ delI l n ↔ x ∈ l ∧ x ≠ n := by simp [delI]
theorem mem_putI {n x : Int} {l : List Int} : x ∈ putI l n ↔ x = n ∨ x ∈ l := by
  rw [putI, mem_insI, mem_delI]
  by_cases h : x = n <;> simp [h]
theorem insI_sorted {n : Int} : ∀ {l : List Int}, SortI l → (n ∉ l) → SortI (insI n l)
  | [], _, _ => by simp [insI]
  | y :: r, h, hn => by
    obtain ⟨h1, h2⟩ := List.pairwise_cons.1 h
    rw [insI]
    split
    · rename_i hlt
      refine List.pairwise_cons.2 ⟨fun z hz => ?_, h⟩
      rcases List.mem_cons.1 hz with rfl | hz
      · exact hlt
      · exact Int.lt_trans hlt (h1 z hz)
    · rename_i hge
      refine List.pairwise_cons.2 ⟨fun z hz => ?_, insI_sorted h2 fun hm => hn (List.mem_cons_of_mem _ hm)⟩
      rcases mem_insI.1 hz with rfl | hz
      · have : z ≠ y := fun e => hn (by rw [e]; exact List.mem_cons_self)
        omega
      · exact h1 z hz
theorem delI_sorted {n : Int} {l : List Int} (h : SortI l) : SortI (delI l n) := List.Pairwise.filter _ h
theorem putI_sorted {n : Int} {l : List Int} (h : SortI l) : SortI (putI l n) := insI_sorted (delI_sorted h) fun hm => (mem_delI.1 hm).2 rfl
theorem insI_len {n : Int} : ∀ {l : List Int}, (insI n l).length = l.length + 1
  | [] => rfl
  | y :: r => by
    rw [insI]
    split
    · rfl
    · simp [insI_len (l := r)]
theorem putI_le {n : Int} {l : List Int} : (putI l n).length ≤ l.length + 1 := by
  rw [putI, insI_len]
  have := List.length_filter_le (fun y => decide (y ≠ n)) l
  simp only [delI]
  omega
theorem putI_new {n : Int} {l : List Int} (h : n ∉ l) : (putI l n).length = l.length + 1 := by
  rw [putI, insI_len, delI, List.filter_eq_self.2]
  intro a ha
  have : a ≠ n := fun e => h (e ▸ ha)
  simpa using this
theorem sortI_ext {a b : List Int} (ha : SortI a) (hb : SortI b) (h : ∀ x, x ∈ a ↔ x ∈ b) : a = b := by
  have na : a.Nodup := ha.imp fun h => by omega
  have nb : b.Nodup := hb.imp fun h => by omega
  have hp : a.Perm b := (List.perm_ext_iff_of_nodup na nb).2 h
  exact List.Perm.eq_of_pairwise (le := (· ≤ ·)) (fun x y _ _ h1 h2 => by omega) (ha.imp fun h => by omega) (hb.imp fun h => by omega) hp
def CollI (L : List Int) (left : Lit → Bool) (ks : List Int) : Prop := ks.Nodup ∧ ∀ x, x ∈ ks ↔ (x ∈ L ∧ left (.int .i64 x) = false)
theorem CollI.start (L : List Int) : CollI L (Maps.has (dmI L)) [] := ⟨List.nodup_nil, fun x => by rw [dmI_has]; simp⟩
theorem CollI.step {L : List Int} {left : Lit → Bool} {ks : List Int} (h : CollI L left ks) {x : Int} (hx : x ∈ L) (hl : left (.int .i64 x) = true) : CollI L (fun z => left z && !z.sameKey (.int .i64 x)) (ks ++ [x]) := by
  have hnew : x ∉ ks := fun hm => by have := ((h.2 x).1 hm).2; rw [hl] at this; cases this
  refine ⟨List.nodup_append.2 ⟨h.1, by simp, fun a ha b hb => by simp at hb; subst hb; exact fun e => hnew (e ▸ ha)⟩, fun y => ?_⟩
  by_cases hy : y = x
  · subst hy
    simp [hx, Lit.sameKey]
  · simp [h.2 y, hy, Lit.sameKey]
theorem CollI.perm {L : List Int} {left : Lit → Bool} {ks : List Int} (h : CollI L left ks) (hS : SortI L) (hl : ∀ kl, left kl = false) : ks.Perm L :=
  (List.perm_ext_iff_of_nodup h.1 (hS.imp fun h => by omega)).2 fun x => by rw [h.2 x, hl]; simp
theorem sort_perm {L ks : List Int} (hp : ks.Perm L) (hS : SortI L) : ks.mergeSort (fun x y => decide (x ≤ y)) = L := by
  have h1 : (ks.mergeSort (fun x y => decide (x ≤ y))).Perm L := (List.mergeSort_perm _ _).trans hp
  have h2 : (ks.mergeSort (fun x y => decide (x ≤ y))).Pairwise (fun x y => x ≤ y) := by
    have := List.pairwise_mergeSort (le := fun x y : Int => decide (x ≤ y)) (fun a b c hab hbc => by
      simp only [decide_eq_true_eq] at hab hbc ⊢
      omega) (fun a b => by
      simp only [Bool.or_eq_true, decide_eq_true_eq]
      omega) ks
    exact this.imp fun h => by simpa using h
  exact List.Perm.eq_of_pairwise (fun a b _ _ hab hba => Int.le_antisymm hab hba) h2 (hS.imp fun h => by omega) h1
theorem ownsMap_ext {H : Type} {P : Program} {k : TypeId} {R : Value → Option (DataW H × List MemPlace)} {w w' : World} {b n : Nat} {D : DataW H} (h : w.ownsMap P k R b n D) (e : Ext w w') : w'.ownsMap P k R b n D := by
  have hlt := h.lt
  obtain ⟨es, clock, hb, hrest⟩ := h
  exact ⟨es, clock, (e.block b hlt).trans hb, hrest⟩
end Go.Proofs.YtfongpdeflfioaaGreat
/-
  DERIVED: THE SHELF's CONTRACTS AT THIS DUMP, IN PLAIN WORDS (tools/lay-plain.mjs out of 'YtfongpdeflfioaaGreatSrtA.lean', which tools/lay-shelf.mjs wrote): THE SAME DECLARATIONS UNDER THE SAME NAMES: 'import', 'namespace', 'open', 'def', 'theorem' AND NOTHING ELSE: no command of the shelf's: FOR A HAND-IN. Each laying: the table of numbers ('.._ren') and one theorem, a field a fact of the dump's own or the kernel's comparison; each contract: ONE APPLICATION.
-/
namespace Go.Proofs
open Go.Shelf
def Tryz.sort38_ren : Go.Shelf.Ren := ⟨fun | 5 => 38 | 8 => 82 | 7 => 81 | 19 => 122 | 20 => 123 | 10 => 113 | 11 => 114 | 12 => 115 | 13 => 116 | 14 => 117 | 15 => 118 | 16 => 119 | 17 => 120 | 18 => 121 | 30 => 137 | 31 => 138 | 32 => 139 | 33 => 140 | 34 => 141 | 35 => 142 | 40 => 148 | n => n, fun | 23 => 29 | 25 => 3 | 3 => 3 | 32 => 147 | 22 => 29 | 0 => 0 | 44 => 186 | 46 => 164 | 4 => 4 | 36 => 178 | 35 => 177 | 41 => 183 | 5 => 5 | 9 => 9 | 53 => 203 | 57 => 207 | 63 => 214 | 64 => 129 | n => n, fun | n => n⟩
theorem Tryz.sort38 : Go.Proofs.SlLaysM.n5 Tryz.prog Tryz.sort38_ren := {
  mixed := by kernel_rfl
  f5 := ⟨Tryz.f38.name, by decide, Tryz.func38.trans (congrArg some (by kernel_rfl))⟩
  f7 := ⟨Tryz.f81.name, by decide, Tryz.func81.trans (congrArg some (by kernel_rfl))⟩
  f8 := Tryz.func82.trans (congrArg some (by kernel_rfl))
  f10 := ⟨Tryz.f113.name, by decide, Tryz.func113.trans (congrArg some (by kernel_rfl))⟩
  f11 := ⟨Tryz.f114.name, by decide, Tryz.func114.trans (congrArg some (by kernel_rfl))⟩
  f12 := ⟨Tryz.f115.name, by decide, Tryz.func115.trans (congrArg some (by kernel_rfl))⟩
  f13 := ⟨Tryz.f116.name, by decide, Tryz.func116.trans (congrArg some (by kernel_rfl))⟩
  f14 := ⟨Tryz.f117.name, by decide, Tryz.func117.trans (congrArg some (by kernel_rfl))⟩
  f15 := ⟨Tryz.f118.name, by decide, Tryz.func118.trans (congrArg some (by kernel_rfl))⟩
  f16 := ⟨Tryz.f119.name, by decide, Tryz.func119.trans (congrArg some (by kernel_rfl))⟩
  f17 := ⟨Tryz.f120.name, by decide, Tryz.func120.trans (congrArg some (by kernel_rfl))⟩
  f18 := ⟨Tryz.f121.name, by decide, Tryz.func121.trans (congrArg some (by kernel_rfl))⟩
  f19 := Tryz.func122.trans (congrArg some (by kernel_rfl))
  f20 := Tryz.func123.trans (congrArg some (by kernel_rfl))
  f30 := ⟨Tryz.f137.name, by decide, Tryz.func137.trans (congrArg some (by kernel_rfl))⟩
  f31 := Tryz.func138.trans (congrArg some (by kernel_rfl))
  f32 := Tryz.func139.trans (congrArg some (by kernel_rfl))
  f33 := ⟨Tryz.f140.name, by decide, Tryz.func140.trans (congrArg some (by kernel_rfl))⟩
  f34 := ⟨Tryz.f141.name, by decide, Tryz.func141.trans (congrArg some (by kernel_rfl))⟩
  f35 := ⟨Tryz.f142.name, by decide, Tryz.func142.trans (congrArg some (by kernel_rfl))⟩
  f40 := ⟨Tryz.f148.name, by decide, Tryz.func148.trans (congrArg some (by kernel_rfl))⟩
  t0 := Tryz.underlying0
  a0 := Tryz.isAgg0
  z0 := Tryz.sizeOf0
  v0 := Tryz.zeroValue0
  t3 := Tryz.underlying3
  a3 := Tryz.isAgg3
  z3 := Tryz.sizeOf3
  v3 := Tryz.zeroValue3
  t4 := Tryz.underlying4
  a4 := Tryz.isAgg4
  z4 := Tryz.sizeOf4
  v4 := Tryz.zeroValue4
  t5 := Tryz.underlying5
  a5 := Tryz.isAgg5
  z5 := Tryz.sizeOf5
  v5 := Tryz.zeroValue5
  t9 := Tryz.underlying9
  a9 := Tryz.isAgg9
  z9 := Tryz.sizeOf9
  v9 := Tryz.zeroValue9
  t22 := Tryz.underlying29
  a22 := Tryz.isAgg29
  z22 := Tryz.sizeOf29
  v22 := Tryz.zeroValue29
  t23 := Tryz.underlying29
  a23 := Tryz.isAgg29
  z23 := Tryz.sizeOf29
  v23 := Tryz.zeroValue29
  t25 := Tryz.underlying3
  a25 := Tryz.isAgg3
  z25 := Tryz.sizeOf3
  v25 := Tryz.zeroValue3
  t32 := Tryz.underlying147
  a32 := Tryz.isAgg147
  z32 := Tryz.sizeOf147
  v32 := Tryz.zeroValue147
  t35 := Tryz.underlying177
  a35 := Tryz.isAgg177
  z35 := Tryz.sizeOf177
  v35 := Tryz.zeroValue177
  t36 := Tryz.underlying178
  a36 := Tryz.isAgg178
  z36 := Tryz.sizeOf178
  v36 := Tryz.zeroValue178
  t41 := Tryz.underlying183
  a41 := Tryz.isAgg183
  z41 := Tryz.sizeOf183
  v41 := Tryz.zeroValue183
  t44 := Tryz.underlying186
  a44 := Tryz.isAgg186
  z44 := Tryz.sizeOf186
  v44 := Tryz.zeroValue186
  t46 := Tryz.underlying164
  a46 := Tryz.isAgg164
  z46 := Tryz.sizeOf164
  v46 := Tryz.zeroValue164
  t53 := Tryz.underlying203
  a53 := Tryz.isAgg203
  z53 := Tryz.sizeOf203
  v53 := Tryz.zeroValue203
  t57 := Tryz.underlying207
  a57 := Tryz.isAgg207
  z57 := Tryz.sizeOf207
  v57 := Tryz.zeroValue207
  t63 := Tryz.underlying214
  a63 := Tryz.isAgg214
  z63 := Tryz.sizeOf214
  v63 := Tryz.zeroValue214
  t64 := Tryz.underlying129
  a64 := Tryz.isAgg129
  z64 := Tryz.sizeOf129
  v64 := Tryz.zeroValue129 }
end Go.Proofs
/- maps.Keys over a set of numbers, slices.Sorted over it: the walks. -/
namespace Go.Proofs.YtfongpdeflfioaaGreat
open Go.RowKit Go.Maps Go.Sort Go.Shelf
set_option linter.unusedVariables false
set_option linter.unusedSimpArgs false
attribute [local go_sem] Oper.semAt_some
theorem ranges_keep {H : Type} {P : Program} {k : TypeId} {R : Value → Option (DataW H × List MemPlace)} {w w' : World} {b r n cnt : Nat} {D : DataW H} {left : Lit → Bool} (h : w.ranges P k R b r n D left cnt)
    (hk : ∀ (j : Nat) (o : Obj), (j = b ∨ j = r) → w.heap[j]? = some o → o.isWalk = true → w'.heap[j]? = some o) : w'.ranges P k R b r n D left cnt := by
  obtain ⟨es, clock, since, seen, c0, hb, F, hs, hD, hr, rest⟩ := h
  exact ⟨es, clock, since, seen, c0, hk b _ (.inl rfl) hb rfl, F, hs, hD, hk r _ (.inr rfl) hr rfl, rest⟩
theorem lawI : Keyed Tryz.prog 3 := int_keyed Tryz.underlying3
abbrev MapI (w : World) (b n : Nat) (L : List Int) : Prop := w.ownsMap Tryz.prog 3 (plainElem Tryz.prog 4) b n (dmI L)
theorem infoI : (Tryz.prog.info? 3).map (fun i => (i.zero, i.size, i.bytes)) = some (some (.int .i64 0), 1, 8) := by kernel_rfl
set_option maxRecDepth 100000 in
set_option maxHeartbeats 4000000 in
theorem keys1_any (l bm b nn lo : Nat) (L : List Int) (hS : SortI L) (J : List Int → World → Prop) (W : World) (hlo : b < lo) (hJ : AbidesFrom W.heap.size J)
    (hc : W.cell? ⟨bm, 0, none⟩ = some (.map (some b))) (hM : MapI W b nn L)
    (hY : ∀ pre x W1, J pre W1 → pre.length < L.length → x ∈ L → YieldAt Fence.wide 0 Tryz.prog l #[.int .i64 x] W1 fun e W' => e = .returned (.bool true) ∧ J (pre ++ [x]) W' ∧ KeepW lo W.heap.size W1 W')
    (h0 : J [] W) :
    Calls Tryz.prog 111 #[.func (.yield l) #[] #[], .pointer (some ⟨bm, 0, none⟩)] W fun e W' => (∃ v, e = .returned v) ∧ ∃ xs : List Int, xs.Perm L ∧ J xs W' := by
  have HY := Lib.hid hY
  have HJ := Lib.hid hJ
  clear hY hJ
  refine (callsIn_wide (n := 1)).1 (callsIn_of_wp Tryz.func111 rfl trivial ?_ rfl)
  simp only [Tryz.ntmps111, List.size_toArray, List.length_cons, List.length_nil, Nat.reduceAdd, Nat.reduceSub, Array.replicate_succ, Array.replicate_zero, List.push_toArray, List.append_toArray, List.nil_append, List.cons_append]
  gi_wp2_with (first
    | (gi_at_range; refine wpListIn_range_own _ rfl _ 118 rfl 3 4 lawI Tryz.underlying118 _ b nn _ rfl hM ?_; intro w0 hrg0 hg0 hs0)
    | gi_in)
  go_frame
  gi_loopw [3] (fun _ wr => ∃ (left : Lit → Bool) (cnt : Nat) (ks : List Int), wr.ranges Tryz.prog 3 (plainElem Tryz.prog 4) b W.heap.size nn (dmI L) left cnt ∧ CollI L left ks ∧ ks.length + cnt ≤ L.length ∧ J ks wr)
    (fun _ wr => wr.rangeLeft b W.heap.size)
  case atStart =>
    exact ⟨_, _, [], hrg0, CollI.start L, by rw [dmI_size]; simp, HJ.out [] W w0 none h0 hg0 (fun r e => by cases e)⟩
  case round =>
    obtain ⟨left, cnt, ks, hrg, hC, hle, hJs⟩ := hrel
    gi_wp2_with (first
      | (gi_at_next; refine wpListIn_next_ranges _ rfl _ rfl 3 lawI (plainElem Tryz.prog 4) (Value.int .i64) id (fun key kl hk => by obtain ⟨x, rfl, _⟩ := Maps.keyOf_int_inv Tryz.underlying3 hk; exact ⟨x, rfl⟩) (fun v _ _ => ⟨v, rfl⟩) b W.heap.size nn _ _ _ rfl hrg ?_ ?_)
      | gi_in)
    · intro hc0 hl0
      gi_wp2
      go_end0
      exact ⟨⟨_, rfl⟩, ks, hC.perm hS hl0, hJs⟩
    · intro x c kl yd yp w2 cnt2 hkey hlk hv hat hrg2 hlt hg2 hs2 hen
      obtain ⟨x', ex, rfl, hwx⟩ := Maps.keyOf_int_inv Tryz.underlying3 hkey
      cases ex
      have hxL : x ∈ L := by
        have h := has_true_of_atKey hat
        rw [dmI_has] at h
        exact of_decide_eq_true h
      have hJ2 : J ks w2 := HJ.out ks wr w2 (some W.heap.size) hJs hg2 (fun r e => by cases e; exact ⟨Nat.le_refl _, hrg.iter_walk⟩)
      obtain ⟨fn, tmps, assign, body, hy, hR⟩ := HY.out ks x w2 hJ2 (by omega) hxL
      clear hs2
      gi_wp2
      refine hR.mono ?_
      rintro e W3 ⟨rfl, hJ3, hk3⟩
      have hrg3 := ranges_keep hrg2 (fun j o hj ho hw => hk3 j o (by rcases hj with rfl | rfl <;> omega) ho hw)
      gi_wp2
      go_roundw
      case rel => exact ⟨_, _, _, hrg3, hC.step hxL hlk, by simp; omega, hJ3⟩
      case measure => rw [hrg3.left_eq, hrg.left_eq]; exact hlt
set_option maxRecDepth 100000 in
set_option maxHeartbeats 4000000 in
theorem appseq_any (w : World) (bm b nn : Nat) (L : List Int) (hS : SortI L) (hL : L.length ≤ 100000000) (hb : b < w.heap.size) (hbm : bm < w.heap.size) (hc : w.cell? ⟨bm, 0, none⟩ = some (.map (some b))) (hM : MapI w b nn L) :
    Calls Tryz.prog 136 #[.slice none 0 0, .func (.func 111) #[] #[.pointer (some ⟨bm, 0, none⟩)]] w fun e w' => ∃ v ks, e = .returned v ∧ ks.Perm L ∧ w'.ownsRow w.heap.size 3 1 v ks.length (ints ks) ∧ Ext w w' := by
  obtain ⟨i0, hi0, hz0, hz1, hz2⟩ := info_parts infoI
  refine (callsIn_wide (n := 1)).1 (callsIn_of_wp_marks Tryz.func136 rfl trivial ?_ rfl)
  simp only [Tryz.ntmps136, List.size_toArray, List.length_cons, List.length_nil, Nat.reduceAdd, Nat.reduceSub, Array.replicate_succ, Array.replicate_zero, List.push_toArray, List.append_toArray, List.nil_append, List.cons_append]
  refine wpIn_wide.2 ?_
  go_wp2_with fail
  generalize hwH : World.alloc w _ = w1; have HH := Lib.hid (Heap.one hwH); clear hwH
  refine rangeH (P := Tryz.prog) (α := Int) (N := L.length) (w0 := w) (gf := 111) (lb := #[.pointer (some ⟨bm, 0, none⟩)]) (encs := fun x => #[.int .i64 x]) (ok := fun _ x => x ∈ L) (S := fun xs => xs.Perm L) (fun pre its => ∃ v, its = [.row 3 1 v pre.length (ints pre), .box w.heap.size [v]]) true rfl
    (enters_of Tryz.func111 (by kernel_rfl) rfl) (fun _ => rfl) ?calm ?seq ⟨_, rfl⟩ (Heap.row0 HH.out) ?a1 ?assign ?body ?done
  case assign =>
    intro l x W K hK
    gi_wp2
    exact hK
  case calm =>
    rintro _ pre its ⟨v, rfl⟩ x hx
    rcases List.mem_cons.1 hx with rfl | hx
    · exact calm_row
    rcases List.mem_cons.1 hx with rfl | hx
    · exact calm_box
    · cases hx
  case seq =>
    intro l J W eW hJ hJd hJa hY h0
    have eW' : Ext w W := HH.out.ext.trans eW
    exact keys1_any l bm b nn w.heap.size L hS J W hb (hJa rfl) ((Below.cell eW' (p := ⟨bm, 0, none⟩) hbm).trans hc) (ownsMap_ext hM eW') (fun pre x W1 h1 h2 h3 => (hY pre x W1 h1 h2 h3).mono fun e W' h => ⟨h.1, h.2.1, h.2.2 rfl⟩) h0
  case done =>
    rintro D y xs its W hp ⟨v, rfl⟩ H
    have HH2 := Lib.hid H
    clear HH
    have HH := HH2
    clear HH2 H
    go_wp2_with (first | (refine shl_load1 HH.out rfl rfl rfl 3 rfl rfl (by decide +kernel) ?_))
    refine ⟨by simp, .inl ⟨_, _, rfl, run_takeDeferred (HH.out.objAt 1 rfl), ?_⟩⟩
    have H2 := HH.out.putObj 1 rfl (.deferred none)
    exact ⟨_, results_tmp rfl _ _ _, v, xs, rfl, hp, H2.rowAt 2 rfl, H2.ext⟩
  case body =>
    rintro l pre x y1 y2 y3 its W hlen hx ⟨v, rfl⟩ H
    have HH2 := Lib.hid H
    clear HH
    have HH := HH2
    clear HH2 H
    refine wpIn_block ?_
    refine regionIn (by rintro ⟨_, _, h⟩; cases h.1) rfl ?_
    (iterate 60 (first | (refine shl_load1 HH.out rfl rfl rfl 4 rfl rfl (by decide +kernel) ?_) | at_builtin | go_step))
    have HH1 := Lib.hid ((HH.out).alloc #[.int .i64 x] 3)
    clear HH
    refine shl_app (e := 3) (size := 1) (bytes := 8) (news := [.int .i64 x]) (lo := w.heap.size) (.tmp 8) (.tmp 10) _ rfl rfl Tryz.underlying29 hi0 hz0 hz1 hz2 rfl (by omega) HH1.out 4 rfl rfl (m := 1) rfl rfl (HH1.out.boxRd 0 rfl) ?_ ?_ ?_ ?_
    focus (simp [Value.oneCell'])
    focus (simp only [maxLen]; omega)
    focus omega
    intro v7 w7 hh7 h7
    obtain ⟨A7, c7, rfl⟩ := h7
    have HH := Lib.hid hh7.tail
    clear HH1 hh7
    go_wp2_with (first | (refine shl_store1 HH.out rfl rfl rfl rfl 4 rfl rfl rfl (by kernel_rfl) ?_; clear HH; intro wS HHS; have HH := Lib.hid HHS; clear HHS))
    refine ⟨_, ⟨.slice A7 (pre.length + 1) c7, rfl⟩, ?_⟩
    rw [ints_append]
    exact HH.out
set_option maxRecDepth 100000 in
set_option maxHeartbeats 1000000 in
theorem collect_any (w : World) (bm b nn : Nat) (L : List Int) (hS : SortI L) (hL : L.length ≤ 100000000) (hb : b < w.heap.size) (hbm : bm < w.heap.size) (hc : w.cell? ⟨bm, 0, none⟩ = some (.map (some b))) (hM : MapI w b nn L) :
    Calls Tryz.prog 110 #[.func (.func 111) #[] #[.pointer (some ⟨bm, 0, none⟩)]] w fun e w' => ∃ v ks, e = .returned v ∧ ks.Perm L ∧ w'.ownsRow w.heap.size 3 1 v ks.length (ints ks) ∧ Ext w w' := by
  have HC := Lib.hid (appseq_any w bm b nn L hS hL hb hbm hc hM)
  clear hM hc hL
  go_enter Tryz.func110, Tryz.ntmps110
  go_wp2_with (go_at_call 136; refine HC.out.mono ?_; rintro e w1 ⟨v, ks, rfl, hp, hr, e1⟩)
  go_ret
  exact ⟨v, ks, rfl, hp, hr, e1⟩
theorem sort_heap {w0 w : World} {its : List It} (H : Heap w0 its w) (i : Nat) {v : Value} {n : Nat} {zs : List Int} (hi : its[i]? = some (.row 3 1 v n (ints zs))) (hn : n ≤ 100000000) :
    Calls Tryz.prog 38 #[v] w fun e w' => e = .returned (.tuple #[]) ∧ Heap w0 (its.set i (.row 3 1 v n (ints (zs.mergeSort fun x y => decide (x ≤ y))))) w' := by
  have hr := H.rowAt i hi
  have hlen : zs.length = n := by have := hr.1; rwa [ints_length, Nat.mul_one] at this
  rcases hr.2 with ⟨hv, h0⟩ | ⟨g, cap, cur, hv, hbase, hg, h1, h2, h3, h4⟩
  · obtain rfl : zs = [] := List.eq_nil_of_length_eq_zero (by omega)
    rw [hv]
    refine (AnyM.slices_Sort_int_none Tryz.sort38 none 0 w).mono ?_
    rintro e w' ⟨rfl, rfl⟩
    refine ⟨rfl, ?_⟩
    have h5 : (its.set i (.row 3 1 v n (ints (([] : List Int).mergeSort fun x y => decide (x ≤ y))))) = its := by
      rw [List.mergeSort_nil]
      obtain ⟨hlt, he⟩ := List.getElem?_eq_some_iff.1 hi
      show its.set i (.row 3 1 v n (ints [])) = its
      rw [← he]
      exact List.set_getElem_self hlt
    rw [← hv, h5]
    exact H
  · subst hlen
    have h4' : cur.toList.take zs.length = zs.map (Value.int .i64) := by simpa [ints] using h4
    have hH : Holds (Value.int .i64) w g 0 zs.toArray := holds_of_blockI hg h4'
    rw [hv]
    refine (AnyM.slices_Sort_int Tryz.sort38 g 0 cap zs w hH (Array.getElem?_eq_some_iff.1 hg).1 (by omega)).mono ?_
    rintro e w' ⟨rfl, k, os, rfl⟩
    refine ⟨rfl, ?_⟩
    have hg2 := grownBy_sortedI (w := w) (g := g) (n := k) (os := os) (zs.mergeSort fun x y => decide (x ≤ y)).toArray
    have hl2 : (zs.mergeSort fun x y => decide (x ≤ y)).length = zs.length := by simp
    have hrow := ownsRow_sortedI (ss := zs) (ts := zs.mergeSort fun x y => decide (x ≤ y)) (n := k) (os := os) hl2 hbase hg h1 h2 h3
    have hown : v.ownBlock = some g := by rw [hv]; rfl
    rw [← hv]
    rw [← hv] at hrow
    exact H.upd hi ⟨hg2.os, hg2.tape, hg2.output, hg2.size, fun j hj ho => hg2.block j hj fun e => ho (by cases e; exact hown)⟩ hrow (fun j hj => .inl hj) (fun j hj => .inl hj) fun j hj => (World.ownsRow.lt hr j hj).1
set_option maxRecDepth 100000 in
set_option maxHeartbeats 1000000 in
theorem sorted_any (w : World) (bm b nn : Nat) (L : List Int) (hS : SortI L) (hL : L.length ≤ 100000000) (hb : b < w.heap.size) (hbm : bm < w.heap.size) (hc : w.cell? ⟨bm, 0, none⟩ = some (.map (some b))) (hM : MapI w b nn L) :
    Calls Tryz.prog 74 #[.func (.func 111) #[] #[.pointer (some ⟨bm, 0, none⟩)]] w fun e w' => ∃ v, e = .returned v ∧ w'.ownsRow w.heap.size 3 1 v L.length (ints L) ∧ Ext w w' := by
  have HC := Lib.hid (collect_any w bm b nn L hS hL hb hbm hc hM)
  have HL := Lib.hid hL
  clear hM hc hL
  go_enter Tryz.func74, Tryz.ntmps74
  go_wp2_with (go_at_call 110; refine HC.out.mono ?_; rintro e w1 ⟨v, ks, rfl, hp, hr, e1⟩)
  have hlen : ks.length = L.length := hp.length_eq
  have HH := Lib.hid ((Heap.start w).addRow e1 hr)
  have HP := Lib.hid hp
  have HLn := Lib.hid hlen
  clear hp hr e1 hlen HC
  go_wp2_with (go_at_call 38; refine (sort_heap HH.out 0 rfl (by rw [HLn.out]; exact HL.out)).mono ?_; rintro e w2 ⟨rfl, h2⟩)
  go_ret
  rw [sort_perm HP.out hS] at h2
  have h3 := h2.rowAt 0 rfl
  rw [HLn.out] at h3
  exact ⟨v, rfl, h3, h2.ext⟩
set_option maxRecDepth 100000 in
set_option maxHeartbeats 1000000 in
theorem keys_any (w : World) (b : Nat) : Calls Tryz.prog 75 #[.map (some b)] w fun e w' => e = .returned (.func (.func 111) #[] #[.pointer (some ⟨w.heap.size, 0, none⟩)]) ∧ w' = w.alloc (.cells #[.map (some b)] 118) := by
  go_enter Tryz.func75, Tryz.ntmps75
  go_wp2_with fail
  go_ret
  exact ⟨rfl, rfl⟩
theorem keys_calls (w : World) (b nn : Nat) (L : List Int) (hS : SortI L) (hL : L.length ≤ 100000000) (hM : MapI w b nn L) :
    Calls Tryz.prog 75 #[.map (some b)] w fun e w1 => ∃ vf, e = .returned vf ∧ Ext w w1 ∧ Calls Tryz.prog 74 #[vf] w1 fun e w2 => ∃ v, e = .returned v ∧ w2.ownsRow w.heap.size 3 1 v L.length (ints L) ∧ Ext w w2 := by
  refine (keys_any w b).mono ?_
  rintro e w1 ⟨rfl, rfl⟩
  have e1 : Ext w (w.alloc (.cells #[.map (some b)] 118)) := (Ext.refl w).alloc _
  refine ⟨_, rfl, e1, ?_⟩
  have hz : (w.alloc (.cells #[.map (some b)] 118)).heap.size = w.heap.size + 1 := by simp
  refine (sorted_any _ w.heap.size b nn L hS hL (by have := hM.lt; omega) (by omega) (cell_new w _ _ 0 rfl) (ownsMap_ext hM e1)).mono ?_
  rintro e w2 ⟨v, rfl, h1, e2⟩
  exact ⟨v, rfl, own_lower h1 (by omega), e1.trans e2⟩
end Go.Proofs.YtfongpdeflfioaaGreat
/- space.Union, Check, Free: sets of sectors. -/
namespace Go.Proofs.YtfongpdeflfioaaGreat
open Go.RowKit Go.Maps Go.Sort Go.Shelf
set_option linter.unusedVariables false
set_option linter.unusedSimpArgs false
structure SlI where
  A : Option Addr
  n : Nat
  c : Nat
  l : List Int
def SlI.val (x : SlI) : Value := .slice x.A x.n x.c
structure SlI.ok (w : World) (x : SlI) : Prop where
  len : x.n = x.l.length
  rd : Rd w 0 w.heap.size x.A (ints x.l)
  wf : ∀ y ∈ x.l, (Lit.int .i64 y).wf = true
theorem SlI.ok.ext {w w' : World} {x : SlI} (h : x.ok w) (e : Ext w w') : x.ok w' := ⟨h.len, Rd.at h.rd e (Nat.le_refl _), h.wf⟩
theorem rd_int2 {w : World} {lo hi : Nat} {A : Option Addr} {l : List Int} (h : Rd w lo hi A (ints l)) {k : Nat} (hk : k < l.length) :
    ∃ b o, A = some ⟨b, o, none⟩ ∧ b < hi ∧ w.cell? ⟨b, o + k, none⟩ = some (.int .i64 l[k]) := by
  obtain ⟨b, o, h1, h2, h3, h4⟩ := h (fun e => by have := congrArg List.length e; simp [ints] at this; subst this; simp at hk)
  exact ⟨b, o, h1, h3, h4 k _ (by simp [ints, hk])⟩
theorem rd_sli {w : World} {lo hi : Nat} {A : Option Addr} {ls : List SlI} (h : Rd w lo hi A (ls.map SlI.val)) {k : Nat} (hk : k < ls.length) :
    ∃ b o, A = some ⟨b, o, none⟩ ∧ b < hi ∧ w.cell? ⟨b, o + k, none⟩ = some (.slice ls[k].A ls[k].n ls[k].c) := by
  obtain ⟨b, o, h1, h2, h3, h4⟩ := h (fun e => by have := congrArg List.length e; simp at this; subst this; simp at hk)
  exact ⟨b, o, h1, h3, h4 k _ (by simp [hk, SlI.val])⟩
def uni (l : List Int) : List Int := l.foldl putI []
theorem uni_snoc (l : List Int) (n : Int) : uni (l ++ [n]) = putI (uni l) n := by simp [uni]
theorem uni_sorted (l : List Int) : SortI (uni l) := by
  suffices h : ∀ a : List Int, SortI a → SortI (l.foldl putI a) from h [] List.Pairwise.nil
  induction l with
  | nil => exact fun a h => h
  | cons x l ih => exact fun a h => ih _ (putI_sorted h)
theorem mem_uni {x : Int} (l : List Int) : x ∈ uni l ↔ x ∈ l := by
  suffices h : ∀ a : List Int, x ∈ l.foldl putI a ↔ x ∈ a ∨ x ∈ l from (h []).trans (by simp)
  induction l with
  | nil => simp
  | cons y l ih =>
    intro a
    rw [List.foldl_cons, ih, mem_putI, List.mem_cons]
    constructor
    · rintro ((h | h) | h) <;> simp [h]
    · rintro (h | h | h) <;> simp [h]
theorem uni_len (l : List Int) : (uni l).length ≤ l.length := by
  suffices h : ∀ a : List Int, (l.foldl putI a).length ≤ a.length + l.length from Nat.le_trans (h []) (by simp)
  induction l with
  | nil => simp
  | cons y l ih =>
    intro a
    have h1 := ih (putI a y)
    have h2 := putI_le (n := y) (l := a)
    rw [List.foldl_cons, List.length_cons]
    omega
theorem uni_nodup {l : List Int} (h : (uni l).length = l.length) : l.Nodup := by
  have key : ∀ (l a : List Int), (l.foldl putI a).length = a.length + l.length → l.Nodup ∧ ∀ x ∈ l, x ∉ a := by
    intro l
    induction l with
    | nil => exact fun a _ => ⟨List.nodup_nil, by simp⟩
    | cons y l ih =>
      intro a h
      rw [List.foldl_cons, List.length_cons] at h
      have h2 := putI_le (n := y) (l := a)
      have h3 : (l.foldl putI (putI a y)).length ≤ (putI a y).length + l.length := by
        have : ∀ (l a : List Int), (l.foldl putI a).length ≤ a.length + l.length := fun l => by
          induction l with
          | nil => simp
          | cons y l ih =>
            intro a
            have h1 := ih (putI a y)
            have h2 := putI_le (n := y) (l := a)
            rw [List.foldl_cons, List.length_cons]
            omega
        exact this l _
      have h4 : (putI a y).length = a.length + 1 := by omega
      obtain ⟨n1, n2⟩ := ih (putI a y) (by omega)
      have hy : y ∉ a := fun hm => by
        rw [putI, insI_len] at h4
        have : (delI a y).length < a.length := by
          refine Nat.lt_of_le_of_ne (List.length_filter_le _ _) fun e => ?_
          have := List.filter_eq_self.1 (List.Sublist.eq_of_length List.filter_sublist e) y hm
          simp at this
        omega
      refine ⟨List.nodup_cons.2 ⟨fun hm => n2 y hm (mem_putI.2 (.inl rfl)), n1⟩, fun x hx => ?_⟩
      rcases List.mem_cons.1 hx with rfl | hx
      · exact hy
      · exact fun hm => n2 x hx (mem_putI.2 (.inr hm))
  exact (key l [] (by simpa [uni] using h)).1
def flatI (ls : List SlI) : List Int := ls.flatMap SlI.l
theorem flatI_take (ls : List SlI) (k : Nat) (h : k < ls.length) : flatI (ls.take (k + 1)) = flatI (ls.take k) ++ ls[k].l := by
  rw [List.take_succ_eq_append_getElem h, flatI, List.flatMap_append]; simp [flatI]
theorem flatI_le (ls : List SlI) (k : Nat) : (flatI (ls.take k)).length ≤ (flatI ls).length := by
  have : flatI ls = flatI (ls.take k) ++ flatI (ls.drop k) := by rw [flatI, flatI, flatI, ← List.flatMap_append, List.take_append_drop]
  rw [this, List.length_append]; omega
theorem ext_mapped {w0 w w' : World} {b : Nat} (e : Ext w0 w) (g : w.grownBy w' (some b)) (hb : w0.heap.size ≤ b) : Ext w0 w' := below_grown e g e.size (.inr ⟨_, rfl, hb⟩)
set_option maxRecDepth 100000 in
set_option maxHeartbeats 8000000 in
theorem union_any (w : World) (A : Option Addr) (n c : Nat) (ls : List SlI) (hn : n = ls.length) (hN : n ≤ 10000000) (hr : Rd w 0 w.heap.size A (ls.map SlI.val)) (hs : ∀ s ∈ ls, s.ok w) (hT : (flatI ls).length ≤ 10000000) :
    Calls Tryz.prog 33 #[.slice A n c] w fun e w' => ∃ v, e = .returned v ∧ w'.ownsRow w.heap.size 3 1 v (uni (flatI ls)).length (ints (uni (flatI ls))) ∧ Ext w w' := by
  have hmm := @run_makeMap Tryz.prog
  have Hn := Lib.hid hn
  have HR := Lib.hid hr
  have HS := Lib.hid hs
  have HT := Lib.hid hT
  clear hn hr hs hT
  go_enter Tryz.func33, Tryz.ntmps33
  go_upto_region 2 with fail
  have HM0 := Lib.hid (show MapI (w.alloc (.map #[] 0)) w.heap.size 0 [] from World.ownsMap_made _ _ _ _)
  have E0 : Ext w (w.alloc (.map #[] 0)) := (Ext.refl w).alloc _
  generalize World.alloc w _ = w1 at *
  go_upto_region 3 with fail
  go_loopw [11] (fun i wr => ∃ k : Nat, k ≤ n ∧ i = .int .i64 k ∧ Hid (MapI wr w.heap.size (flatI (ls.take k)).length (uni (flatI (ls.take k)))) ∧ Ext w wr) (fun i _ => n - (intOf i).toNat)
  case atStart => exact ⟨0, Nat.zero_le _, rfl, Lib.hid (by rw [List.take_zero]; exact HM0.out), E0⟩
  case round =>
    clear HM0 E0
    obtain ⟨k, hk, rfl, HM, e1⟩ := hrel
    by_cases hlt : k < n
    · have l1 : k < ls.length := by rw [← Hn.out]; exact hlt
      obtain ⟨b1, o1, rfl, hb1, f0⟩ := rd_sli (HR.out.ext e1 (Nat.le_refl _)) l1
      have hs := HS.out ls[k] (List.getElem_mem l1)
      have HF := Lib.hid (flatI_take ls k l1)
      have hle := flatI_le ls (k + 1)
      have hT := HT.out
      obtain ⟨F1, hF1⟩ : ∃ F1, F1 = flatI (ls.take (k + 1)) := ⟨_, rfl⟩
      rw [← hF1] at HF hle
      have HFk := Lib.hid hF1
      clear hF1
      generalize flatI (ls.take k) = F0 at *
      generalize ls[k] = s at *
      obtain ⟨sA, sn, sc, sx⟩ := s
      obtain ⟨hs1, hs2, hs3⟩ := hs
      dsimp only at f0 hs1 hs2 hs3 HF
      have HS1 := Lib.hid hs1
      have HS2 := Lib.hid hs2
      have HS3 := Lib.hid hs3
      have hq : F0.length + sn ≤ 10000000 := by
        have := congrArg List.length HF.out
        rw [List.length_append, ← hs1] at this
        omega
      clear hs1 hs2 hs3 HS HT hT hle
      go_upto_region 6 with fail
      go_loopw [17] (fun i wr2 => ∃ j : Nat, j ≤ sn ∧ i = .int .i64 j ∧ Hid (MapI wr2 w.heap.size (F0.length + j) (uni (F0 ++ sx.take j))) ∧ Ext w wr2) (fun i _ => sn - (intOf i).toNat)
      case atStart => exact ⟨0, Nat.zero_le _, rfl, Lib.hid (by rw [List.take_zero, List.append_nil]; exact HM.out), e1⟩
      case round =>
        clear HM e1 f0
        obtain ⟨j, hj, rfl, HM, e3⟩ := hrel
        by_cases hlj : j < sn
        · have l3 : j < sx.length := by rw [← HS1.out]; exact hlj
          obtain ⟨b2, o2, rfl, _, g0⟩ := rd_int2 (Rd.at HS2.out e3 (Nat.le_refl _)) l3
          have HT2 := Lib.hid (show uni (F0 ++ sx.take (j + 1)) = putI (uni (F0 ++ sx.take j)) sx[j] by rw [List.take_succ_eq_append_getElem l3, ← List.append_assoc, uni_snoc])
          have HW := Lib.hid (HS3.out _ (List.getElem_mem l3))
          generalize uni (F0 ++ sx.take j) = out at *
          generalize sx[j] = y at *
          go_wp2_with
            (at_mapUpdate
             refine wpList_mapUpdate_own _ rfl _ _ _ 118 rfl 3 4 lawI Tryz.underlying118 _ w.heap.size _ _ rfl HM.out (by simp only [maxLen]; omega) _ _ _ rfl rfl (Maps.keyOf_int_mk Tryz.underlying3 HW.out) _ [] (plainElem_bool Tryz.underlying4 true) ?_
             intro w4 hm4 hg4)
          have e4 : Ext w w4 := ext_mapped e3 hg4 (Nat.le_refl _)
          have hm5 : MapI w4 w.heap.size (F0.length + j + 1) (putI out y) := by
            have h := dmI_put out y
            show w4.ownsMap _ _ _ _ _ (dmI _)
            rw [← h]
            exact hm4
          have HM5 := Lib.hid hm5
          clear hm4 hg4 hm5 e3
          go_wp2_with fail
          go_roundw
          case rel =>
            refine ⟨j + 1, by omega, by go_num, Lib.hid ?_, e4⟩
            rw [HT2.out]
            exact HM5.out
          case measure => simp [intOf]; omega
        · obtain rfl : j = sn := by omega
          have ht : sx.take j = sx := List.take_of_length_le (by rw [HS1.out]; exact Nat.le_refl _)
          rw [ht] at HM
          go_wp2_with fail
          go_roundw
          case rel =>
            refine ⟨k + 1, by omega, by go_num, Lib.hid ?_, e3⟩
            have h := HM.out
            rw [HS1.out, ← List.length_append, ← HF.out] at h
            exact HFk.out ▸ h
          case measure => simp [intOf]; omega
    · obtain rfl : k = n := by omega
      have ht : ls.take k = ls := List.take_of_length_le (by rw [← Hn.out]; exact Nat.le_refl _)
      rw [ht] at HM
      have HU := Lib.hid (Nat.le_trans (uni_len (flatI ls)) (Nat.le_trans HT.out (show (10000000 : Nat) ≤ 100000000 by decide)))
      have HSo := Lib.hid (uni_sorted (flatI ls))
      go_wp2_with (go_at_call 75; refine (keys_calls wr w.heap.size _ _ HSo.out HU.out HM.out).mono ?_; rintro e w5 ⟨vf, rfl, e5, hcall⟩)
      refine hcall.mono ?_
      rintro e w6 ⟨v, rfl, hr6, e6⟩
      go_wp2_with fail
      go_ret
      exact ⟨v, rfl, own_lower hr6 (Ext.size e1), e1.trans e6⟩
end Go.Proofs.YtfongpdeflfioaaGreat
