/- The texts Big, Bare in one file. -/
import Derived.Test.YtckaneapjpiocaaGreatDoorM14
import Derived.Test.YtckaneapjpiocaaGreatDoorM2
import Derived.Test.YtckaneapjpiocaaGreatDoorM6
import Derived.Test.YtckaneapjpiocaaGreatDoorM8
import Derived.Test.YtckaneapjpiocaaGreatDoorM12
namespace Go.Proofs.YtckaneapjpiocaaGreatDoor
open Go.RowKit
set_option linter.unusedVariables false
set_option linter.unusedSimpArgs false
theorem slice_mid {P : Program} (w : World) (t e : TypeId) (i : TypeInfo) (size : Nat) (ht : P.underlying t = some (.slice e)) (hi : P.info? e = some i) (hs : i.size = size) (A : Option Addr) (n c k m : Nat) (K M : Int) (hK : K = (k : Int)) (hM : M = (m : Int)) (hk : k ≤ m) (hm : m ≤ c) :
    (Instr.slice t (.slice A n c) (some (.int .i64 K)) (some (.int .i64 M)) none).run P w = .ok (.slice (shiftA A c k size) (m - k) (c - k)) w := by
  subst hK
  subst hM
  subst hs
  have hb : (Instr.sliceBounds true n c (some (.int .i64 (k : Int))) (some (.int .i64 (m : Int))) none).run P w = .ok (k, m, c) w := by
    simp [Instr.sliceBounds, run_sliceBound (P := P) w .i64 (m : Int) c .sliceAcap (by omega) (by omega), run_sliceBound (P := P) w .i64 (k : Int) m .sliceB (by omega) (by omega)]
  simp [Instr.slice, run_underlying ht, hb, sizeOf, typeInfo, hi, shiftA]
theorem Rd.mid {w : World} {lo hi n c k m : Nat} {A : Option Addr} {l : List UInt8} (h : Rd w lo hi A (bytes l)) (hl : n = l.length) (hk : k + m ≤ n) (hc : n ≤ c) : Rd w lo hi (shiftA A c k 1) (bytes ((l.drop k).take m)) := by
  have h1 := h.from_ (n := n) (k := k) (c := c) (size := 1) (by rw [bytes_length, hl, Nat.mul_one]) (by omega) hc
  rw [Nat.mul_one] at h1
  have h2 : bytes ((l.drop k).take m) = ((bytes l).drop k).take m := by simp [bytes, List.map_drop, List.map_take]
  rw [h2]
  exact h1.take m
set_option maxRecDepth 100000 in
set_option maxHeartbeats 4000000 in
theorem big_any (w : World) (A : Option Addr) (n c lo hi : Nat) (l : List UInt8) (hn : n = l.length) (h8 : n ≤ 8) (hr : Rd w lo hi A (bytes l)) (hh : hi ≤ w.heap.size) :
    Calls Tryz.prog 158 #[.slice A n c] w fun e w' => e = .returned (.int .u64 (val l)) ∧ Ext w w' := by
  have Hn := Lib.hid hn
  clear hn
  go_enter Tryz.func158, Tryz.ntmps158
  go_wp2_with fail
  go_loopw [3, 8] (fun v i wr => ∃ k : Nat, k ≤ n ∧ i = .int .i64 k ∧ v = .int .u64 (val (l.take k)) ∧ Ext w wr) (fun _ i _ => n - (intOf i).toNat)
  case atStart => exact ⟨0, Nat.zero_le _, rfl, rfl, Ext.refl _⟩
  case round =>
    obtain ⟨k, hk, rfl, rfl, e1⟩ := hrel
    by_cases hlt : k < n
    · obtain ⟨b1, o1, rfl, _, _, f0⟩ := rd_byte (hr.ext e1 hh) (k := k) (by rw [← Hn.out]; omega)
      have hvt := Lib.hid (val_take l k (by rw [← Hn.out]; omega))
      have h7 := val_lt7 l k (by omega)
      have hc := (l[k]'(by rw [← Hn.out]; omega)).toNat_lt
      generalize l[k]'(by rw [← Hn.out]; omega) = y at *
      generalize val (l.take k) = q at *
      go_wp2_with fail
      go_roundw
      case rel => exact ⟨k + 1, by omega, by go_num, by rw [or_u64 q y.toNat h7 hc, hvt.out], blo⟩
      case measure => simp [intOf]; omega
    · obtain rfl : k = n := by omega
      have ht : val (l.take k) = val l := by rw [List.take_of_length_le (by rw [← Hn.out]; exact Nat.le_refl _)]
      rw [ht]
      clear ht
      go_wp2_with fail
      go_ret
      exact ⟨rfl, e1⟩
def part8 (l : List UInt8) (k : Nat) : Int := val ((l.drop (k * 8)).take 8)
def sumOf (l : List UInt8) : Su := if l.length = 32 then ⟨part8 l 0, part8 l 1, part8 l 2, part8 l 3⟩ else Su.zero
def sumE (l : List UInt8) : Int := if l.length < 32 then 8 else if 32 < l.length then 5 else 0
def box4 (l : List UInt8) (k : Nat) : List Value := [.int .u64 (if 0 < k then part8 l 0 else 0), .int .u64 (if 1 < k then part8 l 1 else 0), .int .u64 (if 2 < k then part8 l 2 else 0), .int .u64 (if 3 < k then part8 l 3 else 0)]
set_option maxRecDepth 100000 in
set_option maxHeartbeats 8000000 in
theorem fread_any (w : World) (A : Option Addr) (n c : Nat) (l : List UInt8) (hn : n = l.length) (hnc : n ≤ c) (hr : Rd w 0 w.heap.size A (bytes l)) (hb : n ≤ 1000000000) (hc : c ≤ 9223372036854775807) :
    Calls Tryz.prog 110 #[.slice A n c] w fun e w' => e = .returned (.tuple #[.agg (sumOf l).cells.toArray, .int .i64 (sumE l)]) ∧ Ext w w' := by
  obtain ⟨j0, hj0, hy0, hy1, hy2⟩ := info_parts info5
  have Hn := Lib.hid hn
  have HS := Lib.hid (show sumOf l = if l.length = 32 then ⟨part8 l 0, part8 l 1, part8 l 2, part8 l 3⟩ else Su.zero from rfl)
  have HE := Lib.hid (show sumE l = if l.length < 32 then 8 else if 32 < l.length then 5 else 0 from rfl)
  rw [← hn] at HS HE
  have HBg := Lib.hid (fun (W : World) (hW : Ext w W) (k : Nat) (hk : k * 8 + 8 ≤ n) => big_any W (shiftA A c (k * 8) 1) 8 (c - k * 8) 0 w.heap.size ((l.drop (k * 8)).take 8) (by simp; omega) (Nat.le_refl _) ((hr.mid hn hk hnc).ext hW (Nat.le_refl _)) hW.size)
  clear hn hr
  by_cases h1 : n < 32
  · rw [if_pos h1] at HE
    rw [if_neg (by omega)] at HS
    go_enter Tryz.func110, Tryz.ntmps110
    go_upto_region 1 with fail
    generalize hwH : World.alloc w _ = w1; have HH := Lib.hid (Heap.one hwH); clear hwH
    go_wp2_with (refine shl_store HH.out sizeSu rfl rfl rfl rfl 0 rfl rfl rfl rfl ?_; clear HH; intro wS HHS; have HH := Lib.hid HHS; clear HHS)
    refine ret_cell2 sizeSu (by kernel_rfl) HH.out rfl rfl rfl 0 rfl rfl rfl ?_
    rw [HS.out, HE.out]
    exact ⟨rfl, HH.out.ext⟩
  · rw [if_neg h1] at HE
    by_cases h2 : 32 < n
    · rw [if_pos h2] at HE
      rw [if_neg (by omega)] at HS
      go_enter Tryz.func110, Tryz.ntmps110
      go_upto_region 1 with fail
      generalize hwH : World.alloc w _ = w1; have HH := Lib.hid (Heap.one hwH); clear hwH
      go_wp2_with (refine shl_store HH.out sizeSu rfl rfl rfl rfl 0 rfl rfl rfl rfl ?_; clear HH; intro wS HHS; have HH := Lib.hid HHS; clear HHS)
      refine ret_cell2 sizeSu (by kernel_rfl) HH.out rfl rfl rfl 0 rfl rfl rfl ?_
      rw [HS.out, HE.out]
      exact ⟨rfl, HH.out.ext⟩
    · rw [if_neg h2] at HE
      obtain rfl : n = 32 := by omega
      rw [if_pos rfl] at HS
      have hsl : ∀ W (k : Nat), k * 8 + 8 ≤ 32 → (Instr.slice 53 (.slice A 32 c) (some (.int .i64 ((k * 8 : Nat) : Int))) (some (.int .i64 ((k * 8 + 8 : Nat) : Int))) none).run Tryz.prog W = .ok (.slice (shiftA A c (k * 8) 1) 8 (c - k * 8)) W := fun W k hk => by
        have h := slice_mid (P := Tryz.prog) W 53 5 j0 1 Tryz.underlying53 hj0 hy1 A 32 c (k * 8) (k * 8 + 8) _ _ rfl rfl (by omega) (by omega)
        rwa [Nat.add_sub_cancel_left] at h
      go_enter Tryz.func110, Tryz.ntmps110
      go_upto_region 1 with fail
      generalize hwH : World.alloc w _ = w1; have HH := Lib.hid (Heap.one hwH); clear hwH
      go_upto_region 7 with fail
      go_simp; generalize hwA : World.alloc _ _ = w2; have HH2 := Lib.hid ((HH).out.allocE hwA); clear hwA HH
      have HS2 := Lib.hid (show Heap w [.box w1.heap.size (box4 l 0), _] w2 from HH2.out)
      clear HH2
      go_loopw [16] (fun i wr => ∃ k : Nat, k ≤ 4 ∧ i = .int .i64 k ∧ Hid (Heap w [.box w1.heap.size (box4 l k), .box w.heap.size [.int .u64 0, .int .u64 0, .int .u64 0, .int .u64 0]] wr)) (fun i _ => 4 - (intOf i).toNat)
      case atStart => exact ⟨0, Nat.zero_le _, rfl, HS2⟩
      case round =>
        clear HS2
        obtain ⟨k, hk, rfl, HH⟩ := hrel
        rcases (show k = 0 ∨ k = 1 ∨ k = 2 ∨ k = 3 ∨ k = 4 by omega) with rfl | rfl | rfl | rfl | rfl
        · have h5 : ∀ W, (Instr.slice 53 (.slice A 32 c) (some (.int .i64 0)) (some (.int .i64 8)) none).run Tryz.prog W = .ok (.slice (shiftA A c 0 1) 8 (c - 0)) W := fun W => hsl W 0 (by omega)
          go_upto_region 9 with fail
          go_wp2_with fail
          refine (HBg.out _ HH.out.ext 0 (by omega)).mono ?_
          rintro e w5 ⟨rfl, e5⟩
          have HH5 := Lib.hid (HH.out.later e5)
          clear HH e5
          have HH := HH5
          clear HH5 hsl
          go_wp2_with (refine shl_store1 HH.out rfl rfl rfl rfl 0 rfl rfl rfl (by kernel_rfl) ?_; clear HH; intro wS HHS; have HH := Lib.hid HHS; clear HHS)
          go_roundw
          case rel => exact ⟨1, by omega, rfl, HH⟩
          case measure => simp [intOf]
        · have h5 : ∀ W, (Instr.slice 53 (.slice A 32 c) (some (.int .i64 8)) (some (.int .i64 16)) none).run Tryz.prog W = .ok (.slice (shiftA A c 8 1) 8 (c - 8)) W := fun W => hsl W 1 (by omega)
          go_upto_region 9 with fail
          go_wp2_with fail
          refine (HBg.out _ HH.out.ext 1 (by omega)).mono ?_
          rintro e w5 ⟨rfl, e5⟩
          have HH5 := Lib.hid (HH.out.later e5)
          clear HH e5
          have HH := HH5
          clear HH5 hsl
          go_wp2_with (refine shl_store1 HH.out rfl rfl rfl rfl 0 rfl rfl rfl (by kernel_rfl) ?_; clear HH; intro wS HHS; have HH := Lib.hid HHS; clear HHS)
          go_roundw
          case rel => exact ⟨2, by omega, rfl, HH⟩
          case measure => simp [intOf]
        · have h5 : ∀ W, (Instr.slice 53 (.slice A 32 c) (some (.int .i64 16)) (some (.int .i64 24)) none).run Tryz.prog W = .ok (.slice (shiftA A c 16 1) 8 (c - 16)) W := fun W => hsl W 2 (by omega)
          go_upto_region 9 with fail
          go_wp2_with fail
          refine (HBg.out _ HH.out.ext 2 (by omega)).mono ?_
          rintro e w5 ⟨rfl, e5⟩
          have HH5 := Lib.hid (HH.out.later e5)
          clear HH e5
          have HH := HH5
          clear HH5 hsl
          go_wp2_with (refine shl_store1 HH.out rfl rfl rfl rfl 0 rfl rfl rfl (by kernel_rfl) ?_; clear HH; intro wS HHS; have HH := Lib.hid HHS; clear HHS)
          go_roundw
          case rel => exact ⟨3, by omega, rfl, HH⟩
          case measure => simp [intOf]
        · have h5 : ∀ W, (Instr.slice 53 (.slice A 32 c) (some (.int .i64 24)) (some (.int .i64 32)) none).run Tryz.prog W = .ok (.slice (shiftA A c 24 1) 8 (c - 24)) W := fun W => hsl W 3 (by omega)
          go_upto_region 9 with fail
          go_wp2_with fail
          refine (HBg.out _ HH.out.ext 3 (by omega)).mono ?_
          rintro e w5 ⟨rfl, e5⟩
          have HH5 := Lib.hid (HH.out.later e5)
          clear HH e5
          have HH := HH5
          clear HH5 hsl
          go_wp2_with (refine shl_store1 HH.out rfl rfl rfl rfl 0 rfl rfl rfl (by kernel_rfl) ?_; clear HH; intro wS HHS; have HH := Lib.hid HHS; clear HHS)
          go_roundw
          case rel => exact ⟨4, by omega, rfl, HH⟩
          case measure => simp [intOf]
        · go_upto_region 11 with fail
          go_wp2_with (first | (refine shl_load1 HH.out rfl rfl rfl 0 rfl rfl (by decide +kernel) ?_) | (refine shl_store HH.out sizeSu rfl rfl rfl rfl 1 rfl rfl rfl rfl ?_; clear HH; intro wS HHS; have HH := Lib.hid HHS; clear HHS))
          refine ret_cell2 sizeSu (by kernel_rfl) HH.out rfl rfl rfl 1 rfl rfl rfl ?_
          rw [HS.out, HE.out]
          exact ⟨rfl, HH.out.ext⟩
open Go.RowKit
def Rec.bare (x : Rec) : Rec := { x with oA := none, on := 0, oc := 0 }
def zeroR' : Rec := ⟨0, ⟨#[]⟩, 0, 0, none, 0, 0, [], 0, 0, ⟨#[]⟩, 0, 0, 0, 0⟩
end Go.Proofs.YtckaneapjpiocaaGreatDoor
