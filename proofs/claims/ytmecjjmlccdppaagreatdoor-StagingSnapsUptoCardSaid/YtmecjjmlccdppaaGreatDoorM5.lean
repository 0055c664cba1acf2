/- The texts Sumo, Nm, Nam in one file. -/
import Derived.Test.YtmecjjmlccdppaaGreatDoorM4
import Derived.Test.YtmecjjmlccdppaaGreatDoorM1
import Derived.Test.YtmecjjmlccdppaaGreatDoorM3
/- A sum's octets: fletch.Octets, the reference's SumOctets. -/
namespace Go.Proofs.YtmecjjmlccdppaaGreatDoor
open Go.RowKit
set_option linter.unusedVariables false
set_option linter.unusedSimpArgs false

def sumO (s : Su) : List UInt8 := puts s.a 8 ++ puts s.b 8 ++ puts s.c 8 ++ puts s.d 8
theorem sumO_length (s : Su) : (sumO s).length = 32 := by simp [sumO, puts_length]
theorem bt_i64 (x : Int) (j : Nat) (hj : j < 8) : bt (IntKind.i64.wrap x) j = bt x j := by
  unfold bt
  congr 2
  rw [IntKind.wrap_i64]
  rcases (show j = 0 ∨ j = 1 ∨ j = 2 ∨ j = 3 ∨ j = 4 ∨ j = 5 ∨ j = 6 ∨ j = 7 by omega) with rfl | rfl | rfl | rfl | rfl | rfl | rfl | rfl <;> simp <;> omega
theorem puts_i64 (x : Int) : puts (IntKind.i64.wrap x) 8 = puts x 8 := by
  unfold puts
  refine List.map_congr_left fun j hj => ?_
  rw [List.mem_range] at hj
  exact bt_i64 x _ (by omega)
theorem puts_take' (x : Int) (m k : Nat) (hk : k < m) : (puts x m).take (k + 1) = (puts x m).take k ++ [bt x (m - 1 - k)] := by
  rw [List.take_succ_eq_append_getElem (by rw [puts_length]; exact hk)]
  simp [puts]

set_option maxRecDepth 100000 in
set_option maxHeartbeats 1000000 in
theorem eight_any (x : Int) (w : World) (hx1 : 0 ≤ x) (hx2 : x ≤ 18446744073709551615) :
    Calls Tryz.prog 98 #[.int .u64 x] w fun e w' => ∃ v, e = .returned v ∧ w'.ownsRow w.heap.size 5 1 v 8 (bytes (puts x 8)) ∧ Ext w w' := by
  obtain ⟨i0, hi0, hz0, hz1, hz2⟩ := info_parts info5
  have HX := Lib.hid hx2
  clear hx2
  go_enter Tryz.func98, Tryz.ntmps98
  go_wp2_with fail
  go_loopw [3, 4] (fun v i wr => ∃ k : Nat, k ≤ 8 ∧ i = .int .i64 (7 - (k : Int)) ∧ Hid (wr.ownsRow w.heap.size 5 1 v k (bytes ((puts x 8).take k))) ∧ Ext w wr) (fun _ i _ => (intOf i + 1).toNat)
  case atStart => exact ⟨0, Nat.zero_le _, rfl, Lib.hid (World.ownsRow_nil _ _ _ _), Ext.refl _⟩
  case round =>
    obtain ⟨k, hk, rfl, hown, e1⟩ := hrel
    by_cases hlt : k < 8
    · have htx := Lib.hid (puts_take' x 8 k hlt)
      obtain ⟨j, hj⟩ : ∃ j : Nat, 8 - 1 - k = j := ⟨_, rfl⟩
      have hji : 7 - (k : Int) = j := by omega
      have hj8 : j < 8 := by omega
      rw [hj] at htx
      rw [hji]
      go_wp2_with
        (at_builtin
         refine list_app _ rfl (.tmp 9) (.tmp 15) _ rfl 5 i0 _ 1 1 Tryz.underlying57 hi0 hz0 hz1 hz2 rfl (by omega) w.heap.size _ k _ rfl (own_ext hown.out ((Ext.refl _).alloc _)) 0 _ _ 1 1 [.int .u8 (x / 2 ^ (8 * j) % 256)] rfl rfl
           ((rd_new _ _ _).more (Nat.zero_le _) (Nat.le_refl _)) (by simp [Value.oneCell']) (by simp only [maxLen]; omega) (by omega) (by have := e1.size; simp; omega) ?_
         intro v2 w2 hown2 he2 _ _
         have e3 : Ext w w2 := he2 _ (e1.alloc _) (Nat.le_refl _)
         clear he2)
      go_roundw
      case rel =>
        refine ⟨k + 1, by omega, by go_num, ?_, e3⟩
        rw [htx.out, bytes_append]
        have hb : bytes [bt x j] = [.int .u8 (x / 2 ^ (8 * j) % 256)] := by
          have h1 : (256 : Int) ^ j = 2 ^ (8 * j) := by rw [Int.pow_mul]; rfl
          have h2 := bt_zero (x / 256 ^ j)
          have h3 : bt x j = bt (x / 256 ^ j) 0 := by simp [bt]
          rw [h3, bytes, List.map_cons, List.map_nil, h2, h1]
        rw [hb]
        exact Lib.hid hown2
      case measure => (first | (simp [intOf]; done) | (simp [intOf]; omega))
    · go_wp2_with fail
      obtain rfl : k = 8 := by omega
      go_ret
      exact ⟨_, rfl, by have := hown.out; rwa [List.take_of_length_le (by rw [puts_length]; exact Nat.le_refl _)] at this, e1⟩

def Su.wf (s : Su) : Prop := (0 ≤ s.a ∧ s.a ≤ 18446744073709551615) ∧ (0 ≤ s.b ∧ s.b ≤ 18446744073709551615) ∧ (0 ≤ s.c ∧ s.c ≤ 18446744073709551615) ∧ (0 ≤ s.d ∧ s.d ≤ 18446744073709551615)

set_option maxRecDepth 100000 in
set_option maxHeartbeats 4000000 in
theorem sumoctets_any (s : Su) (w : World) (hs : s.wf) :
    Calls Tryz.prog 65 #[.agg s.cells.toArray] w fun e w' => ∃ v, e = .returned v ∧ w'.ownsRow w.heap.size 5 1 v 32 (bytes (sumO s)) ∧ Ext w w' := by
  obtain ⟨i0, hi0, hz0, hz1, hz2⟩ := info_parts info5
  obtain ⟨sa, sb, sc, sd⟩ := s
  have HE := Lib.hid (show sumO ⟨sa, sb, sc, sd⟩ = puts sa 8 ++ puts sb 8 ++ puts sc 8 ++ puts sd 8 from rfl)
  have HS := Lib.hid hs
  clear hs
  simp only [Su.cells]
  go_enter Tryz.func65, Tryz.ntmps65
  go_wp2_with fail
  generalize hwH : World.alloc w _ = w1; have HH := Lib.hid (Heap.one hwH); clear hwH
  have HH0 := Lib.hid HH.out.drew
  clear HH
  have HH := HH0
  clear HH0
  refine wp_region_held_drew (S := Heap w [.box w.heap.size [.int .u64 sa, .int .u64 sb, .int .u64 sc, .int .u64 sd]]) (by kernel_rfl) HH.out (fun hHeld => ?_)
  refine takeL 0 (v := ?_) rfl (by kernel_rfl) (by kernel_rfl) (by kernel_rfl) (fun _ _ _ h => h) (by kernel_rfl) ?_ (by assumption) ?_; rotate_left; (focus (intro w hSw; (try dsimp only at hSw); go_simp <;> with_reducible rfl)); (try simp only [Act.put, List.setIfInBounds_toArray, List.set_cons_zero, List.set_cons_succ])
  refine takeL 1 rfl (by kernel_rfl) (by kernel_rfl) (by kernel_rfl) (fun _ _ _ h => h) (by kernel_rfl) (fun wT hST => sh_run_load1 hST rfl rfl 0 rfl rfl (by kernel_rfl)) hHeld ?_; (try simp only [Act.put, List.setIfInBounds_toArray, List.set_cons_zero, List.set_cons_succ])
  refine takeL 3 (v := ?_) rfl (by kernel_rfl) (by kernel_rfl) (by kernel_rfl) (fun _ _ _ h => h) (by kernel_rfl) ?_ (by assumption) ?_; rotate_left; (focus (intro w hSw; (try dsimp only at hSw); go_simp <;> with_reducible rfl)); (try simp only [Act.put, List.setIfInBounds_toArray, List.set_cons_zero, List.set_cons_succ])
  refine takeL 4 rfl (by kernel_rfl) (by kernel_rfl) (by kernel_rfl) (fun _ _ _ h => h) (by kernel_rfl) (fun wT hST => sh_run_load1 hST rfl rfl 0 rfl rfl (by kernel_rfl)) hHeld ?_; (try simp only [Act.put, List.setIfInBounds_toArray, List.set_cons_zero, List.set_cons_succ])
  refine takeL 7 (v := ?_) rfl (by kernel_rfl) (by kernel_rfl) (by kernel_rfl) (fun _ _ _ h => h) (by kernel_rfl) ?_ (by assumption) ?_; rotate_left; (focus (intro w hSw; (try dsimp only at hSw); go_simp <;> with_reducible rfl)); (try simp only [Act.put, List.setIfInBounds_toArray, List.set_cons_zero, List.set_cons_succ])
  refine takeL 8 rfl (by kernel_rfl) (by kernel_rfl) (by kernel_rfl) (fun _ _ _ h => h) (by kernel_rfl) (fun wT hST => sh_run_load1 hST rfl rfl 0 rfl rfl (by kernel_rfl)) hHeld ?_; (try simp only [Act.put, List.setIfInBounds_toArray, List.set_cons_zero, List.set_cons_succ])
  refine takeL 11 (v := ?_) rfl (by kernel_rfl) (by kernel_rfl) (by kernel_rfl) (fun _ _ _ h => h) (by kernel_rfl) ?_ (by assumption) ?_; rotate_left; (focus (intro w hSw; (try dsimp only at hSw); go_simp <;> with_reducible rfl)); (try simp only [Act.put, List.setIfInBounds_toArray, List.set_cons_zero, List.set_cons_succ])
  refine takeL 12 rfl (by kernel_rfl) (by kernel_rfl) (by kernel_rfl) (fun _ _ _ h => h) (by kernel_rfl) (fun wT hST => sh_run_load1 hST rfl rfl 0 rfl rfl (by kernel_rfl)) hHeld ?_; (try simp only [Act.put, List.setIfInBounds_toArray, List.set_cons_zero, List.set_cons_succ])
  clear hHeld
  refine oneL 2 rfl (by kernel_rfl) (by kernel_rfl) (fun K hK => ?_)
  go_simp
  refine (eight_any sa _ HS.out.1.1 HS.out.1.2).mono ?_
  rintro e w2 ⟨v2, rfl, hown2, e2⟩
  have HH2 := Lib.hid (HH.out.addRow e2 hown2)
  clear HH hown2 e2
  go_wp2_with fail
  refine hK.out _ _ HH2.out.tail (fun hHeld => ?_); clear hK K; (try simp only [Act.put, List.setIfInBounds_toArray, List.set_cons_zero, List.set_cons_succ])
  clear hHeld
  refine oneL 5 rfl (by kernel_rfl) (by kernel_rfl) (fun K hK => ?_)
  go_simp
  refine (eight_any sb _ HS.out.2.1.1 HS.out.2.1.2).mono ?_
  rintro e w3 ⟨v3, rfl, hown3, e3⟩
  obtain ⟨A3, c3, rfl, _, _, _⟩ := own_form hown3
  have HH3 := Lib.hid (HH2.out.addRow e3 hown3)
  clear HH2 hown3 e3
  go_wp2_with fail
  refine hK.out _ _ HH3.out.tail.tail (fun hHeld => ?_); clear hK K; (try simp only [Act.put, List.setIfInBounds_toArray, List.set_cons_zero, List.set_cons_succ])
  clear hHeld
  refine oneL 6 rfl (by kernel_rfl) (by kernel_rfl) (fun K hK => ?_)
  refine sh_app (.tmp 5) (.tmp 8) _ rfl Tryz.underlying57 hi0 hz0 hz1 hz2 rfl (by omega) HH3.out 1 rfl rfl (m := 8) rfl (by rw [bytes_length, puts_length]) (Rd.of_own (HH3.out.rowAt 0 rfl)) (bytes_one _) (by simp only [maxLen]; omega) (by omega) ?_
  rintro v4 w4 hh4 ⟨A4, c4, rfl⟩
  have HH4 := Lib.hid hh4
  clear hh4 HH3
  refine hK.out _ _ HH4.out.tail.tail (fun hHeld => ?_); clear hK K; (try simp only [Act.put, List.setIfInBounds_toArray, List.set_cons_zero, List.set_cons_succ])
  clear hHeld
  refine oneL 9 rfl (by kernel_rfl) (by kernel_rfl) (fun K hK => ?_)
  go_simp
  refine (eight_any sc _ HS.out.2.2.1.1 HS.out.2.2.1.2).mono ?_
  rintro e w5 ⟨v5, rfl, hown5, e5⟩
  obtain ⟨A5, c5, rfl, _, _, _⟩ := own_form hown5
  have HH5 := Lib.hid (HH4.out.addRow e5 hown5)
  clear HH4 hown5 e5
  go_wp2_with fail
  refine hK.out _ _ HH5.out.tail.tail.tail (fun hHeld => ?_); clear hK K; (try simp only [Act.put, List.setIfInBounds_toArray, List.set_cons_zero, List.set_cons_succ])
  clear hHeld
  refine oneL 10 rfl (by kernel_rfl) (by kernel_rfl) (fun K hK => ?_)
  refine sh_app (.tmp 9) (.tmp 12) _ rfl Tryz.underlying57 hi0 hz0 hz1 hz2 rfl (by omega) HH5.out 2 rfl rfl (m := 8) rfl (by rw [bytes_length, puts_length]) (Rd.of_own (HH5.out.rowAt 0 rfl)) (bytes_one _) (by simp only [maxLen]; omega) (by omega) ?_
  rintro v6 w6 hh6 ⟨A6, c6, rfl⟩
  have HH6 := Lib.hid hh6
  clear hh6 HH5
  refine hK.out _ _ HH6.out.tail.tail.tail (fun hHeld => ?_); clear hK K; (try simp only [Act.put, List.setIfInBounds_toArray, List.set_cons_zero, List.set_cons_succ])
  clear hHeld
  refine oneL 13 rfl (by kernel_rfl) (by kernel_rfl) (fun K hK => ?_)
  go_simp
  refine (eight_any sd _ HS.out.2.2.2.1 HS.out.2.2.2.2).mono ?_
  rintro e w7 ⟨v7, rfl, hown7, e7⟩
  obtain ⟨A7, c7, rfl, _, _, _⟩ := own_form hown7
  have HH7 := Lib.hid (HH6.out.addRow e7 hown7)
  clear HH6 hown7 e7
  go_wp2_with fail
  refine hK.out _ _ HH7.out.tail.tail.tail.tail (fun hHeld => ?_); clear hK K; (try simp only [Act.put, List.setIfInBounds_toArray, List.set_cons_zero, List.set_cons_succ])
  clear hHeld
  refine oneL 14 rfl (by kernel_rfl) (by kernel_rfl) (fun K hK => ?_)
  refine sh_app (.tmp 13) (.tmp 16) _ rfl Tryz.underlying57 hi0 hz0 hz1 hz2 rfl (by omega) HH7.out 3 rfl rfl (m := 8) rfl (by rw [bytes_length, puts_length]) (Rd.of_own (HH7.out.rowAt 0 rfl)) (bytes_one _) (by simp only [maxLen]; omega) (by omega) ?_
  rintro v8 w8 hh8 ⟨A8, c8, rfl⟩
  have HH8 := Lib.hid hh8
  clear hh8 HH7
  refine hK.out _ _ HH8.out.tail.tail.tail.tail (fun hHeld => ?_); clear hK K; (try simp only [Act.put, List.setIfInBounds_toArray, List.set_cons_zero, List.set_cons_succ])
  refine takeL 15 (v := ?_) rfl (by kernel_rfl) (by kernel_rfl) (by kernel_rfl) (fun _ _ _ h => h) (by kernel_rfl) ?_ (by assumption) ?_; rotate_left; (focus (intro w hSw; (try dsimp only at hSw); go_simp <;> with_reducible rfl)); (try simp only [Act.put, List.setIfInBounds_toArray, List.set_cons_zero, List.set_cons_succ])
  refine wpAnyH_done (by kernel_rfl) ?_ _
  go_wp2_with fail
  go_ret
  refine ⟨_, rfl, ?_, HH8.out.ext⟩
  have := HH8.out.rowAt 3 rfl
  rw [HE.out, bytes_append, bytes_append, bytes_append]
  exact this

set_option maxRecDepth 100000 in
set_option maxHeartbeats 4000000 in
theorem octets_any (s : Su) (w : World) (hs : s.wf) :
    Calls Tryz.prog 102 #[.agg s.cells.toArray] w fun e w' => ∃ v, e = .returned v ∧ w'.ownsRow w.heap.size 5 1 v 32 (bytes (sumO s)) ∧ Ext w w' := by
  obtain ⟨sa, sb, sc, sd⟩ := s
  have HE := Lib.hid (show sumO ⟨sa, sb, sc, sd⟩ = puts sa 8 ++ puts sb 8 ++ puts sc 8 ++ puts sd 8 from rfl)
  have hb : ∀ x : Int, -9223372036854775808 ≤ IntKind.i64.wrap x ∧ IntKind.i64.wrap x ≤ 9223372036854775807 := fun x => by rw [IntKind.wrap_i64]; omega
  have HA := Lib.hid (hb sa)
  have HB := Lib.hid (hb sb)
  have HC := Lib.hid (hb sc)
  have HD := Lib.hid (hb sd)
  have PA := Lib.hid (puts_i64 sa)
  have PB := Lib.hid (puts_i64 sb)
  have PC := Lib.hid (puts_i64 sc)
  have PD := Lib.hid (puts_i64 sd)
  clear hb
  simp only [Su.cells]
  go_enter Tryz.func102, Tryz.ntmps102
  go_wp2_with fail
  generalize hwH : World.alloc w _ = w1; have HH := Lib.hid (Heap.one hwH); clear hwH
  have HH0 := Lib.hid HH.out.drew
  clear HH
  refine wp_region_held_drew (S := Heap w [.box w.heap.size [.int .u64 sa, .int .u64 sb, .int .u64 sc, .int .u64 sd]]) (by kernel_rfl) HH0.out (fun hHeld => ?_)
  refine takeL 0 (v := ?_) rfl (by kernel_rfl) (by kernel_rfl) (by kernel_rfl) (fun _ _ _ h => h) (by kernel_rfl) ?_ (by assumption) ?_; rotate_left; (focus (intro w hSw; (try dsimp only at hSw); go_simp <;> with_reducible rfl)); (try simp only [Act.put, List.setIfInBounds_toArray, List.set_cons_zero, List.set_cons_succ])
  refine takeL 1 rfl (by kernel_rfl) (by kernel_rfl) (by kernel_rfl) (fun _ _ _ h => h) (by kernel_rfl) (fun wT hST => sh_run_load1 hST rfl rfl 0 rfl rfl (by kernel_rfl)) hHeld ?_; (try simp only [Act.put, List.setIfInBounds_toArray, List.set_cons_zero, List.set_cons_succ])
  refine takeL 2 (v := ?_) rfl (by kernel_rfl) (by kernel_rfl) (by kernel_rfl) (fun _ _ _ h => h) (by kernel_rfl) ?_ (by assumption) ?_; rotate_left; (focus (intro w hSw; (try dsimp only at hSw); go_simp <;> with_reducible rfl)); (try simp only [Act.put, List.setIfInBounds_toArray, List.set_cons_zero, List.set_cons_succ])
  refine takeL 4 (v := ?_) rfl (by kernel_rfl) (by kernel_rfl) (by kernel_rfl) (fun _ _ _ h => h) (by kernel_rfl) ?_ (by assumption) ?_; rotate_left; (focus (intro w hSw; (try dsimp only at hSw); go_simp <;> with_reducible rfl)); (try simp only [Act.put, List.setIfInBounds_toArray, List.set_cons_zero, List.set_cons_succ])
  refine takeL 5 rfl (by kernel_rfl) (by kernel_rfl) (by kernel_rfl) (fun _ _ _ h => h) (by kernel_rfl) (fun wT hST => sh_run_load1 hST rfl rfl 0 rfl rfl (by kernel_rfl)) hHeld ?_; (try simp only [Act.put, List.setIfInBounds_toArray, List.set_cons_zero, List.set_cons_succ])
  refine takeL 6 (v := ?_) rfl (by kernel_rfl) (by kernel_rfl) (by kernel_rfl) (fun _ _ _ h => h) (by kernel_rfl) ?_ (by assumption) ?_; rotate_left; (focus (intro w hSw; (try dsimp only at hSw); go_simp <;> with_reducible rfl)); (try simp only [Act.put, List.setIfInBounds_toArray, List.set_cons_zero, List.set_cons_succ])
  refine takeL 8 (v := ?_) rfl (by kernel_rfl) (by kernel_rfl) (by kernel_rfl) (fun _ _ _ h => h) (by kernel_rfl) ?_ (by assumption) ?_; rotate_left; (focus (intro w hSw; (try dsimp only at hSw); go_simp <;> with_reducible rfl)); (try simp only [Act.put, List.setIfInBounds_toArray, List.set_cons_zero, List.set_cons_succ])
  refine takeL 9 rfl (by kernel_rfl) (by kernel_rfl) (by kernel_rfl) (fun _ _ _ h => h) (by kernel_rfl) (fun wT hST => sh_run_load1 hST rfl rfl 0 rfl rfl (by kernel_rfl)) hHeld ?_; (try simp only [Act.put, List.setIfInBounds_toArray, List.set_cons_zero, List.set_cons_succ])
  refine takeL 10 (v := ?_) rfl (by kernel_rfl) (by kernel_rfl) (by kernel_rfl) (fun _ _ _ h => h) (by kernel_rfl) ?_ (by assumption) ?_; rotate_left; (focus (intro w hSw; (try dsimp only at hSw); go_simp <;> with_reducible rfl)); (try simp only [Act.put, List.setIfInBounds_toArray, List.set_cons_zero, List.set_cons_succ])
  refine takeL 12 (v := ?_) rfl (by kernel_rfl) (by kernel_rfl) (by kernel_rfl) (fun _ _ _ h => h) (by kernel_rfl) ?_ (by assumption) ?_; rotate_left; (focus (intro w hSw; (try dsimp only at hSw); go_simp <;> with_reducible rfl)); (try simp only [Act.put, List.setIfInBounds_toArray, List.set_cons_zero, List.set_cons_succ])
  refine takeL 13 rfl (by kernel_rfl) (by kernel_rfl) (by kernel_rfl) (fun _ _ _ h => h) (by kernel_rfl) (fun wT hST => sh_run_load1 hST rfl rfl 0 rfl rfl (by kernel_rfl)) hHeld ?_; (try simp only [Act.put, List.setIfInBounds_toArray, List.set_cons_zero, List.set_cons_succ])
  refine takeL 14 (v := ?_) rfl (by kernel_rfl) (by kernel_rfl) (by kernel_rfl) (fun _ _ _ h => h) (by kernel_rfl) ?_ (by assumption) ?_; rotate_left; (focus (intro w hSw; (try dsimp only at hSw); go_simp <;> with_reducible rfl)); (try simp only [Act.put, List.setIfInBounds_toArray, List.set_cons_zero, List.set_cons_succ])
  generalize IntKind.i64.wrap sa = ya at *
  generalize IntKind.i64.wrap sb = yb at *
  generalize IntKind.i64.wrap sc = yc at *
  generalize IntKind.i64.wrap sd = yd at *
  clear hHeld
  refine oneL 3 rfl (by kernel_rfl) (by kernel_rfl) (fun K hK => ?_); go_simp; refine (put_any ya _ 8 (by omega) rfl _ HA.out.1 HA.out.2).mono ?_; rintro e w2 ⟨vw2, rfl, hownw2, ew2⟩; obtain ⟨Aw2, cw2, rfl, _, _, _⟩ := own_form hownw2; have HH2 := Lib.hid ((HH0).out.addRow ew2 hownw2); clear HH0 hownw2 ew2; go_wp2_with fail
  refine hK.out _ _ HH2.out.tail (fun hHeld => ?_); clear hK K; (try simp only [Act.put, List.setIfInBounds_toArray, List.set_cons_zero, List.set_cons_succ])
  clear hHeld
  refine oneL 7 rfl (by kernel_rfl) (by kernel_rfl) (fun K hK => ?_); go_simp; refine (put_any yb _ 8 (by omega) rfl _ HB.out.1 HB.out.2).mono ?_; rintro e w3 ⟨vw3, rfl, hownw3, ew3⟩; obtain ⟨Aw3, cw3, rfl, _, _, _⟩ := own_form hownw3; have HH3 := Lib.hid ((HH2).out.addRow ew3 hownw3); clear HH2 hownw3 ew3; go_wp2_with fail
  refine hK.out _ _ HH3.out.tail.tail (fun hHeld => ?_); clear hK K; (try simp only [Act.put, List.setIfInBounds_toArray, List.set_cons_zero, List.set_cons_succ])
  clear hHeld
  refine oneL 11 rfl (by kernel_rfl) (by kernel_rfl) (fun K hK => ?_); go_simp; refine (put_any yc _ 8 (by omega) rfl _ HC.out.1 HC.out.2).mono ?_; rintro e w4 ⟨vw4, rfl, hownw4, ew4⟩; obtain ⟨Aw4, cw4, rfl, _, _, _⟩ := own_form hownw4; have HH4 := Lib.hid ((HH3).out.addRow ew4 hownw4); clear HH3 hownw4 ew4; go_wp2_with fail
  refine hK.out _ _ HH4.out.tail.tail.tail (fun hHeld => ?_); clear hK K; (try simp only [Act.put, List.setIfInBounds_toArray, List.set_cons_zero, List.set_cons_succ])
  clear hHeld
  refine oneL 15 rfl (by kernel_rfl) (by kernel_rfl) (fun K hK => ?_); go_simp; refine (put_any yd _ 8 (by omega) rfl _ HD.out.1 HD.out.2).mono ?_; rintro e w5 ⟨vw5, rfl, hownw5, ew5⟩; obtain ⟨Aw5, cw5, rfl, _, _, _⟩ := own_form hownw5; have HH5 := Lib.hid ((HH4).out.addRow ew5 hownw5); clear HH4 hownw5 ew5; go_wp2_with fail
  refine hK.out _ _ HH5.out.tail.tail.tail.tail (fun hHeld => ?_); clear hK K; (try simp only [Act.put, List.setIfInBounds_toArray, List.set_cons_zero, List.set_cons_succ])
  clear hHeld
  refine oneL 16 rfl (by kernel_rfl) (by kernel_rfl) (fun K hK => ?_)
  go_simp
  generalize hwA : World.alloc w5 _ = w6
  have HH6 := Lib.hid (HH5.out.allocE hwA)
  clear hwA HH5
  refine hK.out _ _ HH6.out.tail.tail.tail.tail.tail (fun hHeld => ?_); clear hK K; (try simp only [Act.put, List.setIfInBounds_toArray, List.set_cons_zero, List.set_cons_succ])
  clear hHeld
  refine oneL 17 rfl (by kernel_rfl) (by kernel_rfl) (fun K hK => ?_)
  go_simp
  refine (join_any w6 _ 4 4 [⟨Aw2, 8, cw2, puts ya 8⟩, ⟨Aw3, 8, cw3, puts yb 8⟩, ⟨Aw4, 8, cw4, puts yc 8⟩, ⟨Aw5, 8, cw5, puts yd 8⟩] rfl
    (fun _ => ⟨_, 0, rfl, Nat.zero_le _, (HH6.out.boxAt 0 rfl).lt, fun j u hu => by rw [Nat.zero_add]; exact (HH6.out.boxAt 0 rfl).cell j u hu⟩)
    (fun x hx => by
      simp only [List.mem_cons, List.not_mem_nil, or_false] at hx
      rcases hx with rfl | rfl | rfl | rfl
      · exact ⟨(puts_length _ _).symm, (Rd.of_own (HH6.out.rowAt 4 rfl)).more (Nat.zero_le _) (Nat.le_refl _)⟩
      · exact ⟨(puts_length _ _).symm, (Rd.of_own (HH6.out.rowAt 3 rfl)).more (Nat.zero_le _) (Nat.le_refl _)⟩
      · exact ⟨(puts_length _ _).symm, (Rd.of_own (HH6.out.rowAt 2 rfl)).more (Nat.zero_le _) (Nat.le_refl _)⟩
      · exact ⟨(puts_length _ _).symm, (Rd.of_own (HH6.out.rowAt 1 rfl)).more (Nat.zero_le _) (Nat.le_refl _)⟩)
    (by omega) (by simp [catL, puts_length])).mono ?_
  rintro e w7 ⟨v7, rfl, hown7, e7⟩
  have HO := Lib.hid (own_lower hown7 HH6.out.ext.size)
  have HX := Lib.hid (HH6.out.ext.trans e7)
  have HS7 := Lib.hid (HH6.out.later e7)
  clear hown7 e7
  go_wp2_with fail
  refine hK.out _ _ HS7.out.tail.tail.tail.tail.tail (fun hHeld => ?_); clear hK K; (try simp only [Act.put, List.setIfInBounds_toArray, List.set_cons_zero, List.set_cons_succ])
  refine takeL 18 (v := ?_) rfl (by kernel_rfl) (by kernel_rfl) (by kernel_rfl) (fun _ _ _ h => h) (by kernel_rfl) ?_ (by assumption) ?_; rotate_left; (focus (intro w hSw; (try dsimp only at hSw); go_simp <;> with_reducible rfl)); (try simp only [Act.put, List.setIfInBounds_toArray, List.set_cons_zero, List.set_cons_succ])
  refine wpAnyH_done (by kernel_rfl) ?_ _
  go_wp2_with fail
  go_ret
  refine ⟨_, rfl, ?_, HX.out⟩
  have h := HO.out
  have hc : catL [⟨Aw2, 8, cw2, puts ya 8⟩, ⟨Aw3, 8, cw3, puts yb 8⟩, ⟨Aw4, 8, cw4, puts yc 8⟩, ⟨Aw5, 8, cw5, puts yd 8⟩] = sumO ⟨sa, sb, sc, sd⟩ := by
    rw [HE.out, ← PA.out, ← PB.out, ← PC.out, ← PD.out]
    simp [catL, List.append_assoc]
  rw [hc, sumO_length] at h
  exact h
end Go.Proofs.YtmecjjmlccdppaaGreatDoor
/- The walks of names.Name, props.value and the reference's: which texts are names, which are values. -/
namespace Go.Proofs.YtmecjjmlccdppaaGreatDoor
open Go.RowKit

def oddN (z : Int) : Bool := (decide (z < 97) || decide (122 < z)) && (decide (z < 48) || decide (57 < z)) && (z != 45) && (z != 95)
def badN (z : Int) : Bool := decide (z < 32) || decide (126 < z)
def oddB (c : UInt8) : Bool := oddN c.toNat
def badB (c : UInt8) : Bool := badN c.toNat

theorem oddB_any (c : UInt8) (w : World) : Calls Tryz.prog 94 #[.int .u8 (c.toNat : Int)] w fun e w' => e = .returned (.bool (oddB c)) ∧ Ext w w' := by
  unfold oddB
  generalize (c.toNat : Int) = z
  go_enter Tryz.func94, Tryz.ntmps94
  go_wp2_with fail
  all_goals (
    go_ret
    refine ⟨?_, Ext.refl _⟩
    first | (simp [oddN]; done) | (simp_all [oddN]; done) | (simp_all [oddN]; omega))
theorem badB_any (c : UInt8) (w : World) : Calls Tryz.prog 127 #[.int .u8 (c.toNat : Int)] w fun e w' => e = .returned (.bool (badB c)) ∧ Ext w w' := by
  unfold badB
  generalize (c.toNat : Int) = z
  go_enter Tryz.func127, Tryz.ntmps127
  go_wp2_with fail
  all_goals (
    go_ret
    refine ⟨?_, Ext.refl _⟩
    first | (simp [badN]; done) | (simp_all [badN]; done) | (simp_all [badN]; omega))
theorem letter_any (c : UInt8) (w : World) : Calls Tryz.prog 97 #[.int .u8 (c.toNat : Int)] w fun e w' => e = .returned (.bool (!oddB c)) ∧ Ext w w' := by
  unfold oddB
  generalize (c.toNat : Int) = z
  go_enter Tryz.func97, Tryz.ntmps97
  go_wp2_with fail
  all_goals (
    go_ret
    refine ⟨?_, Ext.refl _⟩
    first | (simp_all [oddN]; done) | (refine congrArg (fun b => Ending.returned (Value.bool b)) ?_; rw [Bool.eq_iff_iff]; simp [oddN]; omega))
set_option maxHeartbeats 400000 in
theorem oidx_any (w : World) (A : Option Addr) (n c lo hi : Nat) (l : List UInt8) (hn : n = l.length) (hm : n ≤ 9223372036854775807) (hr : Rd w lo hi A (bytes l)) (hh : hi ≤ w.heap.size) :
    Calls Tryz.prog 121 #[.slice A n c, .func (.func 94) #[] #[]] w fun e w' => ∃ r : Int, e = .returned (.int .i64 r) ∧ l.any oddB = decide (0 ≤ r) ∧ -1 ≤ r ∧ Ext w w' := by
  have Hn := Lib.hid hn
  clear hn
  go_enter Tryz.func121, Tryz.ntmps121
  go_wp2_with fail
  go_loopw [8] (fun i wr => ∃ k : Nat, k ≤ n ∧ i = .int .i64 k ∧ (l.take k).any oddB = false ∧ Ext w wr) (fun i _ => n - (intOf i).toNat)
  case atStart => exact ⟨0, Nat.zero_le _, rfl, rfl, Ext.refl _⟩
  case round =>
    obtain ⟨k, hk, rfl, hno, e1⟩ := hrel
    have HK := Lib.hid hno
    clear hno
    by_cases hlt : k < n
    · obtain ⟨b1, o1, rfl, _, _, f0⟩ := rd_byte (hr.ext e1 hh) (k := k) (by rw [← Hn.out]; omega)
      have hl : k < l.length := by rw [← Hn.out]; omega
      obtain ⟨y, hy⟩ : ∃ y, y = l[k]'hl := ⟨_, rfl⟩
      rw [← hy] at f0
      have HY := Lib.hid hy
      clear hy
      go_wp2_with fail
      refine (oddB_any y _).mono ?_
      rintro e w2 ⟨rfl, e2⟩
      cases ho : oddB y
      · go_wp2_with fail
        go_roundw
        case rel =>
          refine ⟨k + 1, by omega, by go_num, ?_, by (repeat (first | exact Below.refl _ _ | exact Ext.refl _ | assumption | refine Below.drew ?_ | refine below_drewN ?_ _ | refine below_alloc ?_ (by first | exact Nat.le_refl _ | assumption | (simp; done) | omega | (simp; omega)) _ | refine below_ext ?_ (by assumption) (by first | exact Nat.le_refl _ | assumption | (simp; done) | omega | (simp; omega)) | refine Ext.drew ?_ | refine Ext.drewN ?_ _ | refine Ext.alloc ?_ _ | refine Ext.setCell ?_ (by first | assumption | (simp; done) | (simp; omega)) _ | refine Below.setCell ?_ (by first | assumption | (simp; done) | (simp; omega)) _ | refine Ext.trans ?_ (by assumption)))⟩
          rw [List.take_succ_eq_append_getElem hl, List.any_append, HK.out, ← HY.out]
          simp [ho]
        case measure => simp [intOf]; omega
      · go_wp2_with fail
        go_ret
        refine ⟨k, rfl, ?_, by omega, by (repeat (first | exact Below.refl _ _ | exact Ext.refl _ | assumption | refine Below.drew ?_ | refine below_drewN ?_ _ | refine below_alloc ?_ (by first | exact Nat.le_refl _ | assumption | (simp; done) | omega | (simp; omega)) _ | refine below_ext ?_ (by assumption) (by first | exact Nat.le_refl _ | assumption | (simp; done) | omega | (simp; omega)) | refine Ext.drew ?_ | refine Ext.drewN ?_ _ | refine Ext.alloc ?_ _ | refine Ext.setCell ?_ (by first | assumption | (simp; done) | (simp; omega)) _ | refine Below.setCell ?_ (by first | assumption | (simp; done) | (simp; omega)) _ | refine Ext.trans ?_ (by assumption)))⟩
        have h1 : l.any oddB = true := List.any_eq_true.2 ⟨y, by rw [HY.out]; exact List.getElem_mem _, ho⟩
        rw [h1]
        simp
    · go_wp2_with fail
      go_ret
      obtain rfl : k = n := by omega
      have h1 := HK.out
      rw [List.take_of_length_le (by rw [← Hn.out]; exact Nat.le_refl _)] at h1
      exact ⟨-1, rfl, by rw [h1]; rfl, by omega, e1⟩

set_option maxHeartbeats 400000 in
theorem ocont_any (w : World) (A : Option Addr) (n c lo hi : Nat) (l : List UInt8) (hn : n = l.length) (hm : n ≤ 9223372036854775807) (hr : Rd w lo hi A (bytes l)) (hh : hi ≤ w.heap.size) :
    Calls Tryz.prog 93 #[.slice A n c, .func (.func 94) #[] #[]] w fun e w' => e = .returned (.bool (l.any oddB)) ∧ Ext w w' := by
  have Hn := Lib.hid hn
  clear hn
  go_enter Tryz.func93, Tryz.ntmps93
  go_wp2_with fail
  refine (oidx_any w A n c lo hi l Hn.out hm hr hh).mono ?_
  rintro e w2 ⟨r, rfl, hany, hr1, e2⟩
  have HA := Lib.hid hany
  clear hany
  go_wp2_with fail
  go_ret
  exact ⟨by rw [HA.out]; rfl, e2⟩
set_option maxHeartbeats 400000 in
theorem bidx_any (w : World) (A : Option Addr) (n c lo hi : Nat) (l : List UInt8) (hn : n = l.length) (hm : n ≤ 9223372036854775807) (hr : Rd w lo hi A (bytes l)) (hh : hi ≤ w.heap.size) :
    Calls Tryz.prog 121 #[.slice A n c, .func (.func 127) #[] #[]] w fun e w' => ∃ r : Int, e = .returned (.int .i64 r) ∧ l.any badB = decide (0 ≤ r) ∧ -1 ≤ r ∧ Ext w w' := by
  have Hn := Lib.hid hn
  clear hn
  go_enter Tryz.func121, Tryz.ntmps121
  go_wp2_with fail
  go_loopw [8] (fun i wr => ∃ k : Nat, k ≤ n ∧ i = .int .i64 k ∧ (l.take k).any badB = false ∧ Ext w wr) (fun i _ => n - (intOf i).toNat)
  case atStart => exact ⟨0, Nat.zero_le _, rfl, rfl, Ext.refl _⟩
  case round =>
    obtain ⟨k, hk, rfl, hno, e1⟩ := hrel
    have HK := Lib.hid hno
    clear hno
    by_cases hlt : k < n
    · obtain ⟨b1, o1, rfl, _, _, f0⟩ := rd_byte (hr.ext e1 hh) (k := k) (by rw [← Hn.out]; omega)
      have hl : k < l.length := by rw [← Hn.out]; omega
      obtain ⟨y, hy⟩ : ∃ y, y = l[k]'hl := ⟨_, rfl⟩
      rw [← hy] at f0
      have HY := Lib.hid hy
      clear hy
      go_wp2_with fail
      refine (badB_any y _).mono ?_
      rintro e w2 ⟨rfl, e2⟩
      cases ho : badB y
      · go_wp2_with fail
        go_roundw
        case rel =>
          refine ⟨k + 1, by omega, by go_num, ?_, by (repeat (first | exact Below.refl _ _ | exact Ext.refl _ | assumption | refine Below.drew ?_ | refine below_drewN ?_ _ | refine below_alloc ?_ (by first | exact Nat.le_refl _ | assumption | (simp; done) | omega | (simp; omega)) _ | refine below_ext ?_ (by assumption) (by first | exact Nat.le_refl _ | assumption | (simp; done) | omega | (simp; omega)) | refine Ext.drew ?_ | refine Ext.drewN ?_ _ | refine Ext.alloc ?_ _ | refine Ext.setCell ?_ (by first | assumption | (simp; done) | (simp; omega)) _ | refine Below.setCell ?_ (by first | assumption | (simp; done) | (simp; omega)) _ | refine Ext.trans ?_ (by assumption)))⟩
          rw [List.take_succ_eq_append_getElem hl, List.any_append, HK.out, ← HY.out]
          simp [ho]
        case measure => simp [intOf]; omega
      · go_wp2_with fail
        go_ret
        refine ⟨k, rfl, ?_, by omega, by (repeat (first | exact Below.refl _ _ | exact Ext.refl _ | assumption | refine Below.drew ?_ | refine below_drewN ?_ _ | refine below_alloc ?_ (by first | exact Nat.le_refl _ | assumption | (simp; done) | omega | (simp; omega)) _ | refine below_ext ?_ (by assumption) (by first | exact Nat.le_refl _ | assumption | (simp; done) | omega | (simp; omega)) | refine Ext.drew ?_ | refine Ext.drewN ?_ _ | refine Ext.alloc ?_ _ | refine Ext.setCell ?_ (by first | assumption | (simp; done) | (simp; omega)) _ | refine Below.setCell ?_ (by first | assumption | (simp; done) | (simp; omega)) _ | refine Ext.trans ?_ (by assumption)))⟩
        have h1 : l.any badB = true := List.any_eq_true.2 ⟨y, by rw [HY.out]; exact List.getElem_mem _, ho⟩
        rw [h1]
        simp
    · go_wp2_with fail
      go_ret
      obtain rfl : k = n := by omega
      have h1 := HK.out
      rw [List.take_of_length_le (by rw [← Hn.out]; exact Nat.le_refl _)] at h1
      exact ⟨-1, rfl, by rw [h1]; rfl, by omega, e1⟩

set_option maxHeartbeats 400000 in
theorem bcont_any (w : World) (A : Option Addr) (n c lo hi : Nat) (l : List UInt8) (hn : n = l.length) (hm : n ≤ 9223372036854775807) (hr : Rd w lo hi A (bytes l)) (hh : hi ≤ w.heap.size) :
    Calls Tryz.prog 93 #[.slice A n c, .func (.func 127) #[] #[]] w fun e w' => e = .returned (.bool (l.any badB)) ∧ Ext w w' := by
  have Hn := Lib.hid hn
  clear hn
  go_enter Tryz.func93, Tryz.ntmps93
  go_wp2_with fail
  refine (bidx_any w A n c lo hi l Hn.out hm hr hh).mono ?_
  rintro e w2 ⟨r, rfl, hany, hr1, e2⟩
  have HA := Lib.hid hany
  clear hany
  go_wp2_with fail
  go_ret
  exact ⟨by rw [HA.out]; rfl, e2⟩
end Go.Proofs.YtmecjjmlccdppaaGreatDoor
/- The walks of names.Name, props.value and the reference's Name and value. -/
namespace Go.Proofs.YtmecjjmlccdppaaGreatDoor
open Go.RowKit

def nameB (s : ByteArray) : Bool := decide (0 < s.size) && decide (s.size ≤ 16) && !(s.data.toList.any oddB)
def valB (s : ByteArray) : Bool := decide (s.size ≤ 32) && !(s.data.toList.any badB)

set_option maxHeartbeats 400000 in
theorem name_any (s : ByteArray) (w : World) (hm : s.size ≤ 9223372036854775807) : Calls Tryz.prog 57 #[.string s] w fun e w' => e = .returned (.bool (nameB s)) ∧ Ext w w' := by
  by_cases h0 : s.size = 0
  · obtain rfl := empty_of s h0
    go_enter Tryz.func57, Tryz.ntmps57
    go_wp2_with fail
    go_ret
    exact ⟨rfl, Ext.refl _⟩
  · have b0 : s.toList.isEmpty = false := by
      rw [ByteArray.toList_eq, List.isEmpty_eq_false_iff]
      intro e
      have := len_data s
      rw [e] at this
      exact h0 this.symm
    by_cases h16 : 16 < s.size
    · have hv : Hid (nameB s = false) := by simp [Hid, nameB]; omega
      go_enter Tryz.func57, Tryz.ntmps57
      go_wp2_with fail
      go_ret
      exact ⟨by rw [hv.out]; rfl, Ext.refl _⟩
    · have hv : Hid (nameB s = !(s.data.toList.any oddB)) := by
        have h1 : decide (0 < s.size) = true := by simp; omega
        have h2 : decide (s.size ≤ 16) = true := by simp; omega
        rw [Hid, nameB, h1, h2]; rfl
      have hcv := fun W => run_bytes_of_string (P := Tryz.prog) W 9 57 5 s Tryz.underlying9 Tryz.underlying57 Tryz.underlying5
      have hrd := rd_bytesRow w s (grownCap w s.size 0 5) 5 ((bytesRow s (grownCap w s.size 0 5)).size, (bytesRow s (grownCap w s.size 0 5)).size + 1)
      have HR := Lib.hid hrd
      clear hrd
      go_enter Tryz.func57, Tryz.ntmps57
      go_wp2_with fail
      clear hcv
      refine (ocont_any _ (some ⟨w.heap.size, 0, none⟩) s.size _ w.heap.size (w.heap.size + 1) s.data.toList (by rw [len_data]) hm HR.out.drew (by simp)).mono ?_
      rintro e w2 ⟨rfl, e2⟩
      generalize s.data.toList.any oddB = X at *
      go_wp2_with fail
      go_ret
      exact ⟨by rw [hv.out]; rfl, by (repeat (first | exact Below.refl _ _ | exact Ext.refl _ | assumption | refine Below.drew ?_ | refine below_drewN ?_ _ | refine below_alloc ?_ (by first | exact Nat.le_refl _ | assumption | (simp; done) | omega | (simp; omega)) _ | refine below_ext ?_ (by assumption) (by first | exact Nat.le_refl _ | assumption | (simp; done) | omega | (simp; omega)) | refine Ext.drew ?_ | refine Ext.drewN ?_ _ | refine Ext.alloc ?_ _ | refine Ext.setCell ?_ (by first | assumption | (simp; done) | (simp; omega)) _ | refine Below.setCell ?_ (by first | assumption | (simp; done) | (simp; omega)) _ | refine Ext.trans ?_ (by assumption)))⟩

set_option maxHeartbeats 400000 in
theorem value_any (s : ByteArray) (w : World) (hm : s.size ≤ 9223372036854775807) : Calls Tryz.prog 109 #[.string s] w fun e w' => e = .returned (.bool (valB s)) ∧ Ext w w' := by
  by_cases h16 : 32 < s.size
  · have hv : Hid (valB s = false) := by simp [Hid, valB]; omega
    go_enter Tryz.func109, Tryz.ntmps109
    go_wp2_with fail
    go_ret
    exact ⟨by rw [hv.out]; rfl, Ext.refl _⟩
  · have hv : Hid (valB s = !(s.data.toList.any badB)) := by
      have h2 : decide (s.size ≤ 32) = true := by simp; omega
      rw [Hid, valB, h2]; rfl
    have hcv := fun W => run_bytes_of_string (P := Tryz.prog) W 9 57 5 s Tryz.underlying9 Tryz.underlying57 Tryz.underlying5
    have hrd := rd_bytesRow w s (grownCap w s.size 0 5) 5 ((bytesRow s (grownCap w s.size 0 5)).size, (bytesRow s (grownCap w s.size 0 5)).size + 1)
    have HR := Lib.hid hrd
    clear hrd
    go_enter Tryz.func109, Tryz.ntmps109
    go_wp2_with fail
    clear hcv
    refine (bcont_any _ (some ⟨w.heap.size, 0, none⟩) s.size _ w.heap.size (w.heap.size + 1) s.data.toList (by rw [len_data]) hm HR.out.drew (by simp)).mono ?_
    rintro e w2 ⟨rfl, e2⟩
    generalize s.data.toList.any badB = X at *
    go_wp2_with fail
    go_ret
    exact ⟨by rw [hv.out]; rfl, by (repeat (first | exact Below.refl _ _ | exact Ext.refl _ | assumption | refine Below.drew ?_ | refine below_drewN ?_ _ | refine below_alloc ?_ (by first | exact Nat.le_refl _ | assumption | (simp; done) | omega | (simp; omega)) _ | refine below_ext ?_ (by assumption) (by first | exact Nat.le_refl _ | assumption | (simp; done) | omega | (simp; omega)) | refine Ext.drew ?_ | refine Ext.drewN ?_ _ | refine Ext.alloc ?_ _ | refine Ext.setCell ?_ (by first | assumption | (simp; done) | (simp; omega)) _ | refine Below.setCell ?_ (by first | assumption | (simp; done) | (simp; omega)) _ | refine Ext.trans ?_ (by assumption)))⟩

set_option maxHeartbeats 400000 in
theorem rname_any (s : ByteArray) (w : World) (hm : s.size ≤ 9223372036854775807) : Calls Tryz.prog 61 #[.string s] w fun e w' => e = .returned (.bool (nameB s)) ∧ Ext w w' := by
  have HD := Lib.hid (len_data s)
  go_enter Tryz.func61, Tryz.ntmps61
  go_wp2_with fail
  go_loopw [3] (fun i wr => ∃ k : Nat, k ≤ s.size ∧ i = .int .i64 k ∧ Hid ((s.data.toList.take k).any oddB = false) ∧ Ext w wr) (fun i _ => s.size - (intOf i).toNat)
  case atStart => exact ⟨0, Nat.zero_le _, rfl, by rw [Hid]; rfl, Ext.refl _⟩
  case round =>
    obtain ⟨k, hk, rfl, HK, e1⟩ := hrel
    by_cases hlt : k < s.size
    · have hl : k < s.data.toList.length := by rw [HD.out]; exact hlt
      obtain ⟨y, hy⟩ : ∃ y, s[k]'hlt = y := ⟨_, rfl⟩
      have HY : Hid (s.data.toList[k]'hl = y) := hy
      go_wp2_with fail
      refine (letter_any y _).mono ?_
      rintro e w2 ⟨rfl, e2⟩
      cases ho : oddB y
      · go_wp2_with fail
        go_roundw
        case rel =>
          refine ⟨k + 1, by omega, by go_num, Lib.hid ?_, by (repeat (first | exact Below.refl _ _ | exact Ext.refl _ | assumption | refine Below.drew ?_ | refine below_drewN ?_ _ | refine below_alloc ?_ (by first | exact Nat.le_refl _ | assumption | (simp; done) | omega | (simp; omega)) _ | refine below_ext ?_ (by assumption) (by first | exact Nat.le_refl _ | assumption | (simp; done) | omega | (simp; omega)) | refine Ext.drew ?_ | refine Ext.drewN ?_ _ | refine Ext.alloc ?_ _ | refine Ext.setCell ?_ (by first | assumption | (simp; done) | (simp; omega)) _ | refine Below.setCell ?_ (by first | assumption | (simp; done) | (simp; omega)) _ | refine Ext.trans ?_ (by assumption)))⟩
          rw [List.take_succ_eq_append_getElem hl, List.any_append, HK.out, HY.out]
          simp [ho]
        case measure => simp [intOf]; omega
      · have hv : Hid (nameB s = false) := by
          have h1 : s.data.toList.any oddB = true := List.any_eq_true.2 ⟨y, by rw [← HY.out]; exact List.getElem_mem _, ho⟩
          rw [Hid, nameB, h1]
          simp
        go_wp2_with fail
        go_ret
        exact ⟨by rw [hv.out]; rfl, by (repeat (first | exact Below.refl _ _ | exact Ext.refl _ | assumption | refine Below.drew ?_ | refine below_drewN ?_ _ | refine below_alloc ?_ (by first | exact Nat.le_refl _ | assumption | (simp; done) | omega | (simp; omega)) _ | refine below_ext ?_ (by assumption) (by first | exact Nat.le_refl _ | assumption | (simp; done) | omega | (simp; omega)) | refine Ext.drew ?_ | refine Ext.drewN ?_ _ | refine Ext.alloc ?_ _ | refine Ext.setCell ?_ (by first | assumption | (simp; done) | (simp; omega)) _ | refine Below.setCell ?_ (by first | assumption | (simp; done) | (simp; omega)) _ | refine Ext.trans ?_ (by assumption)))⟩
    · obtain rfl : k = s.size := by omega
      have h1 : s.data.toList.any oddB = false := by
        have h1 := HK.out
        rwa [List.take_of_length_le (by rw [HD.out]; exact Nat.le_refl _)] at h1
      have hv : Hid (nameB s = (decide (0 < s.size) && decide (s.size ≤ 16))) := by rw [Hid, nameB, h1]; simp
      clear h1
      by_cases hz : s.size = 0
      · have h2 : (decide (0 < s.size) && decide (s.size ≤ 16)) = false := by simp; omega
        have t1 : ¬ (1 : Int) ≤ (s.size : Int) := by omega
        go_wp2_with fail
        go_ret
        exact ⟨by rw [hv.out, h2]; rfl, e1⟩
      · have t1 : (1 : Int) ≤ (s.size : Int) := by omega
        by_cases h16 : 16 < s.size
        · have h2 : (decide (0 < s.size) && decide (s.size ≤ 16)) = false := by simp; omega
          have t2 : ¬ (s.size : Int) ≤ 16 := by omega
          go_wp2_with fail
          go_ret
          exact ⟨by rw [hv.out, h2]; first | rfl | (simp; omega), e1⟩
        · have h2 : (decide (0 < s.size) && decide (s.size ≤ 16)) = true := by simp; omega
          have t2 : (s.size : Int) ≤ 16 := by omega
          go_wp2_with fail
          go_ret
          exact ⟨by rw [hv.out, h2]; first | rfl | (simp; omega), e1⟩

set_option maxHeartbeats 400000 in
theorem rvalue_any (s : ByteArray) (w : World) (hm : s.size ≤ 9223372036854775807) : Calls Tryz.prog 90 #[.string s] w fun e w' => e = .returned (.bool (valB s)) ∧ Ext w w' := by
  have HD := Lib.hid (len_data s)
  go_enter Tryz.func90, Tryz.ntmps90
  go_wp2_with fail
  go_loopw [3] (fun i wr => ∃ k : Nat, k ≤ s.size ∧ i = .int .i64 k ∧ Hid ((s.data.toList.take k).any badB = false) ∧ Ext w wr) (fun i _ => s.size - (intOf i).toNat)
  case atStart => exact ⟨0, Nat.zero_le _, rfl, by rw [Hid]; rfl, Ext.refl _⟩
  case round =>
    obtain ⟨k, hk, rfl, HK, e1⟩ := hrel
    by_cases hlt : k < s.size
    · have hl : k < s.data.toList.length := by rw [HD.out]; exact hlt
      obtain ⟨y, hy⟩ : ∃ y, s[k]'hlt = y := ⟨_, rfl⟩
      have HY : Hid (s.data.toList[k]'hl = y) := hy
      cases ho : badB y
      · obtain ⟨t1, t2⟩ : ¬ (y.toNat : Int) < 32 ∧ ¬ (126 : Int) < (y.toNat : Int) := by
          simp only [badB, badN, Bool.or_eq_false_iff, decide_eq_false_iff_not] at ho
          exact ho
        go_wp2_with fail
        go_roundw
        case rel =>
          refine ⟨k + 1, by omega, by go_num, Lib.hid ?_, by (repeat (first | exact Below.refl _ _ | exact Ext.refl _ | assumption | refine Below.drew ?_ | refine below_drewN ?_ _ | refine below_alloc ?_ (by first | exact Nat.le_refl _ | assumption | (simp; done) | omega | (simp; omega)) _ | refine below_ext ?_ (by assumption) (by first | exact Nat.le_refl _ | assumption | (simp; done) | omega | (simp; omega)) | refine Ext.drew ?_ | refine Ext.drewN ?_ _ | refine Ext.alloc ?_ _ | refine Ext.setCell ?_ (by first | assumption | (simp; done) | (simp; omega)) _ | refine Below.setCell ?_ (by first | assumption | (simp; done) | (simp; omega)) _ | refine Ext.trans ?_ (by assumption)))⟩
          rw [List.take_succ_eq_append_getElem hl, List.any_append, HK.out, HY.out]
          simp [ho]
        case measure => simp [intOf]; omega
      · have hv : Hid (valB s = false) := by
          have h1 : s.data.toList.any badB = true := List.any_eq_true.2 ⟨y, by rw [← HY.out]; exact List.getElem_mem _, ho⟩
          rw [Hid, valB, h1]
          simp
        have ho2 : (y.toNat : Int) < 32 ∨ (¬ (y.toNat : Int) < 32 ∧ (126 : Int) < (y.toNat : Int)) := by
          simp only [badB, badN, Bool.or_eq_true, decide_eq_true_eq] at ho
          omega
        clear ho
        rcases ho2 with t1 | ⟨t1, t2⟩
        · go_wp2_with fail
          go_ret
          exact ⟨by rw [hv.out]; rfl, e1⟩
        · go_wp2_with fail
          go_ret
          exact ⟨by rw [hv.out]; rfl, e1⟩
    · obtain rfl : k = s.size := by omega
      have h1 : s.data.toList.any badB = false := by
        have h1 := HK.out
        rwa [List.take_of_length_le (by rw [HD.out]; exact Nat.le_refl _)] at h1
      have hv : Hid (valB s = decide (s.size ≤ 32)) := by rw [Hid, valB, h1]; simp
      clear h1
      by_cases h16 : 32 < s.size
      · have h2 : decide (s.size ≤ 32) = false := by simp; omega
        have t2 : ¬ (s.size : Int) ≤ 32 := by omega
        go_wp2_with fail
        go_ret
        exact ⟨by rw [hv.out, h2]; first | rfl | (simp; omega), e1⟩
      · have h2 : decide (s.size ≤ 32) = true := by simp; omega
        have t2 : (s.size : Int) ≤ 32 := by omega
        go_wp2_with fail
        go_ret
        exact ⟨by rw [hv.out, h2]; first | rfl | (simp; omega), e1⟩
end Go.Proofs.YtmecjjmlccdppaaGreatDoor
