/- The texts Sumo, Pg in one file. -/
import Derived.Test.YtfongpdeflfioaaGreatK11
import Derived.Test.YtfongpdeflfioaaGreatK10
/- A sum's octets: fletch.Octets, the reference's SumOctets. -/
namespace Go.Proofs.YtfongpdeflfioaaGreat
open Go.RowKit
set_option linter.unusedVariables false
set_option linter.unusedSimpArgs false

def sumO (s : Su) : List UInt8 := puts s.a 8 ++ puts s.b 8 ++ puts s.c 8 ++ puts s.d 8
theorem sumO_length (s : Su) : (sumO s).length = 32 := by simp [sumO, puts_length]
theorem bt_i64 (x : Int) (j : Nat) (hj : j < 8) : bt (IntKind.i64.wrap x) j = bt x j := by
  unfold bt
  congr 2
  rw [IntKind.wrap_i64]
  rcases (show j = 0 ∨ j = 1 ∨ j = 2 ∨ j = 3 ∨ j = 4 ∨ j = 5 ∨ j = 6 ∨ j = 7 by omega) with rfl | rfl | rfl | rfl | rfl | rfl | rfl | rfl <;> simp <;> omega
theorem puts_i64 (x : Int) : puts (IntKind.i64.wrap x) 8 = puts x 8 := by
  unfold puts
  refine List.map_congr_left fun j hj => ?_
  rw [List.mem_range] at hj
  exact bt_i64 x _ (by omega)
theorem puts_take' (x : Int) (m k : Nat) (hk : k < m) : (puts x m).take (k + 1) = (puts x m).take k ++ [bt x (m - 1 - k)] := by
  rw [List.take_succ_eq_append_getElem (by rw [puts_length]; exact hk)]
  simp [puts]

set_option maxRecDepth 100000 in
set_option maxHeartbeats 1000000 in
theorem eight_any (x : Int) (w : World) (hx1 : 0 ≤ x) (hx2 : x ≤ 18446744073709551615) :
    Calls Tryz.prog 134 #[.int .u64 x] w fun e w' => ∃ v, e = .returned v ∧ w'.ownsRow w.heap.size 5 1 v 8 (bytes (puts x 8)) ∧ Ext w w' := by
  obtain ⟨i0, hi0, hz0, hz1, hz2⟩ := info_parts info5
  have HX := Lib.hid hx2
  clear hx2
  go_enter Tryz.func134, Tryz.ntmps134
  go_wp2_with fail
  go_loopw [3, 4] (fun v i wr => ∃ k : Nat, k ≤ 8 ∧ i = .int .i64 (7 - (k : Int)) ∧ Hid (wr.ownsRow w.heap.size 5 1 v k (bytes ((puts x 8).take k))) ∧ Ext w wr) (fun _ i _ => (intOf i + 1).toNat)
  case atStart => exact ⟨0, Nat.zero_le _, rfl, Lib.hid (World.ownsRow_nil _ _ _ _), Ext.refl _⟩
  case round =>
    obtain ⟨k, hk, rfl, hown, e1⟩ := hrel
    by_cases hlt : k < 8
    · have htx := Lib.hid (puts_take' x 8 k hlt)
      obtain ⟨j, hj⟩ : ∃ j : Nat, 8 - 1 - k = j := ⟨_, rfl⟩
      have hji : 7 - (k : Int) = j := by omega
      have hj8 : j < 8 := by omega
      rw [hj] at htx
      rw [hji]
      go_wp2_with
        (at_builtin
         refine list_app _ rfl (.tmp 9) (.tmp 15) _ rfl 5 i0 _ 1 1 Tryz.underlying33 hi0 hz0 hz1 hz2 rfl (by omega) w.heap.size _ k _ rfl (own_ext hown.out ((Ext.refl _).alloc _)) 0 _ _ 1 1 [.int .u8 (x / 2 ^ (8 * j) % 256)] rfl rfl
           ((rd_new _ _ _).more (Nat.zero_le _) (Nat.le_refl _)) (by simp [Value.oneCell']) (by simp only [maxLen]; omega) (by omega) (by have := e1.size; simp; omega) ?_
         intro v2 w2 hown2 he2 _ _
         have e3 : Ext w w2 := he2 _ (e1.alloc _) (Nat.le_refl _)
         clear he2)
      go_roundw
      case rel =>
        refine ⟨k + 1, by omega, by go_num, ?_, e3⟩
        rw [htx.out, bytes_append]
        have hb : bytes [bt x j] = [.int .u8 (x / 2 ^ (8 * j) % 256)] := by
          have h1 : (256 : Int) ^ j = 2 ^ (8 * j) := by rw [Int.pow_mul]; rfl
          have h2 := bt_zero (x / 256 ^ j)
          have h3 : bt x j = bt (x / 256 ^ j) 0 := by simp [bt]
          rw [h3, bytes, List.map_cons, List.map_nil, h2, h1]
        rw [hb]
        exact Lib.hid hown2
      case measure => (first | (simp [intOf]; done) | (simp [intOf]; omega))
    · go_wp2_with fail
      obtain rfl : k = 8 := by omega
      go_ret
      exact ⟨_, rfl, by have := hown.out; rwa [List.take_of_length_le (by rw [puts_length]; exact Nat.le_refl _)] at this, e1⟩

def Su.wf (s : Su) : Prop := (0 ≤ s.a ∧ s.a ≤ 18446744073709551615) ∧ (0 ≤ s.b ∧ s.b ≤ 18446744073709551615) ∧ (0 ≤ s.c ∧ s.c ≤ 18446744073709551615) ∧ (0 ≤ s.d ∧ s.d ≤ 18446744073709551615)

set_option maxRecDepth 100000 in
set_option maxHeartbeats 4000000 in
theorem sumoctets_any (s : Su) (w : World) (hs : s.wf) :
    Calls Tryz.prog 108 #[.agg s.cells.toArray] w fun e w' => ∃ v, e = .returned v ∧ w'.ownsRow w.heap.size 5 1 v 32 (bytes (sumO s)) ∧ Ext w w' := by
  obtain ⟨i0, hi0, hz0, hz1, hz2⟩ := info_parts info5
  obtain ⟨sa, sb, sc, sd⟩ := s
  have HE := Lib.hid (show sumO ⟨sa, sb, sc, sd⟩ = puts sa 8 ++ puts sb 8 ++ puts sc 8 ++ puts sd 8 from rfl)
  have HS := Lib.hid hs
  clear hs
  simp only [Su.cells]
  go_enter Tryz.func108, Tryz.ntmps108
  go_wp2_with fail
  generalize hwH : World.alloc w _ = w1; have HH := Lib.hid (Heap.one hwH); clear hwH
  have HH0 := Lib.hid HH.out.drew
  clear HH
  have HH := HH0
  clear HH0
  refine wp_region_held_drew (S := Heap w [.box w.heap.size [.int .u64 sa, .int .u64 sb, .int .u64 sc, .int .u64 sd]]) (by kernel_rfl) HH.out (fun hHeld => ?_)
  refine takeL 0 (v := ?_) rfl (by kernel_rfl) (by kernel_rfl) (by kernel_rfl) (fun _ _ _ h => h) (by kernel_rfl) ?_ (by assumption) ?_; rotate_left; (focus (intro w hSw; (try dsimp only at hSw); go_simp <;> with_reducible rfl)); (try simp only [Act.put, lyA, lyB, lyC])
  refine takeL 1 rfl (by kernel_rfl) (by kernel_rfl) (by kernel_rfl) (fun _ _ _ h => h) (by kernel_rfl) (fun wT hST => sh_run_load1 hST rfl rfl 0 rfl rfl (by kernel_rfl)) hHeld ?_; (try simp only [Act.put, lyA, lyB, lyC])
  refine takeL 3 (v := ?_) rfl (by kernel_rfl) (by kernel_rfl) (by kernel_rfl) (fun _ _ _ h => h) (by kernel_rfl) ?_ (by assumption) ?_; rotate_left; (focus (intro w hSw; (try dsimp only at hSw); go_simp <;> with_reducible rfl)); (try simp only [Act.put, lyA, lyB, lyC])
  refine takeL 4 rfl (by kernel_rfl) (by kernel_rfl) (by kernel_rfl) (fun _ _ _ h => h) (by kernel_rfl) (fun wT hST => sh_run_load1 hST rfl rfl 0 rfl rfl (by kernel_rfl)) hHeld ?_; (try simp only [Act.put, lyA, lyB, lyC])
  refine takeL 7 (v := ?_) rfl (by kernel_rfl) (by kernel_rfl) (by kernel_rfl) (fun _ _ _ h => h) (by kernel_rfl) ?_ (by assumption) ?_; rotate_left; (focus (intro w hSw; (try dsimp only at hSw); go_simp <;> with_reducible rfl)); (try simp only [Act.put, lyA, lyB, lyC])
  refine takeL 8 rfl (by kernel_rfl) (by kernel_rfl) (by kernel_rfl) (fun _ _ _ h => h) (by kernel_rfl) (fun wT hST => sh_run_load1 hST rfl rfl 0 rfl rfl (by kernel_rfl)) hHeld ?_; (try simp only [Act.put, lyA, lyB, lyC])
  refine takeL 11 (v := ?_) rfl (by kernel_rfl) (by kernel_rfl) (by kernel_rfl) (fun _ _ _ h => h) (by kernel_rfl) ?_ (by assumption) ?_; rotate_left; (focus (intro w hSw; (try dsimp only at hSw); go_simp <;> with_reducible rfl)); (try simp only [Act.put, lyA, lyB, lyC])
  refine takeL 12 rfl (by kernel_rfl) (by kernel_rfl) (by kernel_rfl) (fun _ _ _ h => h) (by kernel_rfl) (fun wT hST => sh_run_load1 hST rfl rfl 0 rfl rfl (by kernel_rfl)) hHeld ?_; (try simp only [Act.put, lyA, lyB, lyC])
  clear hHeld
  refine oneL 2 rfl (by kernel_rfl) (by kernel_rfl) (fun K hK => ?_)
  go_simp
  refine (eight_any sa _ HS.out.1.1 HS.out.1.2).mono ?_
  rintro e w2 ⟨v2, rfl, hown2, e2⟩
  have HH2 := Lib.hid (HH.out.addRow e2 hown2)
  clear HH hown2 e2
  go_wp2_with fail
  refine hK.out _ _ HH2.out.tail (fun hHeld => ?_); clear hK K; (try simp only [Act.put, lyA, lyB, lyC])
  clear hHeld
  refine oneL 5 rfl (by kernel_rfl) (by kernel_rfl) (fun K hK => ?_)
  go_simp
  refine (eight_any sb _ HS.out.2.1.1 HS.out.2.1.2).mono ?_
  rintro e w3 ⟨v3, rfl, hown3, e3⟩
  obtain ⟨A3, c3, rfl, _, _, _⟩ := own_form hown3
  have HH3 := Lib.hid (HH2.out.addRow e3 hown3)
  clear HH2 hown3 e3
  go_wp2_with fail
  refine hK.out _ _ HH3.out.tail.tail (fun hHeld => ?_); clear hK K; (try simp only [Act.put, lyA, lyB, lyC])
  clear hHeld
  refine oneL 6 rfl (by kernel_rfl) (by kernel_rfl) (fun K hK => ?_)
  refine sh_app (.tmp 5) (.tmp 8) _ rfl Tryz.underlying33 hi0 hz0 hz1 hz2 rfl (by omega) HH3.out 1 rfl rfl (m := 8) rfl (by rw [bytes_length, puts_length]) (Rd.of_own (HH3.out.rowAt 0 rfl)) (bytes_one _) (by simp only [maxLen]; omega) (by omega) ?_
  rintro v4 w4 hh4 ⟨A4, c4, rfl⟩
  have HH4 := Lib.hid hh4
  clear hh4 HH3
  refine hK.out _ _ HH4.out.tail.tail (fun hHeld => ?_); clear hK K; (try simp only [Act.put, lyA, lyB, lyC])
  clear hHeld
  refine oneL 9 rfl (by kernel_rfl) (by kernel_rfl) (fun K hK => ?_)
  go_simp
  refine (eight_any sc _ HS.out.2.2.1.1 HS.out.2.2.1.2).mono ?_
  rintro e w5 ⟨v5, rfl, hown5, e5⟩
  obtain ⟨A5, c5, rfl, _, _, _⟩ := own_form hown5
  have HH5 := Lib.hid (HH4.out.addRow e5 hown5)
  clear HH4 hown5 e5
  go_wp2_with fail
  refine hK.out _ _ HH5.out.tail.tail.tail (fun hHeld => ?_); clear hK K; (try simp only [Act.put, lyA, lyB, lyC])
  clear hHeld
  refine oneL 10 rfl (by kernel_rfl) (by kernel_rfl) (fun K hK => ?_)
  refine sh_app (.tmp 9) (.tmp 12) _ rfl Tryz.underlying33 hi0 hz0 hz1 hz2 rfl (by omega) HH5.out 2 rfl rfl (m := 8) rfl (by rw [bytes_length, puts_length]) (Rd.of_own (HH5.out.rowAt 0 rfl)) (bytes_one _) (by simp only [maxLen]; omega) (by omega) ?_
  rintro v6 w6 hh6 ⟨A6, c6, rfl⟩
  have HH6 := Lib.hid hh6
  clear hh6 HH5
  refine hK.out _ _ HH6.out.tail.tail.tail (fun hHeld => ?_); clear hK K; (try simp only [Act.put, lyA, lyB, lyC])
  clear hHeld
  refine oneL 13 rfl (by kernel_rfl) (by kernel_rfl) (fun K hK => ?_)
  go_simp
  refine (eight_any sd _ HS.out.2.2.2.1 HS.out.2.2.2.2).mono ?_
  rintro e w7 ⟨v7, rfl, hown7, e7⟩
  obtain ⟨A7, c7, rfl, _, _, _⟩ := own_form hown7
  have HH7 := Lib.hid (HH6.out.addRow e7 hown7)
  clear HH6 hown7 e7
  go_wp2_with fail
  refine hK.out _ _ HH7.out.tail.tail.tail.tail (fun hHeld => ?_); clear hK K; (try simp only [Act.put, lyA, lyB, lyC])
  clear hHeld
  refine oneL 14 rfl (by kernel_rfl) (by kernel_rfl) (fun K hK => ?_)
  refine sh_app (.tmp 13) (.tmp 16) _ rfl Tryz.underlying33 hi0 hz0 hz1 hz2 rfl (by omega) HH7.out 3 rfl rfl (m := 8) rfl (by rw [bytes_length, puts_length]) (Rd.of_own (HH7.out.rowAt 0 rfl)) (bytes_one _) (by simp only [maxLen]; omega) (by omega) ?_
  rintro v8 w8 hh8 ⟨A8, c8, rfl⟩
  have HH8 := Lib.hid hh8
  clear hh8 HH7
  refine hK.out _ _ HH8.out.tail.tail.tail.tail (fun hHeld => ?_); clear hK K; (try simp only [Act.put, lyA, lyB, lyC])
  refine takeL 15 (v := ?_) rfl (by kernel_rfl) (by kernel_rfl) (by kernel_rfl) (fun _ _ _ h => h) (by kernel_rfl) ?_ (by assumption) ?_; rotate_left; (focus (intro w hSw; (try dsimp only at hSw); go_simp <;> with_reducible rfl)); (try simp only [Act.put, lyA, lyB, lyC])
  refine wpAnyH_done (by kernel_rfl) ?_ _
  go_wp2_with fail
  go_ret
  refine ⟨_, rfl, ?_, HH8.out.ext⟩
  have := HH8.out.rowAt 3 rfl
  rw [HE.out, bytes_append, bytes_append, bytes_append]
  exact this

set_option maxRecDepth 100000 in
set_option maxHeartbeats 4000000 in
theorem octets_any (s : Su) (w : World) (hs : s.wf) :
    Calls Tryz.prog 100 #[.agg s.cells.toArray] w fun e w' => ∃ v, e = .returned v ∧ w'.ownsRow w.heap.size 5 1 v 32 (bytes (sumO s)) ∧ Ext w w' := by
  obtain ⟨sa, sb, sc, sd⟩ := s
  have HE := Lib.hid (show sumO ⟨sa, sb, sc, sd⟩ = puts sa 8 ++ puts sb 8 ++ puts sc 8 ++ puts sd 8 from rfl)
  have hb : ∀ x : Int, -9223372036854775808 ≤ IntKind.i64.wrap x ∧ IntKind.i64.wrap x ≤ 9223372036854775807 := fun x => by rw [IntKind.wrap_i64]; omega
  have HA := Lib.hid (hb sa)
  have HB := Lib.hid (hb sb)
  have HC := Lib.hid (hb sc)
  have HD := Lib.hid (hb sd)
  have PA := Lib.hid (puts_i64 sa)
  have PB := Lib.hid (puts_i64 sb)
  have PC := Lib.hid (puts_i64 sc)
  have PD := Lib.hid (puts_i64 sd)
  clear hb
  simp only [Su.cells]
  go_enter Tryz.func100, Tryz.ntmps100
  go_wp2_with fail
  generalize hwH : World.alloc w _ = w1; have HH := Lib.hid (Heap.one hwH); clear hwH
  have HH0 := Lib.hid HH.out.drew
  clear HH
  refine wp_region_held_drew (S := Heap w [.box w.heap.size [.int .u64 sa, .int .u64 sb, .int .u64 sc, .int .u64 sd]]) (by kernel_rfl) HH0.out (fun hHeld => ?_)
  refine takeL 0 (v := ?_) rfl (by kernel_rfl) (by kernel_rfl) (by kernel_rfl) (fun _ _ _ h => h) (by kernel_rfl) ?_ (by assumption) ?_; rotate_left; (focus (intro w hSw; (try dsimp only at hSw); go_simp <;> with_reducible rfl)); (try simp only [Act.put, lyA, lyB, lyC])
  refine takeL 1 rfl (by kernel_rfl) (by kernel_rfl) (by kernel_rfl) (fun _ _ _ h => h) (by kernel_rfl) (fun wT hST => sh_run_load1 hST rfl rfl 0 rfl rfl (by kernel_rfl)) hHeld ?_; (try simp only [Act.put, lyA, lyB, lyC])
  refine takeL 2 (v := ?_) rfl (by kernel_rfl) (by kernel_rfl) (by kernel_rfl) (fun _ _ _ h => h) (by kernel_rfl) ?_ (by assumption) ?_; rotate_left; (focus (intro w hSw; (try dsimp only at hSw); go_simp <;> with_reducible rfl)); (try simp only [Act.put, lyA, lyB, lyC])
  refine takeL 4 (v := ?_) rfl (by kernel_rfl) (by kernel_rfl) (by kernel_rfl) (fun _ _ _ h => h) (by kernel_rfl) ?_ (by assumption) ?_; rotate_left; (focus (intro w hSw; (try dsimp only at hSw); go_simp <;> with_reducible rfl)); (try simp only [Act.put, lyA, lyB, lyC])
  refine takeL 5 rfl (by kernel_rfl) (by kernel_rfl) (by kernel_rfl) (fun _ _ _ h => h) (by kernel_rfl) (fun wT hST => sh_run_load1 hST rfl rfl 0 rfl rfl (by kernel_rfl)) hHeld ?_; (try simp only [Act.put, lyA, lyB, lyC])
  refine takeL 6 (v := ?_) rfl (by kernel_rfl) (by kernel_rfl) (by kernel_rfl) (fun _ _ _ h => h) (by kernel_rfl) ?_ (by assumption) ?_; rotate_left; (focus (intro w hSw; (try dsimp only at hSw); go_simp <;> with_reducible rfl)); (try simp only [Act.put, lyA, lyB, lyC])
  refine takeL 8 (v := ?_) rfl (by kernel_rfl) (by kernel_rfl) (by kernel_rfl) (fun _ _ _ h => h) (by kernel_rfl) ?_ (by assumption) ?_; rotate_left; (focus (intro w hSw; (try dsimp only at hSw); go_simp <;> with_reducible rfl)); (try simp only [Act.put, lyA, lyB, lyC])
  refine takeL 9 rfl (by kernel_rfl) (by kernel_rfl) (by kernel_rfl) (fun _ _ _ h => h) (by kernel_rfl) (fun wT hST => sh_run_load1 hST rfl rfl 0 rfl rfl (by kernel_rfl)) hHeld ?_; (try simp only [Act.put, lyA, lyB, lyC])
  refine takeL 10 (v := ?_) rfl (by kernel_rfl) (by kernel_rfl) (by kernel_rfl) (fun _ _ _ h => h) (by kernel_rfl) ?_ (by assumption) ?_; rotate_left; (focus (intro w hSw; (try dsimp only at hSw); go_simp <;> with_reducible rfl)); (try simp only [Act.put, lyA, lyB, lyC])
  refine takeL 12 (v := ?_) rfl (by kernel_rfl) (by kernel_rfl) (by kernel_rfl) (fun _ _ _ h => h) (by kernel_rfl) ?_ (by assumption) ?_; rotate_left; (focus (intro w hSw; (try dsimp only at hSw); go_simp <;> with_reducible rfl)); (try simp only [Act.put, lyA, lyB, lyC])
  refine takeL 13 rfl (by kernel_rfl) (by kernel_rfl) (by kernel_rfl) (fun _ _ _ h => h) (by kernel_rfl) (fun wT hST => sh_run_load1 hST rfl rfl 0 rfl rfl (by kernel_rfl)) hHeld ?_; (try simp only [Act.put, lyA, lyB, lyC])
  refine takeL 14 (v := ?_) rfl (by kernel_rfl) (by kernel_rfl) (by kernel_rfl) (fun _ _ _ h => h) (by kernel_rfl) ?_ (by assumption) ?_; rotate_left; (focus (intro w hSw; (try dsimp only at hSw); go_simp <;> with_reducible rfl)); (try simp only [Act.put, lyA, lyB, lyC])
  generalize IntKind.i64.wrap sa = ya at *
  generalize IntKind.i64.wrap sb = yb at *
  generalize IntKind.i64.wrap sc = yc at *
  generalize IntKind.i64.wrap sd = yd at *
  clear hHeld
  refine oneL 3 rfl (by kernel_rfl) (by kernel_rfl) (fun K hK => ?_); go_simp; refine (put_any ya _ 8 (by omega) rfl _ HA.out.1 HA.out.2).mono ?_; rintro e w2 ⟨vw2, rfl, hownw2, ew2⟩; obtain ⟨Aw2, cw2, rfl, _, _, _⟩ := own_form hownw2; have HH2 := Lib.hid ((HH0).out.addRow ew2 hownw2); clear HH0 hownw2 ew2; go_wp2_with fail
  refine hK.out _ _ HH2.out.tail (fun hHeld => ?_); clear hK K; (try simp only [Act.put, lyA, lyB, lyC])
  clear hHeld
  refine oneL 7 rfl (by kernel_rfl) (by kernel_rfl) (fun K hK => ?_); go_simp; refine (put_any yb _ 8 (by omega) rfl _ HB.out.1 HB.out.2).mono ?_; rintro e w3 ⟨vw3, rfl, hownw3, ew3⟩; obtain ⟨Aw3, cw3, rfl, _, _, _⟩ := own_form hownw3; have HH3 := Lib.hid ((HH2).out.addRow ew3 hownw3); clear HH2 hownw3 ew3; go_wp2_with fail
  refine hK.out _ _ HH3.out.tail.tail (fun hHeld => ?_); clear hK K; (try simp only [Act.put, lyA, lyB, lyC])
  clear hHeld
  refine oneL 11 rfl (by kernel_rfl) (by kernel_rfl) (fun K hK => ?_); go_simp; refine (put_any yc _ 8 (by omega) rfl _ HC.out.1 HC.out.2).mono ?_; rintro e w4 ⟨vw4, rfl, hownw4, ew4⟩; obtain ⟨Aw4, cw4, rfl, _, _, _⟩ := own_form hownw4; have HH4 := Lib.hid ((HH3).out.addRow ew4 hownw4); clear HH3 hownw4 ew4; go_wp2_with fail
  refine hK.out _ _ HH4.out.tail.tail.tail (fun hHeld => ?_); clear hK K; (try simp only [Act.put, lyA, lyB, lyC])
  clear hHeld
  refine oneL 15 rfl (by kernel_rfl) (by kernel_rfl) (fun K hK => ?_); go_simp; refine (put_any yd _ 8 (by omega) rfl _ HD.out.1 HD.out.2).mono ?_; rintro e w5 ⟨vw5, rfl, hownw5, ew5⟩; obtain ⟨Aw5, cw5, rfl, _, _, _⟩ := own_form hownw5; have HH5 := Lib.hid ((HH4).out.addRow ew5 hownw5); clear HH4 hownw5 ew5; go_wp2_with fail
  refine hK.out _ _ HH5.out.tail.tail.tail.tail (fun hHeld => ?_); clear hK K; (try simp only [Act.put, lyA, lyB, lyC])
  clear hHeld
  refine oneL 16 rfl (by kernel_rfl) (by kernel_rfl) (fun K hK => ?_)
  go_simp
  generalize hwA : World.alloc w5 _ = w6
  have HH6 := Lib.hid (HH5.out.allocE hwA)
  clear hwA HH5
  refine hK.out _ _ HH6.out.tail.tail.tail.tail.tail (fun hHeld => ?_); clear hK K; (try simp only [Act.put, lyA, lyB, lyC])
  clear hHeld
  refine oneL 17 rfl (by kernel_rfl) (by kernel_rfl) (fun K hK => ?_)
  go_simp
  refine (join_any w6 _ 4 4 [⟨Aw2, 8, cw2, puts ya 8⟩, ⟨Aw3, 8, cw3, puts yb 8⟩, ⟨Aw4, 8, cw4, puts yc 8⟩, ⟨Aw5, 8, cw5, puts yd 8⟩] rfl
    (fun _ => ⟨_, 0, rfl, Nat.zero_le _, (HH6.out.boxAt 0 rfl).lt, fun j u hu => by rw [Nat.zero_add]; exact (HH6.out.boxAt 0 rfl).cell j u hu⟩)
    (fun x hx => by
      simp only [List.mem_cons, List.not_mem_nil, or_false] at hx
      rcases hx with rfl | rfl | rfl | rfl
      · exact ⟨(puts_length _ _).symm, (Rd.of_own (HH6.out.rowAt 4 rfl)).more (Nat.zero_le _) (Nat.le_refl _)⟩
      · exact ⟨(puts_length _ _).symm, (Rd.of_own (HH6.out.rowAt 3 rfl)).more (Nat.zero_le _) (Nat.le_refl _)⟩
      · exact ⟨(puts_length _ _).symm, (Rd.of_own (HH6.out.rowAt 2 rfl)).more (Nat.zero_le _) (Nat.le_refl _)⟩
      · exact ⟨(puts_length _ _).symm, (Rd.of_own (HH6.out.rowAt 1 rfl)).more (Nat.zero_le _) (Nat.le_refl _)⟩)
    (by omega) (by simp [catL, puts_length])).mono ?_
  rintro e w7 ⟨v7, rfl, hown7, e7⟩
  have HO := Lib.hid (own_lower hown7 HH6.out.ext.size)
  have HX := Lib.hid (HH6.out.ext.trans e7)
  have HS7 := Lib.hid (HH6.out.later e7)
  clear hown7 e7
  go_wp2_with fail
  refine hK.out _ _ HS7.out.tail.tail.tail.tail.tail (fun hHeld => ?_); clear hK K; (try simp only [Act.put, lyA, lyB, lyC])
  refine takeL 18 (v := ?_) rfl (by kernel_rfl) (by kernel_rfl) (by kernel_rfl) (fun _ _ _ h => h) (by kernel_rfl) ?_ (by assumption) ?_; rotate_left; (focus (intro w hSw; (try dsimp only at hSw); go_simp <;> with_reducible rfl)); (try simp only [Act.put, lyA, lyB, lyC])
  refine wpAnyH_done (by kernel_rfl) ?_ _
  go_wp2_with fail
  go_ret
  refine ⟨_, rfl, ?_, HX.out⟩
  have h := HO.out
  have hc : catL [⟨Aw2, 8, cw2, puts ya 8⟩, ⟨Aw3, 8, cw3, puts yb 8⟩, ⟨Aw4, 8, cw4, puts yc 8⟩, ⟨Aw5, 8, cw5, puts yd 8⟩] = sumO ⟨sa, sb, sc, sd⟩ := by
    rw [HE.out, ← PA.out, ← PB.out, ← PC.out, ← PD.out]
    simp [catL, List.append_assoc]
  rw [hc, sumO_length] at h
  exact h
end Go.Proofs.YtfongpdeflfioaaGreat
/- fletch.Of, pages.Encode. -/
namespace Go.Proofs.YtfongpdeflfioaaGreat
open Go.RowKit Go.Maps Go.Sort Go.Shelf
set_option linter.unusedVariables false
set_option linter.unusedSimpArgs false

section
variable {P : Program} {l rest rest' rest'' : List Oper} {Q : Exit → Act → World → Prop} {md : Region.Mode} {S : World → Prop} {oi oj ok : Oper} {fuel : Nat} {listed : Array Bool} {a : Act} {w : World}
/-- three operations may come up next -/
theorem threeH (i j k : Nat) (hi : l.drop i = oi :: rest) (hj : l.drop j = oj :: rest') (hk : l.drop k = ok :: rest'') (hr : Region.ready md l.toArray listed = [i, j, k]) (wi : Region.wanted oi (yielded l.toArray a.tmps) = true) (wj : Region.wanted oj (yielded l.toArray a.tmps) = true) (wk : Region.wanted ok (yielded l.toArray a.tmps) = true)
    (h1 : ∀ K' : Act → World → Prop, Shut (∀ a w, S w → (S w → wpAnyH P md l.toArray Q S fuel (listed.setIfInBounds i true) a w) → K' a w) → Oper.wp P oi a w K' Q)
    (h2 : ∀ K' : Act → World → Prop, Shut (∀ a w, S w → (S w → wpAnyH P md l.toArray Q S fuel (listed.setIfInBounds j true) a w) → K' a w) → Oper.wp P oj a w K' Q)
    (h3 : ∀ K' : Act → World → Prop, Shut (∀ a w, S w → (S w → wpAnyH P md l.toArray Q S fuel (listed.setIfInBounds k true) a w) → K' a w) → Oper.wp P ok a w K' Q) : wpAnyH P md l.toArray Q S (fuel + 1) listed a w :=
  wpAnyH_ready hr (by simp) (AllReadyH.cons (at_drop hi) (fun K' hK => by rw [if_pos wi]; exact h1 K' hK) (AllReadyH.cons (at_drop hj) (fun K' hK => by rw [if_pos wj]; exact h2 K' hK) (AllReadyH.cons (at_drop hk) (fun K' hK => by rw [if_pos wk]; exact h3 K' hK) AllReadyH.nil)))
end
set_option maxRecDepth 100000 in
set_option maxHeartbeats 1000000 in
theorem fof_any (w : World) (A : Option Addr) (n c : Nat) (l : List UInt8) (hn : n = l.length) (hr : Rd w 0 w.heap.size A (bytes l)) (hnc : n ≤ c) (hN : n ≤ 100000000000) :
    Calls Tryz.prog 101 #[.slice A n c] w fun e w' => e = .returned (.agg (feed Su.zero l).cells.toArray) ∧ Ext w w' := by
  have HF := Lib.hid (fun W (hW : Ext w W) => ffeed_any W Su.zero A n c l hn (Rd.at hr hW (Nat.le_refl _)) hnc hN)
  clear hn hr
  generalize feed Su.zero l = s at *
  obtain ⟨sa, sb, sc, sd⟩ := s
  simp only [Su.cells, Su.zero] at *
  go_enter Tryz.func101, Tryz.ntmps101
  go_upto_region 1 with fail
  generalize hwH : World.alloc w _ = w1; have HH := Lib.hid (Heap.one hwH); clear hwH
  go_wp2_with (first | (refine shl_store HH.out sizeSu rfl rfl rfl rfl 0 rfl rfl rfl rfl ?_; clear HH; intro wS HHS; have HH := Lib.hid HHS; clear HHS) | (go_at_call 131; (with_reducible refine (HF.out _ HH.out.ext).mono ?_); rintro e wC ⟨rfl, eC⟩; have HHn := Lib.hid (HH.out.later eC); clear HH eC; have HH := HHn; clear HHn))
  refine ret_cell sizeSu (by kernel_rfl) HH.out rfl rfl 0 rfl rfl rfl ?_
  exact ⟨rfl, HH.out.ext⟩

theorem field_sum (sa sb sc sd : Int) (W : World) : (Instr.field 166 (.agg #[.int .u64 sa, .int .u64 sb, .int .u64 sc, .int .u64 sd]) 0).run Tryz.prog W = .ok (.int .u64 sa) W := by kernel_rfl
theorem puts_w64 (x : Int) : puts (wrap64 x) 8 = puts x 8 := by
  have h := puts_i64 x
  rw [IntKind.wrap_i64] at h
  unfold wrap64
  exact h
/-- a page's first 56 octets -/
def pgH (b : List UInt8) (next : Int) : List UInt8 := puts (b.length : Int) 2 ++ puts next 2 ++ b ++ List.replicate (52 - b.length) 0
/-- a page -/
def pgB (b : List UInt8) (next : Int) : List UInt8 := pgH b next ++ puts (feed Su.zero (pgH b next)).a 8
def pgE (b : List UInt8) (next : Int) : Int := if 52 < b.length then 5 else if next < 0 ∨ 8192 ≤ next then 4 else 0
theorem pgH_len (b : List UInt8) (next : Int) (h : b.length ≤ 52) : (pgH b next).length = 56 := by simp [pgH, puts_length]; omega
theorem pgB_len (b : List UInt8) (next : Int) (h : b.length ≤ 52) : (pgB b next).length = 64 := by simp [pgB, puts_length, pgH_len b next h]
/-- what pages.Encode tells -/
def PgOut (w : World) (b : List UInt8) (next : Int) (e : Ending) (w' : World) : Prop :=
  ∃ v n, e = .returned (.tuple #[v, .int .i64 (pgE b next)]) ∧ w'.ownsRow w.heap.size 5 1 v n (bytes (if pgE b next = 0 then pgB b next else [])) ∧ Ext w w'
set_option maxRecDepth 100000 in
set_option maxHeartbeats 8000000 in
theorem pgenc_any (w : World) (A : Option Addr) (n c : Nat) (b : List UInt8) (next : Int) (hn : n = b.length) (hr : Rd w 0 w.heap.size A (bytes b)) (hx1 : -9223372036854775808 ≤ next) (hx2 : next ≤ 9223372036854775807) (hm : n ≤ 9223372036854775807) :
    Calls Tryz.prog 80 #[.slice A n c, .int .i64 next] w (PgOut w b next) := by
  have Hn := Lib.hid hn
  have HB := Lib.hid hr
  have HE := Lib.hid (show pgE b next = if 52 < b.length then 5 else if next < 0 ∨ 8192 ≤ next then 4 else 0 from rfl)
  clear hr hn
  by_cases h1 : 52 < n
  · have HV := Lib.hid (show pgE b next = 5 by rw [HE.out, ← Hn.out, if_pos h1])
    go_enter Tryz.func80, Tryz.ntmps80
    go_wp2_with fail
    go_ret2
    exact ⟨_, 0, by rw [HV.out]; rfl, by rw [HV.out, if_neg (by decide)]; exact World.ownsRow_nil _ _ _ _, Ext.refl _⟩
  by_cases h2 : next < 0
  · have HV := Lib.hid (show pgE b next = 4 by rw [HE.out, ← Hn.out, if_neg h1, if_pos (.inl h2)])
    go_enter Tryz.func80, Tryz.ntmps80
    go_wp2_with fail
    go_ret2
    exact ⟨_, 0, by rw [HV.out]; rfl, by rw [HV.out, if_neg (by decide)]; exact World.ownsRow_nil _ _ _ _, Ext.refl _⟩
  by_cases h3 : 8192 ≤ next
  · have HV := Lib.hid (show pgE b next = 4 by rw [HE.out, ← Hn.out, if_neg h1, if_pos (.inr h3)])
    go_enter Tryz.func80, Tryz.ntmps80
    go_wp2_with fail
    go_ret2
    exact ⟨_, 0, by rw [HV.out]; rfl, by rw [HV.out, if_neg (by decide)]; exact World.ownsRow_nil _ _ _ _, Ext.refl _⟩
  · have HV := Lib.hid (show pgE b next = 0 by rw [HE.out, ← Hn.out, if_neg h1, if_neg (by omega)])
    obtain ⟨m, hm2⟩ : ∃ m, n + m = 52 := ⟨52 - n, by omega⟩
    have hsub : (52 : Int) - (n : Int) = (m : Int) := by omega
    have hwr : IntKind.i64.wrap (m : Int) = (m : Int) := IntWalk.i64_in _ (by omega)
    have hmk := mk_bytes m (by omega)
    have HJ := Lib.hid (show pgH b next = catL [⟨none, 2, 2, puts (n : Int) 2⟩, ⟨none, 2, 2, puts next 2⟩, ⟨A, n, c, b⟩, ⟨none, m, m, List.replicate m 0⟩] by
      rw [pgH, show 52 - b.length = m by rw [← Hn.out]; omega, Hn.out]
      simp [catL])
    have HP := Lib.hid (show pgB b next = pgH b next ++ puts (feed Su.zero (pgH b next)).a 8 from rfl)
    have HL := Lib.hid (pgH_len b next (by rw [← Hn.out]; omega))
    generalize pgH b next = PH at *
    go_enter Tryz.func80, Tryz.ntmps80
    go_upto_region 5 with fail
    refine wp_region_held_drew (S := fun _ => True) (by kernel_rfl) trivial (fun hHeld => ?_)
    have HH0 := Lib.hid (Heap.start w).drew
    generalize hwd : World.drew w = W0 at *
    clear hwd
    refine takeL 0 (v := ?_) rfl (by kernel_rfl) (by kernel_rfl) (by kernel_rfl) (fun _ _ _ h => h) (by kernel_rfl) ?_ (by assumption) ?_; rotate_left; (focus (intro w hSw; (try dsimp only at hSw); go_simp <;> with_reducible rfl)); (try simp only [Act.put, lyA, lyB, lyC])
    refine takeL 1 (v := ?_) rfl (by kernel_rfl) (by kernel_rfl) (by kernel_rfl) (fun _ _ _ h => h) (by kernel_rfl) ?_ (by assumption) ?_; rotate_left; (focus (intro w hSw; (try dsimp only at hSw); go_simp <;> with_reducible rfl)); (try simp only [Act.put, lyA, lyB, lyC])
    refine takeL 3 (v := ?_) rfl (by kernel_rfl) (by kernel_rfl) (by kernel_rfl) (fun _ _ _ h => h) (by kernel_rfl) ?_ (by assumption) ?_; rotate_left; (focus (intro w hSw; (try dsimp only at hSw); go_simp <;> with_reducible rfl)); (try simp only [Act.put, lyA, lyB, lyC])
    refine takeL 5 (v := ?_) rfl (by kernel_rfl) (by kernel_rfl) (by kernel_rfl) (fun _ _ _ h => h) (by kernel_rfl) ?_ (by assumption) ?_; rotate_left; (focus (intro w hSw; (try dsimp only at hSw); go_simp <;> with_reducible rfl)); (try simp only [Act.put, lyA, lyB, lyC])
    refine takeL 6 (v := ?_) rfl (by kernel_rfl) (by kernel_rfl) (by kernel_rfl) (fun _ _ _ h => h) (by kernel_rfl) ?_ (by assumption) ?_; rotate_left; (focus (intro w hSw; (try dsimp only at hSw); go_simp <;> with_reducible rfl)); (try simp only [Act.put, lyA, lyB, lyC])
    refine takeL 7 (v := ?_) rfl (by kernel_rfl) (by kernel_rfl) (by kernel_rfl) (fun _ _ _ h => h) (by kernel_rfl) ?_ (by assumption) ?_; rotate_left; (focus (intro w hSw; (try dsimp only at hSw); go_simp <;> with_reducible rfl)); (try simp only [Act.put, lyA, lyB, lyC])
    refine takeL 8 (v := ?_) rfl (by kernel_rfl) (by kernel_rfl) (by kernel_rfl) (fun _ _ _ h => h) (by kernel_rfl) ?_ (by assumption) ?_; rotate_left; (focus (intro w hSw; (try dsimp only at hSw); go_simp <;> with_reducible rfl)); (try simp only [Act.put, lyA, lyB, lyC])
    refine twoH 2 9 rfl rfl (by kernel_rfl) (by kernel_rfl) (by kernel_rfl) (fun K hK => ?_) (fun K hK => ?_)
    · go_simp
      refine (put_any (n : Int) _ 2 (by decide) rfl W0 (by omega) (by omega)).mono ?_
      rintro e W1 ⟨v, rfl, hown, ee⟩
      obtain ⟨AP, cP, rfl, _, _, _⟩ := own_form hown
      have HH1 := Lib.hid (HH0.out.addRow ee hown)
      clear HH0 hown ee
      go_wp2_with fail
      refine hK.out _ _ trivial (fun hHeld => ?_)
      clear hK K
      (try simp only [Act.put, lyA, lyB, lyC])
      refine twoH 4 9 rfl rfl (by kernel_rfl) (by kernel_rfl) (by kernel_rfl) (fun K hK => ?_) (fun K hK => ?_)
      · go_simp
        refine (put_any next _ 2 (by decide) rfl W1 (by omega) (by omega)).mono ?_
        rintro e W2 ⟨v, rfl, hown, ee⟩
        obtain ⟨AN, cN, rfl, _, _, _⟩ := own_form hown
        have HH2 := Lib.hid (HH1.out.addRow ee hown)
        clear HH1 hown ee
        go_wp2_with fail
        refine hK.out _ _ trivial (fun hHeld => ?_)
        clear hK K
        (try simp only [Act.put, lyA, lyB, lyC])
        refine oneL 9 rfl (by kernel_rfl) (by kernel_rfl) (fun K hK => ?_)
        go_simp
        generalize hwA : World.alloc _ _ = W3
        have HH3 := Lib.hid (HH2.out.allocRow hwA (n := m) (size := 1) (by simp [bytes]) (by simp only [maxLen]; omega))
        clear hwA HH2
        refine hK.out _ _ trivial (fun hHeld => ?_)
        clear hK K
        (try simp only [Act.put, lyA, lyB, lyC])
        refine oneL 10 rfl (by kernel_rfl) (by kernel_rfl) (fun K hK => ?_)
        go_simp; generalize hwA : World.alloc _ _ = W4; have HH4 := Lib.hid ((HH3).out.allocE hwA); clear hwA HH3
        refine hK.out _ _ trivial (fun hHeld => ?_)
        clear hK K
        (try simp only [Act.put, lyA, lyB, lyC])
        refine oneL 11 rfl (by kernel_rfl) (by kernel_rfl) (fun K hK => ?_)
        go_simp
        refine (join_any W4 _ 4 4 [⟨AP, 2, cP, puts (n : Int) 2⟩, ⟨AN, 2, cN, puts next 2⟩, ⟨A, n, c, b⟩, ⟨some ⟨W2.heap.size, 0, none⟩, m, m, List.replicate m 0⟩] rfl ((HH4.out.boxRd 0 rfl).more (Nat.zero_le _) (Nat.le_refl _)) (fun x hx => by
              simp only [List.mem_cons, List.not_mem_nil, or_false] at hx
              rcases hx with rfl | rfl | rfl | rfl
              · exact ⟨(by rw [puts_length]), (HH4.out.rowRd 3 rfl).more (Nat.zero_le _) (Nat.le_refl _)⟩
              · exact ⟨(by rw [puts_length]), (HH4.out.rowRd 2 rfl).more (Nat.zero_le _) (Nat.le_refl _)⟩
              · exact ⟨Hn.out, HH4.out.old HB.out⟩
              · exact ⟨(by simp), (HH4.out.rowRd 1 rfl).more (Nat.zero_le _) (Nat.le_refl _)⟩) (by decide) (Nat.le_trans (Nat.le_of_eq (congrArg List.length (show _ = PH from HJ.out.symm))) (by rw [HL.out]; decide))).mono ?_
        rintro e Wj ⟨v, rfl, hown, ee⟩
        have hown2 : Wj.ownsRow W4.heap.size 5 1 v PH.length (bytes PH) := by rw [HJ.out]; exact hown
        clear hown
        obtain ⟨AJ, cJ, rfl, _, _, _⟩ := own_form hown2
        have HHj := Lib.hid (HH4.out.addRow ee hown2)
        clear HH4 hown2 ee
        go_wp2_with fail
        refine hK.out _ _ trivial (fun hHeld => ?_)
        clear hK K
        (try simp only [Act.put, lyA, lyB, lyC])
        refine takeL 12 (v := ?_) rfl (by kernel_rfl) (by kernel_rfl) (by kernel_rfl) (fun _ _ _ h => h) (by kernel_rfl) ?_ (by assumption) ?_; rotate_left; (focus (intro w hSw; (try dsimp only at hSw); go_simp <;> with_reducible rfl)); (try simp only [Act.put, lyA, lyB, lyC])
        refine wpAnyH_done (by kernel_rfl) ?_ _
        have HH := Lib.hid (HHj.out.only 0 rfl)
        clear HHj
        have HOf := Lib.hid (fof_any Wj AJ PH.length cJ PH rfl ((HH.out.rowRd 0 rfl).more (Nat.zero_le _) (Nat.le_refl _)) (own_form2 (HH.out.rowAt 0 rfl)).1 (by rw [HL.out]; decide)); generalize hsF : feed Su.zero PH = sF at *; clear hsF; obtain ⟨sa, sb, sc, sd⟩ := sF; simp only [Su.cells] at HOf HP; go_wp2_with fail; refine HOf.out.mono ?_; rintro e Wf ⟨rfl, ef⟩; have HHf := Lib.hid (HH.out.later ef); clear HH ef HOf; have hfld := field_sum sa sb sc sd; have hwf := int_wf (wrap64_wf sa); have hpq := Lib.hid (puts_w64 sa); go_wp2_with fail; generalize wrap64 sa = q at *; refine (put_any q _ 8 (by decide) rfl Wf hwf.1 hwf.2).mono ?_; rintro e Wp ⟨v, rfl, hown, ee⟩; obtain ⟨Ap, cp, rfl, _, _, _⟩ := own_form hown; have HHp := Lib.hid (HHf.out.addRow ee hown); clear HHf hown ee; go_wp2_with fail; generalize hwA : World.alloc Wp _ = Wb; have HHb := Lib.hid (HHp.out.allocE hwA); clear hwA HHp; refine (join_any Wb _ 2 2 [⟨AJ, PH.length, cJ, PH⟩, ⟨Ap, 8, cp, puts q 8⟩] rfl ((HHb.out.boxRd 0 rfl).more (Nat.zero_le _) (Nat.le_refl _)) (fun x hx => by simp only [List.mem_cons, List.not_mem_nil, or_false] at hx; rcases hx with rfl | rfl; exact ⟨rfl, (HHb.out.rowRd 2 rfl).more (Nat.zero_le _) (Nat.le_refl _)⟩; exact ⟨by rw [puts_length], (HHb.out.rowRd 1 rfl).more (Nat.zero_le _) (Nat.le_refl _)⟩) (by decide) (by simp [catL, puts_length, HL.out])).mono ?_; rintro e Wz ⟨v, rfl, hown, ee⟩; have HHz := Lib.hid (HHb.out.addRow ee hown); clear HHb hown ee; go_wp2_with fail; go_ret2; exact ⟨_, _, by rw [HV.out]; rfl, by rw [HV.out, if_pos rfl, HP.out, ← hpq.out]; have h := HHz.out.rowAt 0 rfl; simpa [catL] using h, HHz.out.ext⟩
      · go_simp
        generalize hwA : World.alloc _ _ = W2
        have HH2 := Lib.hid (HH1.out.allocRow hwA (n := m) (size := 1) (by simp [bytes]) (by simp only [maxLen]; omega))
        clear hwA HH1
        refine hK.out _ _ trivial (fun hHeld => ?_)
        clear hK K
        (try simp only [Act.put, lyA, lyB, lyC])
        refine oneL 4 rfl (by kernel_rfl) (by kernel_rfl) (fun K hK => ?_)
        go_simp
        refine (put_any next _ 2 (by decide) rfl W2 (by omega) (by omega)).mono ?_
        rintro e W3 ⟨v, rfl, hown, ee⟩
        obtain ⟨AN, cN, rfl, _, _, _⟩ := own_form hown
        have HH3 := Lib.hid (HH2.out.addRow ee hown)
        clear HH2 hown ee
        go_wp2_with fail
        refine hK.out _ _ trivial (fun hHeld => ?_)
        clear hK K
        (try simp only [Act.put, lyA, lyB, lyC])
        refine oneL 10 rfl (by kernel_rfl) (by kernel_rfl) (fun K hK => ?_)
        go_simp; generalize hwA : World.alloc _ _ = W4; have HH4 := Lib.hid ((HH3).out.allocE hwA); clear hwA HH3
        refine hK.out _ _ trivial (fun hHeld => ?_)
        clear hK K
        (try simp only [Act.put, lyA, lyB, lyC])
        refine oneL 11 rfl (by kernel_rfl) (by kernel_rfl) (fun K hK => ?_)
        go_simp
        refine (join_any W4 _ 4 4 [⟨AP, 2, cP, puts (n : Int) 2⟩, ⟨AN, 2, cN, puts next 2⟩, ⟨A, n, c, b⟩, ⟨some ⟨W1.heap.size, 0, none⟩, m, m, List.replicate m 0⟩] rfl ((HH4.out.boxRd 0 rfl).more (Nat.zero_le _) (Nat.le_refl _)) (fun x hx => by
              simp only [List.mem_cons, List.not_mem_nil, or_false] at hx
              rcases hx with rfl | rfl | rfl | rfl
              · exact ⟨(by rw [puts_length]), (HH4.out.rowRd 3 rfl).more (Nat.zero_le _) (Nat.le_refl _)⟩
              · exact ⟨(by rw [puts_length]), (HH4.out.rowRd 1 rfl).more (Nat.zero_le _) (Nat.le_refl _)⟩
              · exact ⟨Hn.out, HH4.out.old HB.out⟩
              · exact ⟨(by simp), (HH4.out.rowRd 2 rfl).more (Nat.zero_le _) (Nat.le_refl _)⟩) (by decide) (Nat.le_trans (Nat.le_of_eq (congrArg List.length (show _ = PH from HJ.out.symm))) (by rw [HL.out]; decide))).mono ?_
        rintro e Wj ⟨v, rfl, hown, ee⟩
        have hown2 : Wj.ownsRow W4.heap.size 5 1 v PH.length (bytes PH) := by rw [HJ.out]; exact hown
        clear hown
        obtain ⟨AJ, cJ, rfl, _, _, _⟩ := own_form hown2
        have HHj := Lib.hid (HH4.out.addRow ee hown2)
        clear HH4 hown2 ee
        go_wp2_with fail
        refine hK.out _ _ trivial (fun hHeld => ?_)
        clear hK K
        (try simp only [Act.put, lyA, lyB, lyC])
        refine takeL 12 (v := ?_) rfl (by kernel_rfl) (by kernel_rfl) (by kernel_rfl) (fun _ _ _ h => h) (by kernel_rfl) ?_ (by assumption) ?_; rotate_left; (focus (intro w hSw; (try dsimp only at hSw); go_simp <;> with_reducible rfl)); (try simp only [Act.put, lyA, lyB, lyC])
        refine wpAnyH_done (by kernel_rfl) ?_ _
        have HH := Lib.hid (HHj.out.only 0 rfl)
        clear HHj
        have HOf := Lib.hid (fof_any Wj AJ PH.length cJ PH rfl ((HH.out.rowRd 0 rfl).more (Nat.zero_le _) (Nat.le_refl _)) (own_form2 (HH.out.rowAt 0 rfl)).1 (by rw [HL.out]; decide)); generalize hsF : feed Su.zero PH = sF at *; clear hsF; obtain ⟨sa, sb, sc, sd⟩ := sF; simp only [Su.cells] at HOf HP; go_wp2_with fail; refine HOf.out.mono ?_; rintro e Wf ⟨rfl, ef⟩; have HHf := Lib.hid (HH.out.later ef); clear HH ef HOf; have hfld := field_sum sa sb sc sd; have hwf := int_wf (wrap64_wf sa); have hpq := Lib.hid (puts_w64 sa); go_wp2_with fail; generalize wrap64 sa = q at *; refine (put_any q _ 8 (by decide) rfl Wf hwf.1 hwf.2).mono ?_; rintro e Wp ⟨v, rfl, hown, ee⟩; obtain ⟨Ap, cp, rfl, _, _, _⟩ := own_form hown; have HHp := Lib.hid (HHf.out.addRow ee hown); clear HHf hown ee; go_wp2_with fail; generalize hwA : World.alloc Wp _ = Wb; have HHb := Lib.hid (HHp.out.allocE hwA); clear hwA HHp; refine (join_any Wb _ 2 2 [⟨AJ, PH.length, cJ, PH⟩, ⟨Ap, 8, cp, puts q 8⟩] rfl ((HHb.out.boxRd 0 rfl).more (Nat.zero_le _) (Nat.le_refl _)) (fun x hx => by simp only [List.mem_cons, List.not_mem_nil, or_false] at hx; rcases hx with rfl | rfl; exact ⟨rfl, (HHb.out.rowRd 2 rfl).more (Nat.zero_le _) (Nat.le_refl _)⟩; exact ⟨by rw [puts_length], (HHb.out.rowRd 1 rfl).more (Nat.zero_le _) (Nat.le_refl _)⟩) (by decide) (by simp [catL, puts_length, HL.out])).mono ?_; rintro e Wz ⟨v, rfl, hown, ee⟩; have HHz := Lib.hid (HHb.out.addRow ee hown); clear HHb hown ee; go_wp2_with fail; go_ret2; exact ⟨_, _, by rw [HV.out]; rfl, by rw [HV.out, if_pos rfl, HP.out, ← hpq.out]; have h := HHz.out.rowAt 0 rfl; simpa [catL] using h, HHz.out.ext⟩
    · go_simp
      generalize hwA : World.alloc _ _ = W1
      have HH1 := Lib.hid (HH0.out.allocRow hwA (n := m) (size := 1) (by simp [bytes]) (by simp only [maxLen]; omega))
      clear hwA HH0
      refine hK.out _ _ trivial (fun hHeld => ?_)
      clear hK K
      (try simp only [Act.put, lyA, lyB, lyC])
      refine oneL 2 rfl (by kernel_rfl) (by kernel_rfl) (fun K hK => ?_)
      go_simp
      refine (put_any (n : Int) _ 2 (by decide) rfl W1 (by omega) (by omega)).mono ?_
      rintro e W2 ⟨v, rfl, hown, ee⟩
      obtain ⟨AP, cP, rfl, _, _, _⟩ := own_form hown
      have HH2 := Lib.hid (HH1.out.addRow ee hown)
      clear HH1 hown ee
      go_wp2_with fail
      refine hK.out _ _ trivial (fun hHeld => ?_)
      clear hK K
      (try simp only [Act.put, lyA, lyB, lyC])
      refine oneL 4 rfl (by kernel_rfl) (by kernel_rfl) (fun K hK => ?_)
      go_simp
      refine (put_any next _ 2 (by decide) rfl W2 (by omega) (by omega)).mono ?_
      rintro e W3 ⟨v, rfl, hown, ee⟩
      obtain ⟨AN, cN, rfl, _, _, _⟩ := own_form hown
      have HH3 := Lib.hid (HH2.out.addRow ee hown)
      clear HH2 hown ee
      go_wp2_with fail
      refine hK.out _ _ trivial (fun hHeld => ?_)
      clear hK K
      (try simp only [Act.put, lyA, lyB, lyC])
      refine oneL 10 rfl (by kernel_rfl) (by kernel_rfl) (fun K hK => ?_)
      go_simp; generalize hwA : World.alloc _ _ = W4; have HH4 := Lib.hid ((HH3).out.allocE hwA); clear hwA HH3
      refine hK.out _ _ trivial (fun hHeld => ?_)
      clear hK K
      (try simp only [Act.put, lyA, lyB, lyC])
      refine oneL 11 rfl (by kernel_rfl) (by kernel_rfl) (fun K hK => ?_)
      go_simp
      refine (join_any W4 _ 4 4 [⟨AP, 2, cP, puts (n : Int) 2⟩, ⟨AN, 2, cN, puts next 2⟩, ⟨A, n, c, b⟩, ⟨some ⟨W0.heap.size, 0, none⟩, m, m, List.replicate m 0⟩] rfl ((HH4.out.boxRd 0 rfl).more (Nat.zero_le _) (Nat.le_refl _)) (fun x hx => by
            simp only [List.mem_cons, List.not_mem_nil, or_false] at hx
            rcases hx with rfl | rfl | rfl | rfl
            · exact ⟨(by rw [puts_length]), (HH4.out.rowRd 2 rfl).more (Nat.zero_le _) (Nat.le_refl _)⟩
            · exact ⟨(by rw [puts_length]), (HH4.out.rowRd 1 rfl).more (Nat.zero_le _) (Nat.le_refl _)⟩
            · exact ⟨Hn.out, HH4.out.old HB.out⟩
            · exact ⟨(by simp), (HH4.out.rowRd 3 rfl).more (Nat.zero_le _) (Nat.le_refl _)⟩) (by decide) (Nat.le_trans (Nat.le_of_eq (congrArg List.length (show _ = PH from HJ.out.symm))) (by rw [HL.out]; decide))).mono ?_
      rintro e Wj ⟨v, rfl, hown, ee⟩
      have hown2 : Wj.ownsRow W4.heap.size 5 1 v PH.length (bytes PH) := by rw [HJ.out]; exact hown
      clear hown
      obtain ⟨AJ, cJ, rfl, _, _, _⟩ := own_form hown2
      have HHj := Lib.hid (HH4.out.addRow ee hown2)
      clear HH4 hown2 ee
      go_wp2_with fail
      refine hK.out _ _ trivial (fun hHeld => ?_)
      clear hK K
      (try simp only [Act.put, lyA, lyB, lyC])
      refine takeL 12 (v := ?_) rfl (by kernel_rfl) (by kernel_rfl) (by kernel_rfl) (fun _ _ _ h => h) (by kernel_rfl) ?_ (by assumption) ?_; rotate_left; (focus (intro w hSw; (try dsimp only at hSw); go_simp <;> with_reducible rfl)); (try simp only [Act.put, lyA, lyB, lyC])
      refine wpAnyH_done (by kernel_rfl) ?_ _
      have HH := Lib.hid (HHj.out.only 0 rfl)
      clear HHj
      have HOf := Lib.hid (fof_any Wj AJ PH.length cJ PH rfl ((HH.out.rowRd 0 rfl).more (Nat.zero_le _) (Nat.le_refl _)) (own_form2 (HH.out.rowAt 0 rfl)).1 (by rw [HL.out]; decide)); generalize hsF : feed Su.zero PH = sF at *; clear hsF; obtain ⟨sa, sb, sc, sd⟩ := sF; simp only [Su.cells] at HOf HP; go_wp2_with fail; refine HOf.out.mono ?_; rintro e Wf ⟨rfl, ef⟩; have HHf := Lib.hid (HH.out.later ef); clear HH ef HOf; have hfld := field_sum sa sb sc sd; have hwf := int_wf (wrap64_wf sa); have hpq := Lib.hid (puts_w64 sa); go_wp2_with fail; generalize wrap64 sa = q at *; refine (put_any q _ 8 (by decide) rfl Wf hwf.1 hwf.2).mono ?_; rintro e Wp ⟨v, rfl, hown, ee⟩; obtain ⟨Ap, cp, rfl, _, _, _⟩ := own_form hown; have HHp := Lib.hid (HHf.out.addRow ee hown); clear HHf hown ee; go_wp2_with fail; generalize hwA : World.alloc Wp _ = Wb; have HHb := Lib.hid (HHp.out.allocE hwA); clear hwA HHp; refine (join_any Wb _ 2 2 [⟨AJ, PH.length, cJ, PH⟩, ⟨Ap, 8, cp, puts q 8⟩] rfl ((HHb.out.boxRd 0 rfl).more (Nat.zero_le _) (Nat.le_refl _)) (fun x hx => by simp only [List.mem_cons, List.not_mem_nil, or_false] at hx; rcases hx with rfl | rfl; exact ⟨rfl, (HHb.out.rowRd 2 rfl).more (Nat.zero_le _) (Nat.le_refl _)⟩; exact ⟨by rw [puts_length], (HHb.out.rowRd 1 rfl).more (Nat.zero_le _) (Nat.le_refl _)⟩) (by decide) (by simp [catL, puts_length, HL.out])).mono ?_; rintro e Wz ⟨v, rfl, hown, ee⟩; have HHz := Lib.hid (HHb.out.addRow ee hown); clear HHb hown ee; go_wp2_with fail; go_ret2; exact ⟨_, _, by rw [HV.out]; rfl, by rw [HV.out, if_pos rfl, HP.out, ← hpq.out]; have h := HHz.out.rowAt 0 rfl; simpa [catL] using h, HHz.out.ext⟩
end Go.Proofs.YtfongpdeflfioaaGreat
