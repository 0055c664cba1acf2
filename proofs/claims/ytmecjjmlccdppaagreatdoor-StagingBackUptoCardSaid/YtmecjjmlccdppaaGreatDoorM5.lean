/- The texts Feed, Sumo, Nm in one file. -/
import Derived.Test.YtmecjjmlccdppaaGreatDoorM4
import Derived.Test.YtmecjjmlccdppaaGreatDoorM1
/- Feed of both: a running sum behind octets. -/
namespace Go.Proofs.YtmecjjmlccdppaaGreatDoor
open Go.RowKit
set_option linter.unusedVariables false
set_option linter.unusedSimpArgs false

structure Su where
  a : Int
  b : Int
  c : Int
  d : Int
def Su.cells (s : Su) : List Value := [.int .u64 s.a, .int .u64 s.b, .int .u64 s.c, .int .u64 s.d]
def Su.zero : Su := ⟨0, 0, 0, 0⟩
def stp (s : Su) (x : Int) : Su := ⟨IntKind.u64.wrap (s.a + x), IntKind.u64.wrap (s.b + IntKind.u64.wrap (s.a + x)), IntKind.u64.wrap (s.c + IntKind.u64.wrap (s.b + IntKind.u64.wrap (s.a + x))),
  IntKind.u64.wrap (s.d + IntKind.u64.wrap (s.c + IntKind.u64.wrap (s.b + IntKind.u64.wrap (s.a + x))))⟩
def feed (s : Su) (l : List UInt8) : Su := (words l).foldl stp s
def feedUpto (s : Su) (l : List UInt8) (k : Nat) : Su := ((words l).take k).foldl stp s
theorem feedUpto_succ (s : Su) (l : List UInt8) (k : Nat) (h : k < (words l).length) : feedUpto s l (k + 1) = stp (feedUpto s l k) (words l)[k] := by
  rw [feedUpto, feedUpto, List.take_succ_eq_append_getElem h, List.foldl_append]; rfl
theorem feedUpto_all (s : Su) (l : List UInt8) (k : Nat) (h : k = (words l).length) : feedUpto s l k = feed s l := by
  rw [feedUpto, feed, h, List.take_length]
theorem rd_u32 {w : World} {lo h : Nat} {A : Option Addr} {l : List Int} (hr : Rd w lo h A (u32s l)) {k : Nat} (hk : k < l.length) :
    ∃ b o, A = some ⟨b, o, none⟩ ∧ lo ≤ b ∧ b < h ∧ w.cell? ⟨b, o + k, none⟩ = some (.int .u32 l[k]) := by
  obtain ⟨b, o, h1, h2, h3, h4⟩ := hr (fun e => by have := u32s_length l; rw [e] at this; simp at this; omega)
  exact ⟨b, o, h1, h2, h3, h4 k _ (by simp [u32s, List.getElem?_eq_getElem hk])⟩

theorem sizeSu : (Tryz.prog.info? 25).map (·.size) = some 4 := by kernel_rfl
set_option maxRecDepth 100000 in
set_option maxHeartbeats 4000000 in
theorem ffeed_any (w : World) (s : Su) (A : Option Addr) (n c : Nat) (l : List UInt8) (hn : n = l.length) (hr : Rd w 0 w.heap.size A (bytes l)) (hnc : n ≤ c) (hN : n ≤ 100000000000) :
    Calls Tryz.prog 59 #[.agg s.cells.toArray, .slice A n c] w fun e w' => e = .returned (.agg (feed s l).cells.toArray) ∧ Ext w w' := by
  have Hn := Lib.hid hn
  have HR := Lib.hid hr
  have HB := Lib.hid (words_bd l)
  have HN := Lib.hid (words_length l)
  obtain ⟨sa, sb, sc, sd⟩ := s
  have HF0 := Lib.hid (show feedUpto ⟨sa, sb, sc, sd⟩ l 0 = ⟨sa, sb, sc, sd⟩ from rfl)
  clear hn hr
  simp only [Su.cells]
  go_enter Tryz.func59, Tryz.ntmps59
  go_wp2_with fail
  generalize hwH : World.alloc (World.alloc w _) _ = w2; have HH := Lib.hid (Heap.two hwH); clear hwH
  refine (fwords_any w2 A n c l Hn.out (HR.out.at HH.out.ext (Nat.le_refl _)) hnc hN).mono ?_
  rintro e w3 ⟨v3, rfl, hown, e3⟩
  obtain ⟨A3, c3, rfl, k1, k2, _⟩ := own_form hown
  have HH3 := Lib.hid ((HH.out.addRd e3 (Rd.of_own hown) (Nat.le_refl _)))
  clear HH hown e3
  have hml : (words l).length ≤ 100000000000 := by have := HN.out; have := Hn.out; omega
  obtain ⟨m, hm⟩ : ∃ m, m = (words l).length := ⟨_, rfl⟩
  rw [← hm] at hml ⊢
  have HM := Lib.hid hm
  clear hm k1 k2
  go_wp2_with fail
  go_loopw [10] (fun i wr => ∃ k : Nat, k ≤ m ∧ i = .int .i64 (k : Int) ∧ Hid (Heap w [.rd A3 (u32s (words l)), .box (w.heap.size + 1) [.int .u64 0, .int .u64 0, .int .u64 0, .int .u64 0], .box w.heap.size (feedUpto ⟨sa, sb, sc, sd⟩ l k).cells] wr)) (fun i _ => m - (intOf i).toNat)
  case atStart => exact ⟨0, Nat.zero_le _, rfl, HH3⟩
  case round =>
    clear HH3
    obtain ⟨k, hk, rfl, HH⟩ := hrel
    by_cases hlt : k < m
    · have hkl : k < (words l).length := by rw [← HM.out]; exact hlt
      obtain ⟨b1, o1, rfl, _, _, f0⟩ := rd_u32 (HH.out.rdAt 0 rfl) hkl
      have HSt := Lib.hid (feedUpto_succ ⟨sa, sb, sc, sd⟩ l k hkl)
      have hbd := HB.out _ (List.getElem_mem hkl)
      generalize (words l)[k] = y at *
      obtain ⟨hb0, hb1⟩ := hbd
      generalize feedUpto ⟨sa, sb, sc, sd⟩ l k = q at *
      obtain ⟨qa, qb, qc, qd⟩ := q
      go_wp2_with (first | (refine shl_load1 HH.out rfl rfl rfl 2 rfl rfl (by decide +kernel) ?_) | (refine shl_store1 HH.out rfl rfl rfl rfl 2 rfl rfl rfl (by kernel_rfl) ?_; clear HH; intro wS HHS; have HH := Lib.hid HHS; clear HHS))
      go_roundw
      case rel => exact ⟨k + 1, by omega, by go_num, Lib.hid (by rw [HSt.out]; exact HH.out)⟩
      case measure => simp [intOf]; omega
    · have HFi := Lib.hid (feedUpto_all ⟨sa, sb, sc, sd⟩ l k (by rw [← HM.out]; omega))
      go_wp2_with (first | (refine shl_load HH.out sizeSu (by kernel_rfl) rfl rfl rfl 2 rfl rfl ?_) | (refine shl_store HH.out sizeSu rfl rfl rfl rfl 1 rfl rfl rfl rfl ?_; clear HH; intro wS HHS; have HH := Lib.hid HHS; clear HHS))
      refine ret_cell sizeSu (by kernel_rfl) HH.out rfl rfl 1 rfl rfl rfl ⟨?_, HH.out.ext⟩
      rw [HFi.out]
      rfl

set_option maxRecDepth 100000 in
set_option maxHeartbeats 4000000 in
theorem rfeed_any (w : World) (s : Su) (A : Option Addr) (n c : Nat) (l : List UInt8) (hn : n = l.length) (hr : Rd w 0 w.heap.size A (bytes l)) (hN : n ≤ 100000000000) :
    Calls Tryz.prog 35 #[.agg s.cells.toArray, .slice A n c] w fun e w' => e = .returned (.agg (feed s l).cells.toArray) ∧ Ext w w' := by
  have Hn := Lib.hid hn
  have HR := Lib.hid hr
  have HB := Lib.hid (words_bd l)
  have HN := Lib.hid (words_length l)
  obtain ⟨sa, sb, sc, sd⟩ := s
  have HF0 := Lib.hid (show feedUpto ⟨sa, sb, sc, sd⟩ l 0 = ⟨sa, sb, sc, sd⟩ from rfl)
  clear hn hr
  simp only [Su.cells]
  go_enter Tryz.func35, Tryz.ntmps35
  go_wp2_with fail
  generalize hwH : World.alloc (World.alloc w _) _ = w2; have HH := Lib.hid (Heap.two hwH); clear hwH
  refine (rwords_any w2 A n c l Hn.out (HR.out.at HH.out.ext (Nat.le_refl _)) hN).mono ?_
  rintro e w3 ⟨v3, rfl, hown, e3⟩
  obtain ⟨A3, c3, rfl, k1, k2, _⟩ := own_form hown
  have HH3 := Lib.hid ((HH.out.addRd e3 (Rd.of_own hown) (Nat.le_refl _)))
  clear HH hown e3
  have hml : (words l).length ≤ 100000000000 := by have := HN.out; have := Hn.out; omega
  obtain ⟨m, hm⟩ : ∃ m, m = (words l).length := ⟨_, rfl⟩
  rw [← hm] at hml ⊢
  have HM := Lib.hid hm
  clear hm k1 k2
  go_wp2_with fail
  go_loopw [6] (fun i wr => ∃ k : Nat, k ≤ m ∧ i = .int .i64 (k : Int) ∧ Hid (Heap w [.rd A3 (u32s (words l)), .box (w.heap.size + 1) [.int .u64 0, .int .u64 0, .int .u64 0, .int .u64 0], .box w.heap.size (feedUpto ⟨sa, sb, sc, sd⟩ l k).cells] wr)) (fun i _ => m - (intOf i).toNat)
  case atStart => exact ⟨0, Nat.zero_le _, rfl, HH3⟩
  case round =>
    clear HH3
    obtain ⟨k, hk, rfl, HH⟩ := hrel
    by_cases hlt : k < m
    · have hkl : k < (words l).length := by rw [← HM.out]; exact hlt
      obtain ⟨b1, o1, rfl, _, _, f0⟩ := rd_u32 (HH.out.rdAt 0 rfl) hkl
      have HSt := Lib.hid (feedUpto_succ ⟨sa, sb, sc, sd⟩ l k hkl)
      have hbd := HB.out _ (List.getElem_mem hkl)
      generalize (words l)[k] = y at *
      obtain ⟨hb0, hb1⟩ := hbd
      generalize feedUpto ⟨sa, sb, sc, sd⟩ l k = q at *
      obtain ⟨qa, qb, qc, qd⟩ := q
      go_wp2_with fail
      refine wp_region_held_drew (S := fun w' => w' = (wr).drew) (by kernel_rfl) rfl (fun hHeld => ?_)
      refine takeL 0 (v := ?_) rfl (by kernel_rfl) (by kernel_rfl) (by kernel_rfl) (fun _ _ _ h => h) (by kernel_rfl) ?_ (by assumption) ?_; rotate_left; (focus (intro w hSw; (try dsimp only at hSw); go_simp <;> with_reducible rfl)); (try simp only [Act.put, List.setIfInBounds_toArray, List.set_cons_zero, List.set_cons_succ])
      refine takeL 1 rfl (by kernel_rfl) (by kernel_rfl) (by kernel_rfl) (fun _ _ _ h => h) (by kernel_rfl) (fun wT hST => by rw [hST]; exact sh_run_load1 HH.out.drew rfl rfl 2 rfl rfl (by kernel_rfl)) (by assumption) ?_; (try simp only [Act.put, List.setIfInBounds_toArray, List.set_cons_zero, List.set_cons_succ])
      refine takeL 2 (v := ?_) rfl (by kernel_rfl) (by kernel_rfl) (by kernel_rfl) (fun _ _ _ h => h) (by kernel_rfl) ?_ (by assumption) ?_; rotate_left; (focus (intro w hSw; (try dsimp only at hSw); go_simp <;> with_reducible rfl)); (try simp only [Act.put, List.setIfInBounds_toArray, List.set_cons_zero, List.set_cons_succ])
      refine takeL 3 (v := ?_) rfl (by kernel_rfl) (by kernel_rfl) (by kernel_rfl) (fun _ _ _ h => h) (by kernel_rfl) ?_ (by assumption) ?_; rotate_left; (focus (intro w hSw; (try dsimp only at hSw); go_simp <;> with_reducible rfl)); (try simp only [Act.put, List.setIfInBounds_toArray, List.set_cons_zero, List.set_cons_succ])
      refine takeL 4 (v := ?_) rfl (by kernel_rfl) (by kernel_rfl) (by kernel_rfl) (fun _ _ _ h => h) (by kernel_rfl) ?_ (by assumption) ?_; rotate_left; (focus (intro w hSw; (try dsimp only at hSw); go_simp <;> with_reducible rfl)); (try simp only [Act.put, List.setIfInBounds_toArray, List.set_cons_zero, List.set_cons_succ])
      refine takeL 5 (v := ?_) rfl (by kernel_rfl) (by kernel_rfl) (by kernel_rfl) (fun _ _ _ h => h) (by kernel_rfl) ?_ (by assumption) ?_; rotate_left; (focus (intro w hSw; (try dsimp only at hSw); go_simp <;> with_reducible rfl)); (try simp only [Act.put, List.setIfInBounds_toArray, List.set_cons_zero, List.set_cons_succ])
      refine takeL 6 (v := ?_) rfl (by kernel_rfl) (by kernel_rfl) (by kernel_rfl) (fun _ _ _ h => h) (by kernel_rfl) ?_ (by assumption) ?_; rotate_left; (focus (intro w hSw; (try dsimp only at hSw); go_simp <;> with_reducible rfl)); (try simp only [Act.put, List.setIfInBounds_toArray, List.set_cons_zero, List.set_cons_succ])
      refine takeL 7 (v := ?_) rfl (by kernel_rfl) (by kernel_rfl) (by kernel_rfl) (fun _ _ _ h => h) (by kernel_rfl) ?_ (by assumption) ?_; rotate_left; (focus (intro w hSw; (try dsimp only at hSw); go_simp <;> with_reducible rfl)); (try simp only [Act.put, List.setIfInBounds_toArray, List.set_cons_zero, List.set_cons_succ])
      refine takeL 8 (v := ?_) rfl (by kernel_rfl) (by kernel_rfl) (by kernel_rfl) (fun _ _ _ h => h) (by kernel_rfl) ?_ (by assumption) ?_; rotate_left; (focus (intro w hSw; (try dsimp only at hSw); go_simp <;> with_reducible rfl)); (try simp only [Act.put, List.setIfInBounds_toArray, List.set_cons_zero, List.set_cons_succ])
      refine wpAnyH_done (by kernel_rfl) ?_ _
      have HH2 := Lib.hid HH.out.drew
      clear HH
      have HH := HH2
      clear HH2
      go_wp2_with (first | (refine shl_load1 HH.out rfl rfl rfl 2 rfl rfl (by decide +kernel) ?_) | (refine shl_load HH.out sizeSu (by kernel_rfl) rfl rfl rfl 2 rfl rfl ?_) | (refine shl_store HH.out sizeSu rfl rfl rfl rfl 2 rfl rfl rfl rfl ?_; clear HH; intro wS HHS; have HH := Lib.hid HHS; clear HHS))
      go_roundw
      case rel => exact ⟨k + 1, by omega, by go_num, Lib.hid (by rw [HSt.out]; exact HH.out)⟩
      case measure => simp [intOf]; omega
    · have HFi := Lib.hid (feedUpto_all ⟨sa, sb, sc, sd⟩ l k (by rw [← HM.out]; omega))
      go_wp2_with (first | (refine shl_load HH.out sizeSu (by kernel_rfl) rfl rfl rfl 2 rfl rfl ?_) | (refine shl_store HH.out sizeSu rfl rfl rfl rfl 1 rfl rfl rfl rfl ?_; clear HH; intro wS HHS; have HH := Lib.hid HHS; clear HHS))
      refine ret_cell sizeSu (by kernel_rfl) HH.out rfl rfl 1 rfl rfl rfl ⟨?_, HH.out.ext⟩
      rw [HFi.out]
      rfl
end Go.Proofs.YtmecjjmlccdppaaGreatDoor
/- A sum's octets: fletch.Octets, the reference's SumOctets. -/
namespace Go.Proofs.YtmecjjmlccdppaaGreatDoor
open Go.RowKit
set_option linter.unusedVariables false
set_option linter.unusedSimpArgs false

def sumO (s : Su) : List UInt8 := puts s.a 8 ++ puts s.b 8 ++ puts s.c 8 ++ puts s.d 8
theorem sumO_length (s : Su) : (sumO s).length = 32 := by simp [sumO, puts_length]
theorem bt_i64 (x : Int) (j : Nat) (hj : j < 8) : bt (IntKind.i64.wrap x) j = bt x j := by
  unfold bt
  congr 2
  rw [IntKind.wrap_i64]
  rcases (show j = 0 ∨ j = 1 ∨ j = 2 ∨ j = 3 ∨ j = 4 ∨ j = 5 ∨ j = 6 ∨ j = 7 by omega) with rfl | rfl | rfl | rfl | rfl | rfl | rfl | rfl <;> simp <;> omega
theorem puts_i64 (x : Int) : puts (IntKind.i64.wrap x) 8 = puts x 8 := by
  unfold puts
  refine List.map_congr_left fun j hj => ?_
  rw [List.mem_range] at hj
  exact bt_i64 x _ (by omega)
theorem puts_take' (x : Int) (m k : Nat) (hk : k < m) : (puts x m).take (k + 1) = (puts x m).take k ++ [bt x (m - 1 - k)] := by
  rw [List.take_succ_eq_append_getElem (by rw [puts_length]; exact hk)]
  simp [puts]

set_option maxRecDepth 100000 in
set_option maxHeartbeats 1000000 in
theorem eight_any (x : Int) (w : World) (hx1 : 0 ≤ x) (hx2 : x ≤ 18446744073709551615) :
    Calls Tryz.prog 98 #[.int .u64 x] w fun e w' => ∃ v, e = .returned v ∧ w'.ownsRow w.heap.size 5 1 v 8 (bytes (puts x 8)) ∧ Ext w w' := by
  obtain ⟨i0, hi0, hz0, hz1, hz2⟩ := info_parts info5
  have HX := Lib.hid hx2
  clear hx2
  go_enter Tryz.func98, Tryz.ntmps98
  go_wp2_with fail
  go_loopw [3, 4] (fun v i wr => ∃ k : Nat, k ≤ 8 ∧ i = .int .i64 (7 - (k : Int)) ∧ Hid (wr.ownsRow w.heap.size 5 1 v k (bytes ((puts x 8).take k))) ∧ Ext w wr) (fun _ i _ => (intOf i + 1).toNat)
  case atStart => exact ⟨0, Nat.zero_le _, rfl, Lib.hid (World.ownsRow_nil _ _ _ _), Ext.refl _⟩
  case round =>
    obtain ⟨k, hk, rfl, hown, e1⟩ := hrel
    by_cases hlt : k < 8
    · have htx := Lib.hid (puts_take' x 8 k hlt)
      obtain ⟨j, hj⟩ : ∃ j : Nat, 8 - 1 - k = j := ⟨_, rfl⟩
      have hji : 7 - (k : Int) = j := by omega
      have hj8 : j < 8 := by omega
      rw [hj] at htx
      rw [hji]
      go_wp2_with
        (at_builtin
         refine list_app _ rfl (.tmp 9) (.tmp 15) _ rfl 5 i0 _ 1 1 Tryz.underlying57 hi0 hz0 hz1 hz2 rfl (by omega) w.heap.size _ k _ rfl (own_ext hown.out ((Ext.refl _).alloc _)) 0 _ _ 1 1 [.int .u8 (x / 2 ^ (8 * j) % 256)] rfl rfl
           ((rd_new _ _ _).more (Nat.zero_le _) (Nat.le_refl _)) (by simp [Value.oneCell']) (by simp only [maxLen]; omega) (by omega) (by have := e1.size; simp; omega) ?_
         intro v2 w2 hown2 he2 _ _
         have e3 : Ext w w2 := he2 _ (e1.alloc _) (Nat.le_refl _)
         clear he2)
      go_roundw
      case rel =>
        refine ⟨k + 1, by omega, by go_num, ?_, e3⟩
        rw [htx.out, bytes_append]
        have hb : bytes [bt x j] = [.int .u8 (x / 2 ^ (8 * j) % 256)] := by
          have h1 : (256 : Int) ^ j = 2 ^ (8 * j) := by rw [Int.pow_mul]; rfl
          have h2 := bt_zero (x / 256 ^ j)
          have h3 : bt x j = bt (x / 256 ^ j) 0 := by simp [bt]
          rw [h3, bytes, List.map_cons, List.map_nil, h2, h1]
        rw [hb]
        exact Lib.hid hown2
      case measure => (first | (simp [intOf]; done) | (simp [intOf]; omega))
    · go_wp2_with fail
      obtain rfl : k = 8 := by omega
      go_ret
      exact ⟨_, rfl, by have := hown.out; rwa [List.take_of_length_le (by rw [puts_length]; exact Nat.le_refl _)] at this, e1⟩

def Su.wf (s : Su) : Prop := (0 ≤ s.a ∧ s.a ≤ 18446744073709551615) ∧ (0 ≤ s.b ∧ s.b ≤ 18446744073709551615) ∧ (0 ≤ s.c ∧ s.c ≤ 18446744073709551615) ∧ (0 ≤ s.d ∧ s.d ≤ 18446744073709551615)

set_option maxRecDepth 100000 in
set_option maxHeartbeats 4000000 in
theorem sumoctets_any (s : Su) (w : World) (hs : s.wf) :
    Calls Tryz.prog 65 #[.agg s.cells.toArray] w fun e w' => ∃ v, e = .returned v ∧ w'.ownsRow w.heap.size 5 1 v 32 (bytes (sumO s)) ∧ Ext w w' := by
  obtain ⟨i0, hi0, hz0, hz1, hz2⟩ := info_parts info5
  obtain ⟨sa, sb, sc, sd⟩ := s
  have HE := Lib.hid (show sumO ⟨sa, sb, sc, sd⟩ = puts sa 8 ++ puts sb 8 ++ puts sc 8 ++ puts sd 8 from rfl)
  have HS := Lib.hid hs
  clear hs
  simp only [Su.cells]
  go_enter Tryz.func65, Tryz.ntmps65
  go_wp2_with fail
  generalize hwH : World.alloc w _ = w1; have HH := Lib.hid (Heap.one hwH); clear hwH
  have HH0 := Lib.hid HH.out.drew
  clear HH
  have HH := HH0
  clear HH0
  refine wp_region_held_drew (S := Heap w [.box w.heap.size [.int .u64 sa, .int .u64 sb, .int .u64 sc, .int .u64 sd]]) (by kernel_rfl) HH.out (fun hHeld => ?_)
  refine takeL 0 (v := ?_) rfl (by kernel_rfl) (by kernel_rfl) (by kernel_rfl) (fun _ _ _ h => h) (by kernel_rfl) ?_ (by assumption) ?_; rotate_left; (focus (intro w hSw; (try dsimp only at hSw); go_simp <;> with_reducible rfl)); (try simp only [Act.put, List.setIfInBounds_toArray, List.set_cons_zero, List.set_cons_succ])
  refine takeL 1 rfl (by kernel_rfl) (by kernel_rfl) (by kernel_rfl) (fun _ _ _ h => h) (by kernel_rfl) (fun wT hST => sh_run_load1 hST rfl rfl 0 rfl rfl (by kernel_rfl)) hHeld ?_; (try simp only [Act.put, List.setIfInBounds_toArray, List.set_cons_zero, List.set_cons_succ])
  refine takeL 3 (v := ?_) rfl (by kernel_rfl) (by kernel_rfl) (by kernel_rfl) (fun _ _ _ h => h) (by kernel_rfl) ?_ (by assumption) ?_; rotate_left; (focus (intro w hSw; (try dsimp only at hSw); go_simp <;> with_reducible rfl)); (try simp only [Act.put, List.setIfInBounds_toArray, List.set_cons_zero, List.set_cons_succ])
  refine takeL 4 rfl (by kernel_rfl) (by kernel_rfl) (by kernel_rfl) (fun _ _ _ h => h) (by kernel_rfl) (fun wT hST => sh_run_load1 hST rfl rfl 0 rfl rfl (by kernel_rfl)) hHeld ?_; (try simp only [Act.put, List.setIfInBounds_toArray, List.set_cons_zero, List.set_cons_succ])
  refine takeL 7 (v := ?_) rfl (by kernel_rfl) (by kernel_rfl) (by kernel_rfl) (fun _ _ _ h => h) (by kernel_rfl) ?_ (by assumption) ?_; rotate_left; (focus (intro w hSw; (try dsimp only at hSw); go_simp <;> with_reducible rfl)); (try simp only [Act.put, List.setIfInBounds_toArray, List.set_cons_zero, List.set_cons_succ])
  refine takeL 8 rfl (by kernel_rfl) (by kernel_rfl) (by kernel_rfl) (fun _ _ _ h => h) (by kernel_rfl) (fun wT hST => sh_run_load1 hST rfl rfl 0 rfl rfl (by kernel_rfl)) hHeld ?_; (try simp only [Act.put, List.setIfInBounds_toArray, List.set_cons_zero, List.set_cons_succ])
  refine takeL 11 (v := ?_) rfl (by kernel_rfl) (by kernel_rfl) (by kernel_rfl) (fun _ _ _ h => h) (by kernel_rfl) ?_ (by assumption) ?_; rotate_left; (focus (intro w hSw; (try dsimp only at hSw); go_simp <;> with_reducible rfl)); (try simp only [Act.put, List.setIfInBounds_toArray, List.set_cons_zero, List.set_cons_succ])
  refine takeL 12 rfl (by kernel_rfl) (by kernel_rfl) (by kernel_rfl) (fun _ _ _ h => h) (by kernel_rfl) (fun wT hST => sh_run_load1 hST rfl rfl 0 rfl rfl (by kernel_rfl)) hHeld ?_; (try simp only [Act.put, List.setIfInBounds_toArray, List.set_cons_zero, List.set_cons_succ])
  clear hHeld
  refine oneL 2 rfl (by kernel_rfl) (by kernel_rfl) (fun K hK => ?_)
  go_simp
  refine (eight_any sa _ HS.out.1.1 HS.out.1.2).mono ?_
  rintro e w2 ⟨v2, rfl, hown2, e2⟩
  have HH2 := Lib.hid (HH.out.addRow e2 hown2)
  clear HH hown2 e2
  go_wp2_with fail
  refine hK.out _ _ HH2.out.tail (fun hHeld => ?_); clear hK K; (try simp only [Act.put, List.setIfInBounds_toArray, List.set_cons_zero, List.set_cons_succ])
  clear hHeld
  refine oneL 5 rfl (by kernel_rfl) (by kernel_rfl) (fun K hK => ?_)
  go_simp
  refine (eight_any sb _ HS.out.2.1.1 HS.out.2.1.2).mono ?_
  rintro e w3 ⟨v3, rfl, hown3, e3⟩
  obtain ⟨A3, c3, rfl, _, _, _⟩ := own_form hown3
  have HH3 := Lib.hid (HH2.out.addRow e3 hown3)
  clear HH2 hown3 e3
  go_wp2_with fail
  refine hK.out _ _ HH3.out.tail.tail (fun hHeld => ?_); clear hK K; (try simp only [Act.put, List.setIfInBounds_toArray, List.set_cons_zero, List.set_cons_succ])
  clear hHeld
  refine oneL 6 rfl (by kernel_rfl) (by kernel_rfl) (fun K hK => ?_)
  refine sh_app (.tmp 5) (.tmp 8) _ rfl Tryz.underlying57 hi0 hz0 hz1 hz2 rfl (by omega) HH3.out 1 rfl rfl (m := 8) rfl (by rw [bytes_length, puts_length]) (Rd.of_own (HH3.out.rowAt 0 rfl)) (bytes_one _) (by simp only [maxLen]; omega) (by omega) ?_
  rintro v4 w4 hh4 ⟨A4, c4, rfl⟩
  have HH4 := Lib.hid hh4
  clear hh4 HH3
  refine hK.out _ _ HH4.out.tail.tail (fun hHeld => ?_); clear hK K; (try simp only [Act.put, List.setIfInBounds_toArray, List.set_cons_zero, List.set_cons_succ])
  clear hHeld
  refine oneL 9 rfl (by kernel_rfl) (by kernel_rfl) (fun K hK => ?_)
  go_simp
  refine (eight_any sc _ HS.out.2.2.1.1 HS.out.2.2.1.2).mono ?_
  rintro e w5 ⟨v5, rfl, hown5, e5⟩
  obtain ⟨A5, c5, rfl, _, _, _⟩ := own_form hown5
  have HH5 := Lib.hid (HH4.out.addRow e5 hown5)
  clear HH4 hown5 e5
  go_wp2_with fail
  refine hK.out _ _ HH5.out.tail.tail.tail (fun hHeld => ?_); clear hK K; (try simp only [Act.put, List.setIfInBounds_toArray, List.set_cons_zero, List.set_cons_succ])
  clear hHeld
  refine oneL 10 rfl (by kernel_rfl) (by kernel_rfl) (fun K hK => ?_)
  refine sh_app (.tmp 9) (.tmp 12) _ rfl Tryz.underlying57 hi0 hz0 hz1 hz2 rfl (by omega) HH5.out 2 rfl rfl (m := 8) rfl (by rw [bytes_length, puts_length]) (Rd.of_own (HH5.out.rowAt 0 rfl)) (bytes_one _) (by simp only [maxLen]; omega) (by omega) ?_
  rintro v6 w6 hh6 ⟨A6, c6, rfl⟩
  have HH6 := Lib.hid hh6
  clear hh6 HH5
  refine hK.out _ _ HH6.out.tail.tail.tail (fun hHeld => ?_); clear hK K; (try simp only [Act.put, List.setIfInBounds_toArray, List.set_cons_zero, List.set_cons_succ])
  clear hHeld
  refine oneL 13 rfl (by kernel_rfl) (by kernel_rfl) (fun K hK => ?_)
  go_simp
  refine (eight_any sd _ HS.out.2.2.2.1 HS.out.2.2.2.2).mono ?_
  rintro e w7 ⟨v7, rfl, hown7, e7⟩
  obtain ⟨A7, c7, rfl, _, _, _⟩ := own_form hown7
  have HH7 := Lib.hid (HH6.out.addRow e7 hown7)
  clear HH6 hown7 e7
  go_wp2_with fail
  refine hK.out _ _ HH7.out.tail.tail.tail.tail (fun hHeld => ?_); clear hK K; (try simp only [Act.put, List.setIfInBounds_toArray, List.set_cons_zero, List.set_cons_succ])
  clear hHeld
  refine oneL 14 rfl (by kernel_rfl) (by kernel_rfl) (fun K hK => ?_)
  refine sh_app (.tmp 13) (.tmp 16) _ rfl Tryz.underlying57 hi0 hz0 hz1 hz2 rfl (by omega) HH7.out 3 rfl rfl (m := 8) rfl (by rw [bytes_length, puts_length]) (Rd.of_own (HH7.out.rowAt 0 rfl)) (bytes_one _) (by simp only [maxLen]; omega) (by omega) ?_
  rintro v8 w8 hh8 ⟨A8, c8, rfl⟩
  have HH8 := Lib.hid hh8
  clear hh8 HH7
  refine hK.out _ _ HH8.out.tail.tail.tail.tail (fun hHeld => ?_); clear hK K; (try simp only [Act.put, List.setIfInBounds_toArray, List.set_cons_zero, List.set_cons_succ])
  refine takeL 15 (v := ?_) rfl (by kernel_rfl) (by kernel_rfl) (by kernel_rfl) (fun _ _ _ h => h) (by kernel_rfl) ?_ (by assumption) ?_; rotate_left; (focus (intro w hSw; (try dsimp only at hSw); go_simp <;> with_reducible rfl)); (try simp only [Act.put, List.setIfInBounds_toArray, List.set_cons_zero, List.set_cons_succ])
  refine wpAnyH_done (by kernel_rfl) ?_ _
  go_wp2_with fail
  go_ret
  refine ⟨_, rfl, ?_, HH8.out.ext⟩
  have := HH8.out.rowAt 3 rfl
  rw [HE.out, bytes_append, bytes_append, bytes_append]
  exact this

set_option maxRecDepth 100000 in
set_option maxHeartbeats 4000000 in
theorem octets_any (s : Su) (w : World) (hs : s.wf) :
    Calls Tryz.prog 102 #[.agg s.cells.toArray] w fun e w' => ∃ v, e = .returned v ∧ w'.ownsRow w.heap.size 5 1 v 32 (bytes (sumO s)) ∧ Ext w w' := by
  obtain ⟨sa, sb, sc, sd⟩ := s
  have HE := Lib.hid (show sumO ⟨sa, sb, sc, sd⟩ = puts sa 8 ++ puts sb 8 ++ puts sc 8 ++ puts sd 8 from rfl)
  have hb : ∀ x : Int, -9223372036854775808 ≤ IntKind.i64.wrap x ∧ IntKind.i64.wrap x ≤ 9223372036854775807 := fun x => by rw [IntKind.wrap_i64]; omega
  have HA := Lib.hid (hb sa)
  have HB := Lib.hid (hb sb)
  have HC := Lib.hid (hb sc)
  have HD := Lib.hid (hb sd)
  have PA := Lib.hid (puts_i64 sa)
  have PB := Lib.hid (puts_i64 sb)
  have PC := Lib.hid (puts_i64 sc)
  have PD := Lib.hid (puts_i64 sd)
  clear hb
  simp only [Su.cells]
  go_enter Tryz.func102, Tryz.ntmps102
  go_wp2_with fail
  generalize hwH : World.alloc w _ = w1; have HH := Lib.hid (Heap.one hwH); clear hwH
  have HH0 := Lib.hid HH.out.drew
  clear HH
  refine wp_region_held_drew (S := Heap w [.box w.heap.size [.int .u64 sa, .int .u64 sb, .int .u64 sc, .int .u64 sd]]) (by kernel_rfl) HH0.out (fun hHeld => ?_)
  refine takeL 0 (v := ?_) rfl (by kernel_rfl) (by kernel_rfl) (by kernel_rfl) (fun _ _ _ h => h) (by kernel_rfl) ?_ (by assumption) ?_; rotate_left; (focus (intro w hSw; (try dsimp only at hSw); go_simp <;> with_reducible rfl)); (try simp only [Act.put, List.setIfInBounds_toArray, List.set_cons_zero, List.set_cons_succ])
  refine takeL 1 rfl (by kernel_rfl) (by kernel_rfl) (by kernel_rfl) (fun _ _ _ h => h) (by kernel_rfl) (fun wT hST => sh_run_load1 hST rfl rfl 0 rfl rfl (by kernel_rfl)) hHeld ?_; (try simp only [Act.put, List.setIfInBounds_toArray, List.set_cons_zero, List.set_cons_succ])
  refine takeL 2 (v := ?_) rfl (by kernel_rfl) (by kernel_rfl) (by kernel_rfl) (fun _ _ _ h => h) (by kernel_rfl) ?_ (by assumption) ?_; rotate_left; (focus (intro w hSw; (try dsimp only at hSw); go_simp <;> with_reducible rfl)); (try simp only [Act.put, List.setIfInBounds_toArray, List.set_cons_zero, List.set_cons_succ])
  refine takeL 4 (v := ?_) rfl (by kernel_rfl) (by kernel_rfl) (by kernel_rfl) (fun _ _ _ h => h) (by kernel_rfl) ?_ (by assumption) ?_; rotate_left; (focus (intro w hSw; (try dsimp only at hSw); go_simp <;> with_reducible rfl)); (try simp only [Act.put, List.setIfInBounds_toArray, List.set_cons_zero, List.set_cons_succ])
  refine takeL 5 rfl (by kernel_rfl) (by kernel_rfl) (by kernel_rfl) (fun _ _ _ h => h) (by kernel_rfl) (fun wT hST => sh_run_load1 hST rfl rfl 0 rfl rfl (by kernel_rfl)) hHeld ?_; (try simp only [Act.put, List.setIfInBounds_toArray, List.set_cons_zero, List.set_cons_succ])
  refine takeL 6 (v := ?_) rfl (by kernel_rfl) (by kernel_rfl) (by kernel_rfl) (fun _ _ _ h => h) (by kernel_rfl) ?_ (by assumption) ?_; rotate_left; (focus (intro w hSw; (try dsimp only at hSw); go_simp <;> with_reducible rfl)); (try simp only [Act.put, List.setIfInBounds_toArray, List.set_cons_zero, List.set_cons_succ])
  refine takeL 8 (v := ?_) rfl (by kernel_rfl) (by kernel_rfl) (by kernel_rfl) (fun _ _ _ h => h) (by kernel_rfl) ?_ (by assumption) ?_; rotate_left; (focus (intro w hSw; (try dsimp only at hSw); go_simp <;> with_reducible rfl)); (try simp only [Act.put, List.setIfInBounds_toArray, List.set_cons_zero, List.set_cons_succ])
  refine takeL 9 rfl (by kernel_rfl) (by kernel_rfl) (by kernel_rfl) (fun _ _ _ h => h) (by kernel_rfl) (fun wT hST => sh_run_load1 hST rfl rfl 0 rfl rfl (by kernel_rfl)) hHeld ?_; (try simp only [Act.put, List.setIfInBounds_toArray, List.set_cons_zero, List.set_cons_succ])
  refine takeL 10 (v := ?_) rfl (by kernel_rfl) (by kernel_rfl) (by kernel_rfl) (fun _ _ _ h => h) (by kernel_rfl) ?_ (by assumption) ?_; rotate_left; (focus (intro w hSw; (try dsimp only at hSw); go_simp <;> with_reducible rfl)); (try simp only [Act.put, List.setIfInBounds_toArray, List.set_cons_zero, List.set_cons_succ])
  refine takeL 12 (v := ?_) rfl (by kernel_rfl) (by kernel_rfl) (by kernel_rfl) (fun _ _ _ h => h) (by kernel_rfl) ?_ (by assumption) ?_; rotate_left; (focus (intro w hSw; (try dsimp only at hSw); go_simp <;> with_reducible rfl)); (try simp only [Act.put, List.setIfInBounds_toArray, List.set_cons_zero, List.set_cons_succ])
  refine takeL 13 rfl (by kernel_rfl) (by kernel_rfl) (by kernel_rfl) (fun _ _ _ h => h) (by kernel_rfl) (fun wT hST => sh_run_load1 hST rfl rfl 0 rfl rfl (by kernel_rfl)) hHeld ?_; (try simp only [Act.put, List.setIfInBounds_toArray, List.set_cons_zero, List.set_cons_succ])
  refine takeL 14 (v := ?_) rfl (by kernel_rfl) (by kernel_rfl) (by kernel_rfl) (fun _ _ _ h => h) (by kernel_rfl) ?_ (by assumption) ?_; rotate_left; (focus (intro w hSw; (try dsimp only at hSw); go_simp <;> with_reducible rfl)); (try simp only [Act.put, List.setIfInBounds_toArray, List.set_cons_zero, List.set_cons_succ])
  generalize IntKind.i64.wrap sa = ya at *
  generalize IntKind.i64.wrap sb = yb at *
  generalize IntKind.i64.wrap sc = yc at *
  generalize IntKind.i64.wrap sd = yd at *
  clear hHeld
  refine oneL 3 rfl (by kernel_rfl) (by kernel_rfl) (fun K hK => ?_); go_simp; refine (put_any ya _ 8 (by omega) rfl _ HA.out.1 HA.out.2).mono ?_; rintro e w2 ⟨vw2, rfl, hownw2, ew2⟩; obtain ⟨Aw2, cw2, rfl, _, _, _⟩ := own_form hownw2; have HH2 := Lib.hid ((HH0).out.addRow ew2 hownw2); clear HH0 hownw2 ew2; go_wp2_with fail
  refine hK.out _ _ HH2.out.tail (fun hHeld => ?_); clear hK K; (try simp only [Act.put, List.setIfInBounds_toArray, List.set_cons_zero, List.set_cons_succ])
  clear hHeld
  refine oneL 7 rfl (by kernel_rfl) (by kernel_rfl) (fun K hK => ?_); go_simp; refine (put_any yb _ 8 (by omega) rfl _ HB.out.1 HB.out.2).mono ?_; rintro e w3 ⟨vw3, rfl, hownw3, ew3⟩; obtain ⟨Aw3, cw3, rfl, _, _, _⟩ := own_form hownw3; have HH3 := Lib.hid ((HH2).out.addRow ew3 hownw3); clear HH2 hownw3 ew3; go_wp2_with fail
  refine hK.out _ _ HH3.out.tail.tail (fun hHeld => ?_); clear hK K; (try simp only [Act.put, List.setIfInBounds_toArray, List.set_cons_zero, List.set_cons_succ])
  clear hHeld
  refine oneL 11 rfl (by kernel_rfl) (by kernel_rfl) (fun K hK => ?_); go_simp; refine (put_any yc _ 8 (by omega) rfl _ HC.out.1 HC.out.2).mono ?_; rintro e w4 ⟨vw4, rfl, hownw4, ew4⟩; obtain ⟨Aw4, cw4, rfl, _, _, _⟩ := own_form hownw4; have HH4 := Lib.hid ((HH3).out.addRow ew4 hownw4); clear HH3 hownw4 ew4; go_wp2_with fail
  refine hK.out _ _ HH4.out.tail.tail.tail (fun hHeld => ?_); clear hK K; (try simp only [Act.put, List.setIfInBounds_toArray, List.set_cons_zero, List.set_cons_succ])
  clear hHeld
  refine oneL 15 rfl (by kernel_rfl) (by kernel_rfl) (fun K hK => ?_); go_simp; refine (put_any yd _ 8 (by omega) rfl _ HD.out.1 HD.out.2).mono ?_; rintro e w5 ⟨vw5, rfl, hownw5, ew5⟩; obtain ⟨Aw5, cw5, rfl, _, _, _⟩ := own_form hownw5; have HH5 := Lib.hid ((HH4).out.addRow ew5 hownw5); clear HH4 hownw5 ew5; go_wp2_with fail
  refine hK.out _ _ HH5.out.tail.tail.tail.tail (fun hHeld => ?_); clear hK K; (try simp only [Act.put, List.setIfInBounds_toArray, List.set_cons_zero, List.set_cons_succ])
  clear hHeld
  refine oneL 16 rfl (by kernel_rfl) (by kernel_rfl) (fun K hK => ?_)
  go_simp
  generalize hwA : World.alloc w5 _ = w6
  have HH6 := Lib.hid (HH5.out.allocE hwA)
  clear hwA HH5
  refine hK.out _ _ HH6.out.tail.tail.tail.tail.tail (fun hHeld => ?_); clear hK K; (try simp only [Act.put, List.setIfInBounds_toArray, List.set_cons_zero, List.set_cons_succ])
  clear hHeld
  refine oneL 17 rfl (by kernel_rfl) (by kernel_rfl) (fun K hK => ?_)
  go_simp
  refine (join_any w6 _ 4 4 [⟨Aw2, 8, cw2, puts ya 8⟩, ⟨Aw3, 8, cw3, puts yb 8⟩, ⟨Aw4, 8, cw4, puts yc 8⟩, ⟨Aw5, 8, cw5, puts yd 8⟩] rfl
    (fun _ => ⟨_, 0, rfl, Nat.zero_le _, (HH6.out.boxAt 0 rfl).lt, fun j u hu => by rw [Nat.zero_add]; exact (HH6.out.boxAt 0 rfl).cell j u hu⟩)
    (fun x hx => by
      simp only [List.mem_cons, List.not_mem_nil, or_false] at hx
      rcases hx with rfl | rfl | rfl | rfl
      · exact ⟨(puts_length _ _).symm, (Rd.of_own (HH6.out.rowAt 4 rfl)).more (Nat.zero_le _) (Nat.le_refl _)⟩
      · exact ⟨(puts_length _ _).symm, (Rd.of_own (HH6.out.rowAt 3 rfl)).more (Nat.zero_le _) (Nat.le_refl _)⟩
      · exact ⟨(puts_length _ _).symm, (Rd.of_own (HH6.out.rowAt 2 rfl)).more (Nat.zero_le _) (Nat.le_refl _)⟩
      · exact ⟨(puts_length _ _).symm, (Rd.of_own (HH6.out.rowAt 1 rfl)).more (Nat.zero_le _) (Nat.le_refl _)⟩)
    (by omega) (by simp [catL, puts_length])).mono ?_
  rintro e w7 ⟨v7, rfl, hown7, e7⟩
  have HO := Lib.hid (own_lower hown7 HH6.out.ext.size)
  have HX := Lib.hid (HH6.out.ext.trans e7)
  have HS7 := Lib.hid (HH6.out.later e7)
  clear hown7 e7
  go_wp2_with fail
  refine hK.out _ _ HS7.out.tail.tail.tail.tail.tail (fun hHeld => ?_); clear hK K; (try simp only [Act.put, List.setIfInBounds_toArray, List.set_cons_zero, List.set_cons_succ])
  refine takeL 18 (v := ?_) rfl (by kernel_rfl) (by kernel_rfl) (by kernel_rfl) (fun _ _ _ h => h) (by kernel_rfl) ?_ (by assumption) ?_; rotate_left; (focus (intro w hSw; (try dsimp only at hSw); go_simp <;> with_reducible rfl)); (try simp only [Act.put, List.setIfInBounds_toArray, List.set_cons_zero, List.set_cons_succ])
  refine wpAnyH_done (by kernel_rfl) ?_ _
  go_wp2_with fail
  go_ret
  refine ⟨_, rfl, ?_, HX.out⟩
  have h := HO.out
  have hc : catL [⟨Aw2, 8, cw2, puts ya 8⟩, ⟨Aw3, 8, cw3, puts yb 8⟩, ⟨Aw4, 8, cw4, puts yc 8⟩, ⟨Aw5, 8, cw5, puts yd 8⟩] = sumO ⟨sa, sb, sc, sd⟩ := by
    rw [HE.out, ← PA.out, ← PB.out, ← PC.out, ← PD.out]
    simp [catL, List.append_assoc]
  rw [hc, sumO_length] at h
  exact h
end Go.Proofs.YtmecjjmlccdppaaGreatDoor
/- The walks of names.Name, props.value and the reference's: which texts are names, which are values. -/
namespace Go.Proofs.YtmecjjmlccdppaaGreatDoor
open Go.RowKit

def oddN (z : Int) : Bool := (decide (z < 97) || decide (122 < z)) && (decide (z < 48) || decide (57 < z)) && (z != 45) && (z != 95)
def badN (z : Int) : Bool := decide (z < 32) || decide (126 < z)
def oddB (c : UInt8) : Bool := oddN c.toNat
def badB (c : UInt8) : Bool := badN c.toNat

theorem oddB_any (c : UInt8) (w : World) : Calls Tryz.prog 94 #[.int .u8 (c.toNat : Int)] w fun e w' => e = .returned (.bool (oddB c)) ∧ Ext w w' := by
  unfold oddB
  generalize (c.toNat : Int) = z
  go_enter Tryz.func94, Tryz.ntmps94
  go_wp2_with fail
  all_goals (
    go_ret
    refine ⟨?_, Ext.refl _⟩
    first | (simp [oddN]; done) | (simp_all [oddN]; done) | (simp_all [oddN]; omega))
theorem badB_any (c : UInt8) (w : World) : Calls Tryz.prog 127 #[.int .u8 (c.toNat : Int)] w fun e w' => e = .returned (.bool (badB c)) ∧ Ext w w' := by
  unfold badB
  generalize (c.toNat : Int) = z
  go_enter Tryz.func127, Tryz.ntmps127
  go_wp2_with fail
  all_goals (
    go_ret
    refine ⟨?_, Ext.refl _⟩
    first | (simp [badN]; done) | (simp_all [badN]; done) | (simp_all [badN]; omega))
theorem letter_any (c : UInt8) (w : World) : Calls Tryz.prog 97 #[.int .u8 (c.toNat : Int)] w fun e w' => e = .returned (.bool (!oddB c)) ∧ Ext w w' := by
  unfold oddB
  generalize (c.toNat : Int) = z
  go_enter Tryz.func97, Tryz.ntmps97
  go_wp2_with fail
  all_goals (
    go_ret
    refine ⟨?_, Ext.refl _⟩
    first | (simp_all [oddN]; done) | (refine congrArg (fun b => Ending.returned (Value.bool b)) ?_; rw [Bool.eq_iff_iff]; simp [oddN]; omega))
set_option maxHeartbeats 400000 in
theorem oidx_any (w : World) (A : Option Addr) (n c lo hi : Nat) (l : List UInt8) (hn : n = l.length) (hm : n ≤ 9223372036854775807) (hr : Rd w lo hi A (bytes l)) (hh : hi ≤ w.heap.size) :
    Calls Tryz.prog 121 #[.slice A n c, .func (.func 94) #[] #[]] w fun e w' => ∃ r : Int, e = .returned (.int .i64 r) ∧ l.any oddB = decide (0 ≤ r) ∧ -1 ≤ r ∧ Ext w w' := by
  have Hn := Lib.hid hn
  clear hn
  go_enter Tryz.func121, Tryz.ntmps121
  go_wp2_with fail
  go_loopw [8] (fun i wr => ∃ k : Nat, k ≤ n ∧ i = .int .i64 k ∧ (l.take k).any oddB = false ∧ Ext w wr) (fun i _ => n - (intOf i).toNat)
  case atStart => exact ⟨0, Nat.zero_le _, rfl, rfl, Ext.refl _⟩
  case round =>
    obtain ⟨k, hk, rfl, hno, e1⟩ := hrel
    have HK := Lib.hid hno
    clear hno
    by_cases hlt : k < n
    · obtain ⟨b1, o1, rfl, _, _, f0⟩ := rd_byte (hr.ext e1 hh) (k := k) (by rw [← Hn.out]; omega)
      have hl : k < l.length := by rw [← Hn.out]; omega
      obtain ⟨y, hy⟩ : ∃ y, y = l[k]'hl := ⟨_, rfl⟩
      rw [← hy] at f0
      have HY := Lib.hid hy
      clear hy
      go_wp2_with fail
      refine (oddB_any y _).mono ?_
      rintro e w2 ⟨rfl, e2⟩
      cases ho : oddB y
      · go_wp2_with fail
        go_roundw
        case rel =>
          refine ⟨k + 1, by omega, by go_num, ?_, by (repeat (first | exact Below.refl _ _ | exact Ext.refl _ | assumption | refine Below.drew ?_ | refine below_drewN ?_ _ | refine below_alloc ?_ (by first | exact Nat.le_refl _ | assumption | (simp; done) | omega | (simp; omega)) _ | refine below_ext ?_ (by assumption) (by first | exact Nat.le_refl _ | assumption | (simp; done) | omega | (simp; omega)) | refine Ext.drew ?_ | refine Ext.drewN ?_ _ | refine Ext.alloc ?_ _ | refine Ext.setCell ?_ (by first | assumption | (simp; done) | (simp; omega)) _ | refine Below.setCell ?_ (by first | assumption | (simp; done) | (simp; omega)) _ | refine Ext.trans ?_ (by assumption)))⟩
          rw [List.take_succ_eq_append_getElem hl, List.any_append, HK.out, ← HY.out]
          simp [ho]
        case measure => simp [intOf]; omega
      · go_wp2_with fail
        go_ret
        refine ⟨k, rfl, ?_, by omega, by (repeat (first | exact Below.refl _ _ | exact Ext.refl _ | assumption | refine Below.drew ?_ | refine below_drewN ?_ _ | refine below_alloc ?_ (by first | exact Nat.le_refl _ | assumption | (simp; done) | omega | (simp; omega)) _ | refine below_ext ?_ (by assumption) (by first | exact Nat.le_refl _ | assumption | (simp; done) | omega | (simp; omega)) | refine Ext.drew ?_ | refine Ext.drewN ?_ _ | refine Ext.alloc ?_ _ | refine Ext.setCell ?_ (by first | assumption | (simp; done) | (simp; omega)) _ | refine Below.setCell ?_ (by first | assumption | (simp; done) | (simp; omega)) _ | refine Ext.trans ?_ (by assumption)))⟩
        have h1 : l.any oddB = true := List.any_eq_true.2 ⟨y, by rw [HY.out]; exact List.getElem_mem _, ho⟩
        rw [h1]
        simp
    · go_wp2_with fail
      go_ret
      obtain rfl : k = n := by omega
      have h1 := HK.out
      rw [List.take_of_length_le (by rw [← Hn.out]; exact Nat.le_refl _)] at h1
      exact ⟨-1, rfl, by rw [h1]; rfl, by omega, e1⟩

set_option maxHeartbeats 400000 in
theorem ocont_any (w : World) (A : Option Addr) (n c lo hi : Nat) (l : List UInt8) (hn : n = l.length) (hm : n ≤ 9223372036854775807) (hr : Rd w lo hi A (bytes l)) (hh : hi ≤ w.heap.size) :
    Calls Tryz.prog 93 #[.slice A n c, .func (.func 94) #[] #[]] w fun e w' => e = .returned (.bool (l.any oddB)) ∧ Ext w w' := by
  have Hn := Lib.hid hn
  clear hn
  go_enter Tryz.func93, Tryz.ntmps93
  go_wp2_with fail
  refine (oidx_any w A n c lo hi l Hn.out hm hr hh).mono ?_
  rintro e w2 ⟨r, rfl, hany, hr1, e2⟩
  have HA := Lib.hid hany
  clear hany
  go_wp2_with fail
  go_ret
  exact ⟨by rw [HA.out]; rfl, e2⟩
set_option maxHeartbeats 400000 in
theorem bidx_any (w : World) (A : Option Addr) (n c lo hi : Nat) (l : List UInt8) (hn : n = l.length) (hm : n ≤ 9223372036854775807) (hr : Rd w lo hi A (bytes l)) (hh : hi ≤ w.heap.size) :
    Calls Tryz.prog 121 #[.slice A n c, .func (.func 127) #[] #[]] w fun e w' => ∃ r : Int, e = .returned (.int .i64 r) ∧ l.any badB = decide (0 ≤ r) ∧ -1 ≤ r ∧ Ext w w' := by
  have Hn := Lib.hid hn
  clear hn
  go_enter Tryz.func121, Tryz.ntmps121
  go_wp2_with fail
  go_loopw [8] (fun i wr => ∃ k : Nat, k ≤ n ∧ i = .int .i64 k ∧ (l.take k).any badB = false ∧ Ext w wr) (fun i _ => n - (intOf i).toNat)
  case atStart => exact ⟨0, Nat.zero_le _, rfl, rfl, Ext.refl _⟩
  case round =>
    obtain ⟨k, hk, rfl, hno, e1⟩ := hrel
    have HK := Lib.hid hno
    clear hno
    by_cases hlt : k < n
    · obtain ⟨b1, o1, rfl, _, _, f0⟩ := rd_byte (hr.ext e1 hh) (k := k) (by rw [← Hn.out]; omega)
      have hl : k < l.length := by rw [← Hn.out]; omega
      obtain ⟨y, hy⟩ : ∃ y, y = l[k]'hl := ⟨_, rfl⟩
      rw [← hy] at f0
      have HY := Lib.hid hy
      clear hy
      go_wp2_with fail
      refine (badB_any y _).mono ?_
      rintro e w2 ⟨rfl, e2⟩
      cases ho : badB y
      · go_wp2_with fail
        go_roundw
        case rel =>
          refine ⟨k + 1, by omega, by go_num, ?_, by (repeat (first | exact Below.refl _ _ | exact Ext.refl _ | assumption | refine Below.drew ?_ | refine below_drewN ?_ _ | refine below_alloc ?_ (by first | exact Nat.le_refl _ | assumption | (simp; done) | omega | (simp; omega)) _ | refine below_ext ?_ (by assumption) (by first | exact Nat.le_refl _ | assumption | (simp; done) | omega | (simp; omega)) | refine Ext.drew ?_ | refine Ext.drewN ?_ _ | refine Ext.alloc ?_ _ | refine Ext.setCell ?_ (by first | assumption | (simp; done) | (simp; omega)) _ | refine Below.setCell ?_ (by first | assumption | (simp; done) | (simp; omega)) _ | refine Ext.trans ?_ (by assumption)))⟩
          rw [List.take_succ_eq_append_getElem hl, List.any_append, HK.out, ← HY.out]
          simp [ho]
        case measure => simp [intOf]; omega
      · go_wp2_with fail
        go_ret
        refine ⟨k, rfl, ?_, by omega, by (repeat (first | exact Below.refl _ _ | exact Ext.refl _ | assumption | refine Below.drew ?_ | refine below_drewN ?_ _ | refine below_alloc ?_ (by first | exact Nat.le_refl _ | assumption | (simp; done) | omega | (simp; omega)) _ | refine below_ext ?_ (by assumption) (by first | exact Nat.le_refl _ | assumption | (simp; done) | omega | (simp; omega)) | refine Ext.drew ?_ | refine Ext.drewN ?_ _ | refine Ext.alloc ?_ _ | refine Ext.setCell ?_ (by first | assumption | (simp; done) | (simp; omega)) _ | refine Below.setCell ?_ (by first | assumption | (simp; done) | (simp; omega)) _ | refine Ext.trans ?_ (by assumption)))⟩
        have h1 : l.any badB = true := List.any_eq_true.2 ⟨y, by rw [HY.out]; exact List.getElem_mem _, ho⟩
        rw [h1]
        simp
    · go_wp2_with fail
      go_ret
      obtain rfl : k = n := by omega
      have h1 := HK.out
      rw [List.take_of_length_le (by rw [← Hn.out]; exact Nat.le_refl _)] at h1
      exact ⟨-1, rfl, by rw [h1]; rfl, by omega, e1⟩

set_option maxHeartbeats 400000 in
theorem bcont_any (w : World) (A : Option Addr) (n c lo hi : Nat) (l : List UInt8) (hn : n = l.length) (hm : n ≤ 9223372036854775807) (hr : Rd w lo hi A (bytes l)) (hh : hi ≤ w.heap.size) :
    Calls Tryz.prog 93 #[.slice A n c, .func (.func 127) #[] #[]] w fun e w' => e = .returned (.bool (l.any badB)) ∧ Ext w w' := by
  have Hn := Lib.hid hn
  clear hn
  go_enter Tryz.func93, Tryz.ntmps93
  go_wp2_with fail
  refine (bidx_any w A n c lo hi l Hn.out hm hr hh).mono ?_
  rintro e w2 ⟨r, rfl, hany, hr1, e2⟩
  have HA := Lib.hid hany
  clear hany
  go_wp2_with fail
  go_ret
  exact ⟨by rw [HA.out]; rfl, e2⟩
end Go.Proofs.YtmecjjmlccdppaaGreatDoor
