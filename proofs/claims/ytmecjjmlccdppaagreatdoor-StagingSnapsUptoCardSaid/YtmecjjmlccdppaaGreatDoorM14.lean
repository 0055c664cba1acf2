/- The texts Bsm, Rfr, Stg, Bcl in one file. -/
import Derived.Test.YtmecjjmlccdppaaGreatDoorM13
import Derived.Test.YtmecjjmlccdppaaGreatDoorM9
import Derived.Test.YtmecjjmlccdppaaGreatDoorM11
import Derived.Test.YtmecjjmlccdppaaGreatDoorM12
/- The reference's Own and Same of blocks: the walks. -/
namespace Go.Proofs.YtmecjjmlccdppaaGreatDoor
open Go.RowKit
set_option linter.unusedVariables false
set_option linter.unusedSimpArgs false

instance : DecidableEq Blk := fun a b => decidable_of_iff (a.index = b.index ∧ a.data = b.data) (by cases a; cases b; simp)
theorem take_eq_succ {xs ys : List Blk} {k : Nat} (h1 : k < xs.length) (h2 : k < ys.length) (h : xs.take k = ys.take k) (he : xs[k] = ys[k]) : xs.take (k + 1) = ys.take (k + 1) := by
  rw [List.take_succ_eq_append_getElem h1, List.take_succ_eq_append_getElem h2, h, he]
theorem ne_at {xs ys : List Blk} {k : Nat} (h1 : k < xs.length) (h2 : k < ys.length) (hn : xs[k] ≠ ys[k]) : xs ≠ ys := fun e => by
  subst e
  exact hn rfl
theorem toList_ne {a b : ByteArray} (h : a ≠ b) : (a.toList == b.toList) = false := by
  cases hh : (a.toList == b.toList) with
  | false => rfl
  | true =>
    have h1 := eq_of_beq hh
    rw [ByteArray.toList_eq, ByteArray.toList_eq] at h1
    exact absurd (ByteArray.ext (Array.toList_inj.1 h1)) h
theorem toList_self (a : ByteArray) : (a.toList == a.toList) = true := by simp

set_option maxRecDepth 100000 in
set_option maxHeartbeats 2000000 in
theorem rsame_any (w : World) (A B : Option Addr) (n m c d : Nat) (xs ys : List Blk) (hn : n = xs.length) (hm : m = ys.length) (hN : n ≤ 9223372036854775807) (hM : m ≤ 9223372036854775807) (hr : Rd w 0 w.heap.size A (blks xs)) (hs : Rd w 0 w.heap.size B (blks ys)) :
    Calls Tryz.prog 22 #[.slice A n c, .slice B m d] w fun e w' => e = .returned (.bool (decide (xs = ys))) ∧ Ext w w' := by
  have Hn := Lib.hid hn
  have Hm := Lib.hid hm
  have HR := Lib.hid hr
  have HS := Lib.hid hs
  by_cases hne : n = m
  · subst hne
    clear hn hm hr hs
    go_enter Tryz.func22, Tryz.ntmps22
    go_wp2_with fail
    go_loopw [5] (fun i wr => ∃ k : Nat, k ≤ n ∧ i = .int .i64 k ∧ Hid (xs.take k = ys.take k) ∧ Ext w wr) (fun i _ => n - (intOf i).toNat)
    case atStart => exact ⟨0, Nat.zero_le _, rfl, by rw [Hid]; rfl, Ext.refl _⟩
    case round =>
      obtain ⟨k, hk, rfl, HK, e1⟩ := hrel
      by_cases hlt : k < n
      · have l1 : k < xs.length := by rw [← Hn.out]; exact hlt
        have l2 : k < ys.length := by rw [← Hm.out]; exact hlt
        obtain ⟨b1, o1, rfl, _, _, f0, f1⟩ := rd_blk (HR.out.ext e1 (Nat.le_refl _)) l1
        obtain ⟨b2, o2, rfl, _, _, g0, g1⟩ := rd_blk (HS.out.ext e1 (Nat.le_refl _)) l2
        have HT := Lib.hid (take_eq_succ l1 l2 HK.out)
        have HN := Lib.hid (ne_at l1 l2)
        generalize xs[k] = x at *
        generalize ys[k] = y at *
        obtain ⟨xi, xd⟩ := x
        obtain ⟨yi, yd⟩ := y
        by_cases h1 : xi = yi
        · subst h1
          by_cases h2 : xd = yd
          · subst h2
            have c2 := toList_self xd
            have HT2 := Lib.hid (HT.out rfl)
            go_wp2_with fail
            refine wp_region_held_drew (S := fun w' => w' = wr.drew) (by kernel_rfl) rfl (fun hHeld => ?_)
            refine takeL 0 (v := ?_) rfl (by kernel_rfl) (by kernel_rfl) (by kernel_rfl) (fun _ _ _ h => h) (by kernel_rfl) ?_ (by assumption) ?_; rotate_left; (focus (intro w hSw; (try dsimp only at hSw); go_simp <;> with_reducible rfl)); (try simp only [Act.put, List.setIfInBounds_toArray, List.set_cons_zero, List.set_cons_succ])
            refine takeL 1 (v := ?_) rfl (by kernel_rfl) (by kernel_rfl) (by kernel_rfl) (fun _ _ _ h => h) (by kernel_rfl) ?_ (by assumption) ?_; rotate_left; (focus (intro w hSw; (try dsimp only at hSw); go_simp <;> with_reducible rfl)); (try simp only [Act.put, List.setIfInBounds_toArray, List.set_cons_zero, List.set_cons_succ])
            refine takeL 2 (v := ?_) rfl (by kernel_rfl) (by kernel_rfl) (by kernel_rfl) (fun _ _ _ h => h) (by kernel_rfl) ?_ (by assumption) ?_; rotate_left; (focus (intro w hSw; (try dsimp only at hSw); go_simp <;> with_reducible rfl)); (try simp only [Act.put, List.setIfInBounds_toArray, List.set_cons_zero, List.set_cons_succ])
            refine takeL 3 (v := ?_) rfl (by kernel_rfl) (by kernel_rfl) (by kernel_rfl) (fun _ _ _ h => h) (by kernel_rfl) ?_ (by assumption) ?_; rotate_left; (focus (intro w hSw; (try dsimp only at hSw); go_simp <;> with_reducible rfl)); (try simp only [Act.put, List.setIfInBounds_toArray, List.set_cons_zero, List.set_cons_succ])
            refine takeL 4 (v := ?_) rfl (by kernel_rfl) (by kernel_rfl) (by kernel_rfl) (fun _ _ _ h => h) (by kernel_rfl) ?_ (by assumption) ?_; rotate_left; (focus (intro w hSw; (try dsimp only at hSw); go_simp <;> with_reducible rfl)); (try simp only [Act.put, List.setIfInBounds_toArray, List.set_cons_zero, List.set_cons_succ])
            refine takeL 5 (v := ?_) rfl (by kernel_rfl) (by kernel_rfl) (by kernel_rfl) (fun _ _ _ h => h) (by kernel_rfl) ?_ (by assumption) ?_; rotate_left; (focus (intro w hSw; (try dsimp only at hSw); go_simp <;> with_reducible rfl)); (try simp only [Act.put, List.setIfInBounds_toArray, List.set_cons_zero, List.set_cons_succ])
            refine takeL 6 (v := ?_) rfl (by kernel_rfl) (by kernel_rfl) (by kernel_rfl) (fun _ _ _ h => h) (by kernel_rfl) ?_ (by assumption) ?_; rotate_left; (focus (intro w hSw; (try dsimp only at hSw); go_simp <;> with_reducible rfl)); (try simp only [Act.put, List.setIfInBounds_toArray, List.set_cons_zero, List.set_cons_succ])
            refine takeL 7 (v := ?_) rfl (by kernel_rfl) (by kernel_rfl) (by kernel_rfl) (fun _ _ _ h => h) (by kernel_rfl) ?_ (by assumption) ?_; rotate_left; (focus (intro w hSw; (try dsimp only at hSw); go_simp <;> with_reducible rfl)); (try simp only [Act.put, List.setIfInBounds_toArray, List.set_cons_zero, List.set_cons_succ])
            refine takeL 8 (v := ?_) rfl (by kernel_rfl) (by kernel_rfl) (by kernel_rfl) (fun _ _ _ h => h) (by kernel_rfl) ?_ (by assumption) ?_; rotate_left; (focus (intro w hSw; (try dsimp only at hSw); go_simp <;> with_reducible rfl)); (try simp only [Act.put, List.setIfInBounds_toArray, List.set_cons_zero, List.set_cons_succ])
            refine wpAnyH_done (by kernel_rfl) ?_ _
            go_wp2_with fail
            go_roundw
            case rel => exact ⟨k + 1, by omega, by go_num, HT2, by (repeat (first | exact Below.refl _ _ | exact Ext.refl _ | assumption | refine Below.drew ?_ | refine below_drewN ?_ _ | refine below_alloc ?_ (by first | exact Nat.le_refl _ | assumption | (simp; done) | omega | (simp; omega)) _ | refine below_ext ?_ (by assumption) (by first | exact Nat.le_refl _ | assumption | (simp; done) | omega | (simp; omega)) | refine Ext.drew ?_ | refine Ext.drewN ?_ _ | refine Ext.alloc ?_ _ | refine Ext.setCell ?_ (by first | assumption | (simp; done) | (simp; omega)) _ | refine Below.setCell ?_ (by first | assumption | (simp; done) | (simp; omega)) _ | refine Ext.trans ?_ (by assumption)))⟩
            case measure => simp [intOf]; omega
          · have c2 := toList_ne h2
            have HF := Lib.hid (HN.out (by simp [h2]))
            clear h2
            go_wp2_with fail
            refine wp_region_held_drew (S := fun w' => w' = wr.drew) (by kernel_rfl) rfl (fun hHeld => ?_)
            refine takeL 0 (v := ?_) rfl (by kernel_rfl) (by kernel_rfl) (by kernel_rfl) (fun _ _ _ h => h) (by kernel_rfl) ?_ (by assumption) ?_; rotate_left; (focus (intro w hSw; (try dsimp only at hSw); go_simp <;> with_reducible rfl)); (try simp only [Act.put, List.setIfInBounds_toArray, List.set_cons_zero, List.set_cons_succ])
            refine takeL 1 (v := ?_) rfl (by kernel_rfl) (by kernel_rfl) (by kernel_rfl) (fun _ _ _ h => h) (by kernel_rfl) ?_ (by assumption) ?_; rotate_left; (focus (intro w hSw; (try dsimp only at hSw); go_simp <;> with_reducible rfl)); (try simp only [Act.put, List.setIfInBounds_toArray, List.set_cons_zero, List.set_cons_succ])
            refine takeL 2 (v := ?_) rfl (by kernel_rfl) (by kernel_rfl) (by kernel_rfl) (fun _ _ _ h => h) (by kernel_rfl) ?_ (by assumption) ?_; rotate_left; (focus (intro w hSw; (try dsimp only at hSw); go_simp <;> with_reducible rfl)); (try simp only [Act.put, List.setIfInBounds_toArray, List.set_cons_zero, List.set_cons_succ])
            refine takeL 3 (v := ?_) rfl (by kernel_rfl) (by kernel_rfl) (by kernel_rfl) (fun _ _ _ h => h) (by kernel_rfl) ?_ (by assumption) ?_; rotate_left; (focus (intro w hSw; (try dsimp only at hSw); go_simp <;> with_reducible rfl)); (try simp only [Act.put, List.setIfInBounds_toArray, List.set_cons_zero, List.set_cons_succ])
            refine takeL 4 (v := ?_) rfl (by kernel_rfl) (by kernel_rfl) (by kernel_rfl) (fun _ _ _ h => h) (by kernel_rfl) ?_ (by assumption) ?_; rotate_left; (focus (intro w hSw; (try dsimp only at hSw); go_simp <;> with_reducible rfl)); (try simp only [Act.put, List.setIfInBounds_toArray, List.set_cons_zero, List.set_cons_succ])
            refine takeL 5 (v := ?_) rfl (by kernel_rfl) (by kernel_rfl) (by kernel_rfl) (fun _ _ _ h => h) (by kernel_rfl) ?_ (by assumption) ?_; rotate_left; (focus (intro w hSw; (try dsimp only at hSw); go_simp <;> with_reducible rfl)); (try simp only [Act.put, List.setIfInBounds_toArray, List.set_cons_zero, List.set_cons_succ])
            refine takeL 6 (v := ?_) rfl (by kernel_rfl) (by kernel_rfl) (by kernel_rfl) (fun _ _ _ h => h) (by kernel_rfl) ?_ (by assumption) ?_; rotate_left; (focus (intro w hSw; (try dsimp only at hSw); go_simp <;> with_reducible rfl)); (try simp only [Act.put, List.setIfInBounds_toArray, List.set_cons_zero, List.set_cons_succ])
            refine takeL 7 (v := ?_) rfl (by kernel_rfl) (by kernel_rfl) (by kernel_rfl) (fun _ _ _ h => h) (by kernel_rfl) ?_ (by assumption) ?_; rotate_left; (focus (intro w hSw; (try dsimp only at hSw); go_simp <;> with_reducible rfl)); (try simp only [Act.put, List.setIfInBounds_toArray, List.set_cons_zero, List.set_cons_succ])
            refine takeL 8 (v := ?_) rfl (by kernel_rfl) (by kernel_rfl) (by kernel_rfl) (fun _ _ _ h => h) (by kernel_rfl) ?_ (by assumption) ?_; rotate_left; (focus (intro w hSw; (try dsimp only at hSw); go_simp <;> with_reducible rfl)); (try simp only [Act.put, List.setIfInBounds_toArray, List.set_cons_zero, List.set_cons_succ])
            refine wpAnyH_done (by kernel_rfl) ?_ _
            go_wp2_with fail
            go_ret
            exact ⟨by rw [decide_eq_false HF.out]; rfl, by (repeat (first | exact Below.refl _ _ | exact Ext.refl _ | assumption | refine Below.drew ?_ | refine below_drewN ?_ _ | refine below_alloc ?_ (by first | exact Nat.le_refl _ | assumption | (simp; done) | omega | (simp; omega)) _ | refine below_ext ?_ (by assumption) (by first | exact Nat.le_refl _ | assumption | (simp; done) | omega | (simp; omega)) | refine Ext.drew ?_ | refine Ext.drewN ?_ _ | refine Ext.alloc ?_ _ | refine Ext.setCell ?_ (by first | assumption | (simp; done) | (simp; omega)) _ | refine Below.setCell ?_ (by first | assumption | (simp; done) | (simp; omega)) _ | refine Ext.trans ?_ (by assumption)))⟩
        · have c1 : (xi == yi) = false := by simp [h1]
          have HF := Lib.hid (HN.out (by simp [h1]))
          clear h1
          go_wp2_with fail
          refine wp_region_held_drew (S := fun w' => w' = wr.drew) (by kernel_rfl) rfl (fun hHeld => ?_)
          refine takeL 0 (v := ?_) rfl (by kernel_rfl) (by kernel_rfl) (by kernel_rfl) (fun _ _ _ h => h) (by kernel_rfl) ?_ (by assumption) ?_; rotate_left; (focus (intro w hSw; (try dsimp only at hSw); go_simp <;> with_reducible rfl)); (try simp only [Act.put, List.setIfInBounds_toArray, List.set_cons_zero, List.set_cons_succ])
          refine takeL 1 (v := ?_) rfl (by kernel_rfl) (by kernel_rfl) (by kernel_rfl) (fun _ _ _ h => h) (by kernel_rfl) ?_ (by assumption) ?_; rotate_left; (focus (intro w hSw; (try dsimp only at hSw); go_simp <;> with_reducible rfl)); (try simp only [Act.put, List.setIfInBounds_toArray, List.set_cons_zero, List.set_cons_succ])
          refine takeL 2 (v := ?_) rfl (by kernel_rfl) (by kernel_rfl) (by kernel_rfl) (fun _ _ _ h => h) (by kernel_rfl) ?_ (by assumption) ?_; rotate_left; (focus (intro w hSw; (try dsimp only at hSw); go_simp <;> with_reducible rfl)); (try simp only [Act.put, List.setIfInBounds_toArray, List.set_cons_zero, List.set_cons_succ])
          refine takeL 3 (v := ?_) rfl (by kernel_rfl) (by kernel_rfl) (by kernel_rfl) (fun _ _ _ h => h) (by kernel_rfl) ?_ (by assumption) ?_; rotate_left; (focus (intro w hSw; (try dsimp only at hSw); go_simp <;> with_reducible rfl)); (try simp only [Act.put, List.setIfInBounds_toArray, List.set_cons_zero, List.set_cons_succ])
          refine takeL 4 (v := ?_) rfl (by kernel_rfl) (by kernel_rfl) (by kernel_rfl) (fun _ _ _ h => h) (by kernel_rfl) ?_ (by assumption) ?_; rotate_left; (focus (intro w hSw; (try dsimp only at hSw); go_simp <;> with_reducible rfl)); (try simp only [Act.put, List.setIfInBounds_toArray, List.set_cons_zero, List.set_cons_succ])
          refine takeL 5 (v := ?_) rfl (by kernel_rfl) (by kernel_rfl) (by kernel_rfl) (fun _ _ _ h => h) (by kernel_rfl) ?_ (by assumption) ?_; rotate_left; (focus (intro w hSw; (try dsimp only at hSw); go_simp <;> with_reducible rfl)); (try simp only [Act.put, List.setIfInBounds_toArray, List.set_cons_zero, List.set_cons_succ])
          refine takeL 6 (v := ?_) rfl (by kernel_rfl) (by kernel_rfl) (by kernel_rfl) (fun _ _ _ h => h) (by kernel_rfl) ?_ (by assumption) ?_; rotate_left; (focus (intro w hSw; (try dsimp only at hSw); go_simp <;> with_reducible rfl)); (try simp only [Act.put, List.setIfInBounds_toArray, List.set_cons_zero, List.set_cons_succ])
          refine takeL 7 (v := ?_) rfl (by kernel_rfl) (by kernel_rfl) (by kernel_rfl) (fun _ _ _ h => h) (by kernel_rfl) ?_ (by assumption) ?_; rotate_left; (focus (intro w hSw; (try dsimp only at hSw); go_simp <;> with_reducible rfl)); (try simp only [Act.put, List.setIfInBounds_toArray, List.set_cons_zero, List.set_cons_succ])
          refine takeL 8 (v := ?_) rfl (by kernel_rfl) (by kernel_rfl) (by kernel_rfl) (fun _ _ _ h => h) (by kernel_rfl) ?_ (by assumption) ?_; rotate_left; (focus (intro w hSw; (try dsimp only at hSw); go_simp <;> with_reducible rfl)); (try simp only [Act.put, List.setIfInBounds_toArray, List.set_cons_zero, List.set_cons_succ])
          refine wpAnyH_done (by kernel_rfl) ?_ _
          go_wp2_with fail
          go_ret
          exact ⟨by rw [decide_eq_false HF.out]; rfl, by (repeat (first | exact Below.refl _ _ | exact Ext.refl _ | assumption | refine Below.drew ?_ | refine below_drewN ?_ _ | refine below_alloc ?_ (by first | exact Nat.le_refl _ | assumption | (simp; done) | omega | (simp; omega)) _ | refine below_ext ?_ (by assumption) (by first | exact Nat.le_refl _ | assumption | (simp; done) | omega | (simp; omega)) | refine Ext.drew ?_ | refine Ext.drewN ?_ _ | refine Ext.alloc ?_ _ | refine Ext.setCell ?_ (by first | assumption | (simp; done) | (simp; omega)) _ | refine Below.setCell ?_ (by first | assumption | (simp; done) | (simp; omega)) _ | refine Ext.trans ?_ (by assumption)))⟩
      · obtain rfl : k = n := by omega
        have HE : Hid (xs = ys) := by
          have h := HK.out
          rw [List.take_of_length_le (by rw [← Hn.out]; exact Nat.le_refl _), List.take_of_length_le (by rw [← Hm.out]; exact Nat.le_refl _)] at h
          exact h
        go_wp2_with fail
        go_ret
        exact ⟨by rw [decide_eq_true HE.out]; rfl, e1⟩
  · have HF : Hid (xs ≠ ys) := fun e => hne (by rw [hn, hm, e])
    have hb : ((n : Int) != (m : Int)) = true := by simp; omega
    clear hn hm hr hs
    go_enter Tryz.func22, Tryz.ntmps22
    go_wp2_with fail
    go_ret
    exact ⟨by rw [decide_eq_false HF.out]; rfl, Ext.refl _⟩
end Go.Proofs.YtmecjjmlccdppaaGreatDoor
/- The reference's Free of blocks: the walk. -/
namespace Go.Proofs.YtmecjjmlccdppaaGreatDoor
open Go.RowKit
set_option linter.unusedVariables false
set_option linter.unusedSimpArgs false

theorem infoB : (Tryz.prog.info? 46).map (fun i => (i.zero, i.size, i.bytes)) = some (some (.agg #[.int .i64 0, .string .empty]), 2, 24) := by kernel_rfl
theorem bkE_cases (xs : List Blk) : bkE xs = 0 ∨ bkE xs = 9 := by
  rw [bkE]
  split
  · exact Or.inr rfl
  · exact Or.inl rfl
/-- does a block stay? -/
def stays (i c : Int) (x : Blk) : Bool := decide (x.index < i) || decide (i + c ≤ x.index)
def frBad (i c : Int) : Bool := decide (i < 0) || decide (1024 ≤ i) || decide (c < 1) || decide (1024 - i < c)
def frE (xs : List Blk) (i c : Int) : Int := if bkE xs ≠ 0 then 9 else if frBad i c then 4 else 0
def frd (xs : List Blk) (i c : Int) : List Blk := if frE xs i c = 0 then xs.filter (stays i c) else []
/-- what a changed content's walk tells: the content in memory of its own, and an error -/
def BkOut (w : World) (zs : List Blk) (E : Int) (e : Ending) (w' : World) : Prop :=
  ∃ v, e = .returned (.tuple #[v, .int .i64 E]) ∧ w'.ownsRow w.heap.size 46 2 v zs.length (blks zs) ∧ Ext w w'
theorem bkOut_nil {w w' : World} {zs : List Blk} {E E' : Int} (hz : zs = []) (hE : E = E') (e : Ext w w') : BkOut w zs E (.returned (.tuple #[.slice none 0 0, .int .i64 E'])) w' := by
  subst hz hE
  exact ⟨_, rfl, World.ownsRow_nil _ _ _ _, e⟩
theorem filter_snoc (f : Blk → Bool) (xs : List Blk) (k : Nat) (h : k < xs.length) : (xs.take (k + 1)).filter f = (xs.take k).filter f ++ (if f xs[k] then [xs[k]] else []) := by
  rw [List.take_succ_eq_append_getElem h, List.filter_append, List.filter_cons, List.filter_nil]

set_option maxRecDepth 100000 in
set_option maxHeartbeats 4000000 in
theorem rfree_any (w : World) (A : Option Addr) (n c : Nat) (xs : List Blk) (hn : n = xs.length) (hN : n ≤ 100000000000) (hr : Rd w 0 w.heap.size A (blks xs)) (hwf : ∀ x ∈ xs, x.wf) (i j : Int) (hi : -9223372036854775808 ≤ i ∧ i ≤ 9223372036854775807) (hj : -9223372036854775808 ≤ j ∧ j ≤ 9223372036854775807) :
    Calls Tryz.prog 79 #[.slice A n c, .int .i64 i, .int .i64 j] w (BkOut w (frd xs i j) (frE xs i j)) := by
  obtain ⟨i0, hi0, hz0, hz1, hz2⟩ := info_parts infoB
  have Hn := Lib.hid hn
  have HR := Lib.hid hr
  have HW := Lib.hid hwf
  have HC := Lib.hid (rbcheck_any w A n c xs hn (by omega) hr hwf)
  have HB := Lib.hid (bkE_cases xs)
  have HE := Lib.hid (show frE xs i j = if bkE xs ≠ 0 then 9 else if frBad i j then 4 else 0 from rfl)
  have HF := Lib.hid (show frd xs i j = if frE xs i j = 0 then xs.filter (stays i j) else [] from rfl)
  clear hn hr hwf
  go_enter Tryz.func79, Tryz.ntmps79
  go_wp2_with fail
  refine HC.out.mono ?_
  rintro e w2 ⟨rfl, e2⟩
  rcases HB.out with hb | hb
  · have HE1 := Lib.hid (show frE xs i j = if frBad i j then 4 else 0 by rw [HE.out, if_neg (by rw [hb]; decide)])
    rw [hb]
    by_cases q : frBad i j = true
    · have HE2 := Lib.hid (show frE xs i j = 4 by rw [HE1.out, if_pos q])
      have HF2 := Lib.hid (show frd xs i j = [] by rw [HF.out, HE2.out]; rfl)
      simp only [frBad, Bool.or_eq_true, decide_eq_true_eq] at q
      by_cases q1 : i < 0
      · clear q
        go_wp2_with fail
        go_ret2
        exact bkOut_nil HF2.out HE2.out e2
      · by_cases q2 : 1024 ≤ i
        · clear q
          go_wp2_with fail
          go_ret2
          exact bkOut_nil HF2.out HE2.out e2
        · by_cases q3 : j < 1
          · clear q
            go_wp2_with fail
            go_ret2
            exact bkOut_nil HF2.out HE2.out e2
          · have q4 : 1024 - i < j := by omega
            clear q
            go_wp2_with fail
            go_ret2
            exact bkOut_nil HF2.out HE2.out e2
    · have HE2 := Lib.hid (show frE xs i j = 0 by rw [HE1.out, if_neg q])
      have HF2 := Lib.hid (show frd xs i j = xs.filter (stays i j) by rw [HF.out, HE2.out]; rfl)
      simp only [frBad, Bool.or_eq_true, decide_eq_true_eq, not_or] at q
      obtain ⟨⟨⟨q1, q2⟩, q3⟩, q4⟩ := q
      go_wp2_with fail
      go_loopw [8, 9] (fun v a wr => ∃ k : Nat, k ≤ n ∧ a = .int .i64 k ∧ wr.ownsRow w.heap.size 46 2 v ((xs.take k).filter (stays i j)).length (blks ((xs.take k).filter (stays i j))) ∧ Ext w wr) (fun _ a _ => n - (intOf a).toNat)
      case atStart => exact ⟨0, Nat.zero_le _, rfl, World.ownsRow_nil _ _ _ _, e2⟩
      case round =>
        obtain ⟨k, hk, rfl, hown, e1⟩ := hrel
        by_cases hlt : k < n
        · have l1 : k < xs.length := by rw [← Hn.out]; exact hlt
          obtain ⟨b1, o1, rfl, _, _, f0, f1⟩ := rd_blk (HR.out.ext e1 (Nat.le_refl _)) l1
          have HS := Lib.hid (filter_snoc (stays i j) xs k l1)
          have hm := HW.out xs[k] (List.getElem_mem _)
          have hlen : ((xs.take k).filter (stays i j)).length ≤ k := Nat.le_trans (List.length_filter_le _ _) (List.length_take_le _ _)
          obtain ⟨zs', hz'⟩ : ∃ z, z = (xs.take (k + 1)).filter (stays i j) := ⟨_, rfl⟩
          rw [← hz'] at HS
          have HZe := Lib.hid hz'
          clear hz'
          generalize (xs.take k).filter (stays i j) = zs at *
          generalize xs[k] = x at *
          obtain ⟨xi, xd⟩ := x
          obtain ⟨m1, m2, m3⟩ := hm
          dsimp only at f0 f1 m1 m2 m3
          by_cases hs : stays i j ⟨xi, xd⟩ = true
          · have HZ := Lib.hid (show zs' = zs ++ [⟨xi, xd⟩] by rw [HS.out, if_pos hs])
            have HO := Lib.hid (show (zs.length + 1) * 24 ≤ 140737488355328 by omega)
            have HO2 := Lib.hid (show w.heap.size ≤ (wr.alloc (.cells #[.int .i64 xi, .string xd] 46)).heap.size by have := e1.size; simp; omega)
            simp only [stays, Bool.or_eq_true, decide_eq_true_eq] at hs
            have HOwn := Lib.hid hown
            clear hown
            by_cases s1 : xi < i
            · clear hs
              go_upto_region 10 with fail
              iterate 60 (first | at_builtin | go_step)
              refine list_app _ rfl (.tmp 53) (.tmp 58) _ rfl 46 i0 _ 2 24 Tryz.underlying28 hi0 hz0 hz1 hz2 rfl (by omega) _ _ zs.length _ rfl (HOwn.out.alloc _) 0 _ _ 1 1 (Blk.cells ⟨xi, xd⟩) rfl rfl
                ((rd_new _ _ _).more (Nat.zero_le _) (Nat.le_refl _)) (by simp [Blk.cells, Value.oneCell']) (by have := HO.out; simp only [maxLen]; omega) HO.out HO2.out ?_
              intro v7 w7 hown7 he7 _ _
              have e9 : Ext w w7 := he7 _ (e1.alloc _) (Nat.le_refl _)
              clear he7
              go_wp2_with fail
              go_roundw
              case rel =>
                refine ⟨k + 1, by omega, by go_num, ?_, e9⟩
                rw [← HZe.out, HZ.out, List.length_append, blks_append]; exact hown7
              case measure => simp [intOf]; omega
            · have s2 : i + j ≤ xi := by omega
              clear hs
              go_upto_region 10 with fail
              iterate 60 (first | at_builtin | go_step)
              refine list_app _ rfl (.tmp 53) (.tmp 58) _ rfl 46 i0 _ 2 24 Tryz.underlying28 hi0 hz0 hz1 hz2 rfl (by omega) _ _ zs.length _ rfl (HOwn.out.alloc _) 0 _ _ 1 1 (Blk.cells ⟨xi, xd⟩) rfl rfl
                ((rd_new _ _ _).more (Nat.zero_le _) (Nat.le_refl _)) (by simp [Blk.cells, Value.oneCell']) (by have := HO.out; simp only [maxLen]; omega) HO.out HO2.out ?_
              intro v7 w7 hown7 he7 _ _
              have e9 : Ext w w7 := he7 _ (e1.alloc _) (Nat.le_refl _)
              clear he7
              go_wp2_with fail
              go_roundw
              case rel =>
                refine ⟨k + 1, by omega, by go_num, ?_, e9⟩
                rw [← HZe.out, HZ.out, List.length_append, blks_append]; exact hown7
              case measure => simp [intOf]; omega
          · have HZ := Lib.hid (show zs' = zs by rw [HS.out, if_neg hs, List.append_nil])
            simp only [stays, Bool.or_eq_true, decide_eq_true_eq, not_or] at hs
            obtain ⟨s1, s2⟩ := hs
            have HOwn := Lib.hid hown
            clear hown
            go_wp2_with fail
            go_roundw
            case rel => exact ⟨k + 1, by omega, by go_num, by rw [← HZe.out, HZ.out]; exact HOwn.out, e1⟩
            case measure => simp [intOf]; omega
        · obtain rfl : k = n := by omega
          have ht : xs.take k = xs := List.take_of_length_le (by rw [← Hn.out]; exact Nat.le_refl _)
          rw [ht] at hown
          have HOwn := Lib.hid hown
          clear hown ht
          go_wp2_with fail
          go_ret2
          exact ⟨_, by rw [HE2.out]; rfl, by rw [HF2.out]; exact HOwn.out, e1⟩
  · have HE2 := Lib.hid (show frE xs i j = 9 by rw [HE.out, if_pos (by rw [hb]; decide)])
    have HF2 := Lib.hid (show frd xs i j = [] by rw [HF.out, HE2.out]; rfl)
    rw [hb]
    go_wp2_with fail
    go_ret2
    exact bkOut_nil HF2.out HE2.out e2
end Go.Proofs.YtmecjjmlccdppaaGreatDoor
/- A stage: staging.Check and the reference's Stage. -/
namespace Go.Proofs.YtmecjjmlccdppaaGreatDoor
open Go.RowKit
set_option linter.unusedVariables false
set_option linter.unusedSimpArgs false

structure Stg where
  into : ByteArray
  beg : Rec
  bA : Option Addr
  bn : Nat
  bc : Nat
  body : List Blk
  pos : Int
  next : Int
  su : Su
  done : Bool
def Stg.cells (x : Stg) : List Value := .string x.into :: (x.beg.cells ++ (.slice x.bA x.bn x.bc :: .int .i64 x.pos :: .int .i64 x.next :: (x.su.cells ++ [.bool x.done])))
/-- a stage that came in, of moderate bulk -/
structure Stg.ok (w : World) (x : Stg) : Prop where
  into : x.into.size ≤ 100000000
  beg : x.beg.wf
  begR : Rd w 0 w.heap.size x.beg.oA (prps x.beg.own)
  begN : x.beg.on ≤ 100000000
  begS : (sumR x.beg).wf
  bodyN : x.bn = x.body.length
  bodyM : x.bn ≤ 100000000
  bodyR : Rd w 0 w.heap.size x.bA (blks x.body)
  bodyW : ∀ y ∈ x.body, y.wf
  pos : -9223372036854775808 ≤ x.pos ∧ x.pos ≤ 9223372036854775807
  next : -9223372036854775808 ≤ x.next ∧ x.next ≤ 9223372036854775807
  su : x.su.wf
theorem Stg.ok.ext {w w' : World} {x : Stg} (h : x.ok w) (e : Ext w w') : x.ok w' :=
  ⟨h.into, h.beg, Rd.at h.begR e (Nat.le_refl _), h.begN, h.begS, h.bodyN, h.bodyM, Rd.at h.bodyR e (Nat.le_refl _), h.bodyW, h.pos, h.next, h.su⟩
def amt (n : Int) : Bool := decide (0 ≤ n) && decide (n ≤ 1099511627776)
def stB (x : Stg) : Bool := !x.into.toList.isEmpty && (pathB x.into && (x.beg.kind == 1 && (decide (recE x.beg = 0) && (decide (bkE x.body = 0) && (amt x.pos && amt x.next)))))
theorem sizeStg : (Tryz.prog.info? 30).map (·.size) = some 21 := by kernel_rfl
set_option maxRecDepth 100000 in
theorem amount_any (w : World) (a : Int) (h1 : -9223372036854775808 ≤ a) (h2 : a ≤ 9223372036854775807) :
    Calls Tryz.prog 28 #[.int .i64 a] w fun e w' => e = .returned (.bool (amt a)) ∧ Ext w w' := by
  by_cases q1 : 0 ≤ a
  · by_cases q2 : a ≤ 1099511627776
    · have hv := Lib.hid (show amt a = true by rw [amt, decide_eq_true q1, decide_eq_true q2]; rfl)
      go_enter Tryz.func28, Tryz.ntmps28
      go_wp2
      go_ret
      exact ⟨by rw [hv.out]; rfl, Ext.refl _⟩
    · have hv := Lib.hid (show amt a = false by rw [amt, decide_eq_true q1, decide_eq_false q2]; rfl)
      go_enter Tryz.func28, Tryz.ntmps28
      go_wp2
      go_ret
      exact ⟨by rw [hv.out]; rfl, Ext.refl _⟩
  · have hv := Lib.hid (show amt a = false by rw [amt, decide_eq_false q1]; rfl)
    go_enter Tryz.func28, Tryz.ntmps28
    go_wp2
    go_ret
    exact ⟨by rw [hv.out]; rfl, Ext.refl _⟩

def stE (x : Stg) : Int := if stB x then 0 else 9
set_option maxRecDepth 100000 in
set_option maxHeartbeats 8000000 in
theorem scheck_any (w : World) (x : Stg) (hx : x.ok w) (hM : MaxV w) :
    Calls Tryz.prog 11 #[.agg x.cells.toArray] w fun e w' => e = .returned (.int .i64 (stE x)) ∧ Ext w w' := by
  have HPa := Lib.hid (fun W (hW : Ext w W) => path_any x.into W (hM.ext hW) (by have := hx.into; omega))
  have HRe := Lib.hid (fun W (hW : Ext w W) => check_any W x.beg (Rd.at hx.begR hW (Nat.le_refl _)) hx.beg)
  have HBk := Lib.hid (fun W (hW : Ext w W) => bcheck_any W x.bA x.bn x.bc x.body hx.bodyN (by have := hx.bodyM; omega) (Rd.at hx.bodyR hW (Nat.le_refl _)) hx.bodyW)
  have HA1 := Lib.hid (fun W => amount_any W x.pos hx.pos.1 hx.pos.2)
  have HA2 := Lib.hid (fun W => amount_any W x.next hx.next.1 hx.next.2)
  have HV := Lib.hid (show stE x = if stB x then 0 else 9 from rfl)
  have HS := Lib.hid (show stB x = (!x.into.toList.isEmpty && (pathB x.into && (x.beg.kind == 1 && (decide (recE x.beg = 0) && (decide (bkE x.body = 0) && (amt x.pos && amt x.next)))))) from rfl)
  clear hx hM
  generalize stE x = V at *
  generalize stB x = SB at *
  obtain ⟨into, ⟨kind, name, frm, guid, oA, on, oc, own, index, count, data, s0, s1, s2, s3⟩, bA, bn, bc, body, pos, next, ⟨ua, ub, uc, ud⟩, dn⟩ := x
  dsimp only at HPa HBk HA1 HA2 HS
  simp only [Rec.cells] at HRe
  generalize hrE : recE _ = RE at HRe HS
  clear hrE
  generalize hbE : bkE body = BE at HBk HS
  clear hbE
  by_cases c1 : into.size = 0
  · obtain rfl := empty_of into c1
    have e0 : (⟨#[]⟩ : ByteArray).toList.isEmpty = true := by rw [ByteArray.toList_eq]; rfl
    have HF := Lib.hid (show V = 9 by rw [HV.out, HS.out, e0]; rfl)
    clear c1 e0
    simp only [Stg.cells, Rec.cells, Su.cells, List.cons_append, List.nil_append]; go_enter Tryz.func11, Tryz.ntmps11; go_upto_region 1 with fail; generalize hwH : World.alloc w _ = w1; have HH := Lib.hid (Heap.one hwH); clear hwH; go_wp2_with (first | (go_big_want; refine sh_load HH.out sizeRec (by kernel_rfl) rfl rfl 0 rfl (Nat.le_of_ble_eq_true rfl) ?_) | (go_big_want; refine sh_load1 HH.out rfl rfl 0 rfl rfl (by decide +kernel) ?_) | (refine shl_load1 HH.out rfl rfl rfl 0 rfl rfl (by decide +kernel) ?_) | (go_at_call 25; (with_reducible refine (HPa.out _ HH.out.ext).mono ?_); rintro e wC ⟨rfl, eC⟩; have HHn := Lib.hid (HH.out.later eC); clear HH eC; have HH := HHn; clear HHn) | (go_at_call 26; (with_reducible refine (HRe.out _ HH.out.ext).mono ?_); rintro e wC ⟨rfl, eC⟩; have HHn := Lib.hid (HH.out.later eC); clear HH eC; have HH := HHn; clear HHn) | (go_at_call 27; (with_reducible refine (HBk.out _ HH.out.ext).mono ?_); rintro e wC ⟨rfl, eC⟩; have HHn := Lib.hid (HH.out.later eC); clear HH eC; have HH := HHn; clear HHn) | (go_at_call 28; (with_reducible refine (HA1.out _).mono ?_); rintro e wC ⟨rfl, eC⟩; have HHn := Lib.hid (HH.out.later eC); clear HH eC; have HH := HHn; clear HHn) | (go_at_call 28; (with_reducible refine (HA2.out _).mono ?_); rintro e wC ⟨rfl, eC⟩; have HHn := Lib.hid (HH.out.later eC); clear HH eC; have HH := HHn; clear HHn)); go_ret; exact ⟨by rw [HF.out]; rfl, HH.out.ext⟩
  · have b0 : into.toList.isEmpty = false := by
      rw [ByteArray.toList_eq, List.isEmpty_eq_false_iff]
      intro e
      have := len_data into
      rw [e] at this
      exact c1 this.symm
    clear c1
    rw [b0, Bool.not_false, Bool.true_and] at HS
    by_cases c2 : pathB into = true
    · rw [c2, Bool.true_and] at HS
      by_cases c3 : kind = 1
      · subst c3
        rw [show ((1 : Int) == 1) = true from rfl, Bool.true_and] at HS
        by_cases c4 : RE = 0
        · subst c4
          rw [decide_eq_true (rfl : (0 : Int) = 0), Bool.true_and] at HS
          by_cases c5 : BE = 0
          · subst c5
            rw [decide_eq_true (rfl : (0 : Int) = 0), Bool.true_and] at HS
            by_cases c6 : amt pos = true
            · rw [c6, Bool.true_and] at HS
              by_cases c7 : amt next = true
              · have HF := Lib.hid (show V = 0 by rw [HV.out, HS.out, c7]; rfl)
                simp only [Stg.cells, Rec.cells, Su.cells, List.cons_append, List.nil_append]; go_enter Tryz.func11, Tryz.ntmps11; go_upto_region 1 with fail; generalize hwH : World.alloc w _ = w1; have HH := Lib.hid (Heap.one hwH); clear hwH; go_wp2_with (first | (go_big_want; refine sh_load HH.out sizeRec (by kernel_rfl) rfl rfl 0 rfl (Nat.le_of_ble_eq_true rfl) ?_) | (go_big_want; refine sh_load1 HH.out rfl rfl 0 rfl rfl (by decide +kernel) ?_) | (refine shl_load1 HH.out rfl rfl rfl 0 rfl rfl (by decide +kernel) ?_) | (go_at_call 25; (with_reducible refine (HPa.out _ HH.out.ext).mono ?_); rintro e wC ⟨rfl, eC⟩; have HHn := Lib.hid (HH.out.later eC); clear HH eC; have HH := HHn; clear HHn) | (go_at_call 26; (with_reducible refine (HRe.out _ HH.out.ext).mono ?_); rintro e wC ⟨rfl, eC⟩; have HHn := Lib.hid (HH.out.later eC); clear HH eC; have HH := HHn; clear HHn) | (go_at_call 27; (with_reducible refine (HBk.out _ HH.out.ext).mono ?_); rintro e wC ⟨rfl, eC⟩; have HHn := Lib.hid (HH.out.later eC); clear HH eC; have HH := HHn; clear HHn) | (go_at_call 28; (with_reducible refine (HA1.out _).mono ?_); rintro e wC ⟨rfl, eC⟩; have HHn := Lib.hid (HH.out.later eC); clear HH eC; have HH := HHn; clear HHn) | (go_at_call 28; (with_reducible refine (HA2.out _).mono ?_); rintro e wC ⟨rfl, eC⟩; have HHn := Lib.hid (HH.out.later eC); clear HH eC; have HH := HHn; clear HHn)); go_ret; exact ⟨by rw [HF.out]; rfl, HH.out.ext⟩
              · rw [Bool.not_eq_true] at c7
                have HF := Lib.hid (show V = 9 by rw [HV.out, HS.out, c7]; rfl)
                simp only [Stg.cells, Rec.cells, Su.cells, List.cons_append, List.nil_append]; go_enter Tryz.func11, Tryz.ntmps11; go_upto_region 1 with fail; generalize hwH : World.alloc w _ = w1; have HH := Lib.hid (Heap.one hwH); clear hwH; go_wp2_with (first | (go_big_want; refine sh_load HH.out sizeRec (by kernel_rfl) rfl rfl 0 rfl (Nat.le_of_ble_eq_true rfl) ?_) | (go_big_want; refine sh_load1 HH.out rfl rfl 0 rfl rfl (by decide +kernel) ?_) | (refine shl_load1 HH.out rfl rfl rfl 0 rfl rfl (by decide +kernel) ?_) | (go_at_call 25; (with_reducible refine (HPa.out _ HH.out.ext).mono ?_); rintro e wC ⟨rfl, eC⟩; have HHn := Lib.hid (HH.out.later eC); clear HH eC; have HH := HHn; clear HHn) | (go_at_call 26; (with_reducible refine (HRe.out _ HH.out.ext).mono ?_); rintro e wC ⟨rfl, eC⟩; have HHn := Lib.hid (HH.out.later eC); clear HH eC; have HH := HHn; clear HHn) | (go_at_call 27; (with_reducible refine (HBk.out _ HH.out.ext).mono ?_); rintro e wC ⟨rfl, eC⟩; have HHn := Lib.hid (HH.out.later eC); clear HH eC; have HH := HHn; clear HHn) | (go_at_call 28; (with_reducible refine (HA1.out _).mono ?_); rintro e wC ⟨rfl, eC⟩; have HHn := Lib.hid (HH.out.later eC); clear HH eC; have HH := HHn; clear HHn) | (go_at_call 28; (with_reducible refine (HA2.out _).mono ?_); rintro e wC ⟨rfl, eC⟩; have HHn := Lib.hid (HH.out.later eC); clear HH eC; have HH := HHn; clear HHn)); go_ret; exact ⟨by rw [HF.out]; rfl, HH.out.ext⟩
            · rw [Bool.not_eq_true] at c6
              have HF := Lib.hid (show V = 9 by rw [HV.out, HS.out, c6]; rfl)
              simp only [Stg.cells, Rec.cells, Su.cells, List.cons_append, List.nil_append]; go_enter Tryz.func11, Tryz.ntmps11; go_upto_region 1 with fail; generalize hwH : World.alloc w _ = w1; have HH := Lib.hid (Heap.one hwH); clear hwH; go_wp2_with (first | (go_big_want; refine sh_load HH.out sizeRec (by kernel_rfl) rfl rfl 0 rfl (Nat.le_of_ble_eq_true rfl) ?_) | (go_big_want; refine sh_load1 HH.out rfl rfl 0 rfl rfl (by decide +kernel) ?_) | (refine shl_load1 HH.out rfl rfl rfl 0 rfl rfl (by decide +kernel) ?_) | (go_at_call 25; (with_reducible refine (HPa.out _ HH.out.ext).mono ?_); rintro e wC ⟨rfl, eC⟩; have HHn := Lib.hid (HH.out.later eC); clear HH eC; have HH := HHn; clear HHn) | (go_at_call 26; (with_reducible refine (HRe.out _ HH.out.ext).mono ?_); rintro e wC ⟨rfl, eC⟩; have HHn := Lib.hid (HH.out.later eC); clear HH eC; have HH := HHn; clear HHn) | (go_at_call 27; (with_reducible refine (HBk.out _ HH.out.ext).mono ?_); rintro e wC ⟨rfl, eC⟩; have HHn := Lib.hid (HH.out.later eC); clear HH eC; have HH := HHn; clear HHn) | (go_at_call 28; (with_reducible refine (HA1.out _).mono ?_); rintro e wC ⟨rfl, eC⟩; have HHn := Lib.hid (HH.out.later eC); clear HH eC; have HH := HHn; clear HHn) | (go_at_call 28; (with_reducible refine (HA2.out _).mono ?_); rintro e wC ⟨rfl, eC⟩; have HHn := Lib.hid (HH.out.later eC); clear HH eC; have HH := HHn; clear HHn)); go_ret; exact ⟨by rw [HF.out]; rfl, HH.out.ext⟩
          · have d5 : (BE != 0) = true := by simpa using c5
            have HF := Lib.hid (show V = 9 by rw [HV.out, HS.out, decide_eq_false c5]; rfl)
            clear c5
            simp only [Stg.cells, Rec.cells, Su.cells, List.cons_append, List.nil_append]; go_enter Tryz.func11, Tryz.ntmps11; go_upto_region 1 with fail; generalize hwH : World.alloc w _ = w1; have HH := Lib.hid (Heap.one hwH); clear hwH; go_wp2_with (first | (go_big_want; refine sh_load HH.out sizeRec (by kernel_rfl) rfl rfl 0 rfl (Nat.le_of_ble_eq_true rfl) ?_) | (go_big_want; refine sh_load1 HH.out rfl rfl 0 rfl rfl (by decide +kernel) ?_) | (refine shl_load1 HH.out rfl rfl rfl 0 rfl rfl (by decide +kernel) ?_) | (go_at_call 25; (with_reducible refine (HPa.out _ HH.out.ext).mono ?_); rintro e wC ⟨rfl, eC⟩; have HHn := Lib.hid (HH.out.later eC); clear HH eC; have HH := HHn; clear HHn) | (go_at_call 26; (with_reducible refine (HRe.out _ HH.out.ext).mono ?_); rintro e wC ⟨rfl, eC⟩; have HHn := Lib.hid (HH.out.later eC); clear HH eC; have HH := HHn; clear HHn) | (go_at_call 27; (with_reducible refine (HBk.out _ HH.out.ext).mono ?_); rintro e wC ⟨rfl, eC⟩; have HHn := Lib.hid (HH.out.later eC); clear HH eC; have HH := HHn; clear HHn) | (go_at_call 28; (with_reducible refine (HA1.out _).mono ?_); rintro e wC ⟨rfl, eC⟩; have HHn := Lib.hid (HH.out.later eC); clear HH eC; have HH := HHn; clear HHn) | (go_at_call 28; (with_reducible refine (HA2.out _).mono ?_); rintro e wC ⟨rfl, eC⟩; have HHn := Lib.hid (HH.out.later eC); clear HH eC; have HH := HHn; clear HHn)); go_ret; exact ⟨by rw [HF.out]; rfl, HH.out.ext⟩
        · have d4 : (RE != 0) = true := by simpa using c4
          have HF := Lib.hid (show V = 9 by rw [HV.out, HS.out, decide_eq_false c4]; rfl)
          clear c4
          simp only [Stg.cells, Rec.cells, Su.cells, List.cons_append, List.nil_append]; go_enter Tryz.func11, Tryz.ntmps11; go_upto_region 1 with fail; generalize hwH : World.alloc w _ = w1; have HH := Lib.hid (Heap.one hwH); clear hwH; go_wp2_with (first | (go_big_want; refine sh_load HH.out sizeRec (by kernel_rfl) rfl rfl 0 rfl (Nat.le_of_ble_eq_true rfl) ?_) | (go_big_want; refine sh_load1 HH.out rfl rfl 0 rfl rfl (by decide +kernel) ?_) | (refine shl_load1 HH.out rfl rfl rfl 0 rfl rfl (by decide +kernel) ?_) | (go_at_call 25; (with_reducible refine (HPa.out _ HH.out.ext).mono ?_); rintro e wC ⟨rfl, eC⟩; have HHn := Lib.hid (HH.out.later eC); clear HH eC; have HH := HHn; clear HHn) | (go_at_call 26; (with_reducible refine (HRe.out _ HH.out.ext).mono ?_); rintro e wC ⟨rfl, eC⟩; have HHn := Lib.hid (HH.out.later eC); clear HH eC; have HH := HHn; clear HHn) | (go_at_call 27; (with_reducible refine (HBk.out _ HH.out.ext).mono ?_); rintro e wC ⟨rfl, eC⟩; have HHn := Lib.hid (HH.out.later eC); clear HH eC; have HH := HHn; clear HHn) | (go_at_call 28; (with_reducible refine (HA1.out _).mono ?_); rintro e wC ⟨rfl, eC⟩; have HHn := Lib.hid (HH.out.later eC); clear HH eC; have HH := HHn; clear HHn) | (go_at_call 28; (with_reducible refine (HA2.out _).mono ?_); rintro e wC ⟨rfl, eC⟩; have HHn := Lib.hid (HH.out.later eC); clear HH eC; have HH := HHn; clear HHn)); go_ret; exact ⟨by rw [HF.out]; rfl, HH.out.ext⟩
      · have d3 : (kind != 1) = true := by simpa using c3
        have HF := Lib.hid (show V = 9 by rw [HV.out, HS.out, show (kind == 1) = false by simpa using c3]; rfl)
        clear c3
        simp only [Stg.cells, Rec.cells, Su.cells, List.cons_append, List.nil_append]; go_enter Tryz.func11, Tryz.ntmps11; go_upto_region 1 with fail; generalize hwH : World.alloc w _ = w1; have HH := Lib.hid (Heap.one hwH); clear hwH; go_wp2_with (first | (go_big_want; refine sh_load HH.out sizeRec (by kernel_rfl) rfl rfl 0 rfl (Nat.le_of_ble_eq_true rfl) ?_) | (go_big_want; refine sh_load1 HH.out rfl rfl 0 rfl rfl (by decide +kernel) ?_) | (refine shl_load1 HH.out rfl rfl rfl 0 rfl rfl (by decide +kernel) ?_) | (go_at_call 25; (with_reducible refine (HPa.out _ HH.out.ext).mono ?_); rintro e wC ⟨rfl, eC⟩; have HHn := Lib.hid (HH.out.later eC); clear HH eC; have HH := HHn; clear HHn) | (go_at_call 26; (with_reducible refine (HRe.out _ HH.out.ext).mono ?_); rintro e wC ⟨rfl, eC⟩; have HHn := Lib.hid (HH.out.later eC); clear HH eC; have HH := HHn; clear HHn) | (go_at_call 27; (with_reducible refine (HBk.out _ HH.out.ext).mono ?_); rintro e wC ⟨rfl, eC⟩; have HHn := Lib.hid (HH.out.later eC); clear HH eC; have HH := HHn; clear HHn) | (go_at_call 28; (with_reducible refine (HA1.out _).mono ?_); rintro e wC ⟨rfl, eC⟩; have HHn := Lib.hid (HH.out.later eC); clear HH eC; have HH := HHn; clear HHn) | (go_at_call 28; (with_reducible refine (HA2.out _).mono ?_); rintro e wC ⟨rfl, eC⟩; have HHn := Lib.hid (HH.out.later eC); clear HH eC; have HH := HHn; clear HHn)); go_ret; exact ⟨by rw [HF.out]; rfl, HH.out.ext⟩
    · rw [Bool.not_eq_true] at c2
      have HF := Lib.hid (show V = 9 by rw [HV.out, HS.out, c2]; rfl)
      simp only [Stg.cells, Rec.cells, Su.cells, List.cons_append, List.nil_append]; go_enter Tryz.func11, Tryz.ntmps11; go_upto_region 1 with fail; generalize hwH : World.alloc w _ = w1; have HH := Lib.hid (Heap.one hwH); clear hwH; go_wp2_with (first | (go_big_want; refine sh_load HH.out sizeRec (by kernel_rfl) rfl rfl 0 rfl (Nat.le_of_ble_eq_true rfl) ?_) | (go_big_want; refine sh_load1 HH.out rfl rfl 0 rfl rfl (by decide +kernel) ?_) | (refine shl_load1 HH.out rfl rfl rfl 0 rfl rfl (by decide +kernel) ?_) | (go_at_call 25; (with_reducible refine (HPa.out _ HH.out.ext).mono ?_); rintro e wC ⟨rfl, eC⟩; have HHn := Lib.hid (HH.out.later eC); clear HH eC; have HH := HHn; clear HHn) | (go_at_call 26; (with_reducible refine (HRe.out _ HH.out.ext).mono ?_); rintro e wC ⟨rfl, eC⟩; have HHn := Lib.hid (HH.out.later eC); clear HH eC; have HH := HHn; clear HHn) | (go_at_call 27; (with_reducible refine (HBk.out _ HH.out.ext).mono ?_); rintro e wC ⟨rfl, eC⟩; have HHn := Lib.hid (HH.out.later eC); clear HH eC; have HH := HHn; clear HHn) | (go_at_call 28; (with_reducible refine (HA1.out _).mono ?_); rintro e wC ⟨rfl, eC⟩; have HHn := Lib.hid (HH.out.later eC); clear HH eC; have HH := HHn; clear HHn) | (go_at_call 28; (with_reducible refine (HA2.out _).mono ?_); rintro e wC ⟨rfl, eC⟩; have HHn := Lib.hid (HH.out.later eC); clear HH eC; have HH := HHn; clear HHn)); go_ret; exact ⟨by rw [HF.out]; rfl, HH.out.ext⟩
end Go.Proofs.YtmecjjmlccdppaaGreatDoor
/- slices.Clone and the reference's Own over blocks; the order of a block and an index. -/
namespace Go.Proofs.YtmecjjmlccdppaaGreatDoor
open Go.RowKit
set_option linter.unusedVariables false
set_option linter.unusedSimpArgs false

set_option maxHeartbeats 400000 in
theorem bclone_any (w : World) (A : Option Addr) (n c : Nat) (xs : List Blk) (hn : n = xs.length) (hr : Rd w 0 w.heap.size A (blks xs)) (hb : n ≤ 100000000000) :
    Calls Tryz.prog 29 #[.slice A n c] w fun e w' => ∃ v, e = .returned v ∧ w'.ownsRow w.heap.size 46 2 v n (blks xs) ∧ Ext w w' := by
  have qT : ∀ (w : World) (a : Option Addr) (n c n' c' : Nat), (binOp .eql 28 (.slice a n c) (.slice none n' c')).run Tryz.prog w = .ok (.bool a.isNone) w := fun w a n c n' c' => Lib.run_eql_slice_nil w _ _ a n c n' c' Tryz.underlying28
  obtain ⟨i0, hi0, hz0, hz1, hz2⟩ := info_parts infoB
  have hmx : n ≤ maxLen := by simp only [maxLen]; omega
  have hl : (blks xs).length = n * 2 := by rw [blks_length, hn]
  have Hn := Lib.hid hn
  clear hn
  cases A with
  | none =>
    have : n = 0 := by
      rcases Nat.eq_zero_or_pos n with h | h
      · exact h
      · obtain ⟨b, o, hh, _⟩ := hr (fun e => by rw [e] at hl; simp at hl; omega)
        cases hh
    subst this
    have : blks xs = [] := List.eq_nil_of_length_eq_zero (by simpa using hl)
    rw [this]
    clear hl
    go_enter Tryz.func29, Tryz.ntmps29
    go_wp2
    go_ret
    exact ⟨_, rfl, World.ownsRow_nil _ _ _ _, Ext.refl _⟩
  | some ad =>
    go_enter Tryz.func29, Tryz.ntmps29
    go_wp2_with
      (at_builtin
       refine list_app _ rfl (.tmp 5) (.tmp 6) _ rfl 46 i0 _ 2 24 Tryz.underlying28 hi0 hz0 hz1 hz2 rfl (by omega) w.heap.size (.slice (some ⟨w.heap.size, 0, none⟩) 0 0) 0 [] rfl
         (World.ownsRow_lit w #[] 0 (Nat.le_refl _) (Nat.zero_le _) rfl) 0 w.heap.size (some ad) n c (blks xs) rfl hl (hr.alloc (Nat.le_refl _) _) (blks_one _) (by simpa using hmx) (by omega) (by simp) ?_
       intro v1 w1 hown1 he1 _ hg1)
    go_ret
    refine ⟨v1, rfl, by simpa using hown1, below_grown ((Below.refl _ _).alloc (Nat.le_refl _) _) hg1 (by simp) (.inr ⟨_, rfl, Nat.le_refl _⟩)⟩

set_option maxHeartbeats 400000 in
theorem rown_any (w : World) (A : Option Addr) (n c : Nat) (xs : List Blk) (hn : n = xs.length) (hr : Rd w 0 w.heap.size A (blks xs)) (hb : n ≤ 100000000000) :
    Calls Tryz.prog 16 #[.slice A n c] w fun e w' => ∃ v, e = .returned v ∧ w'.ownsRow w.heap.size 46 2 v n (blks xs) ∧ Ext w w' := by
  obtain ⟨i0, hi0, hz0, hz1, hz2⟩ := info_parts infoB
  have hmx : n ≤ maxLen := by simp only [maxLen]; omega
  have hl : (blks xs).length = n * 2 := by rw [blks_length, hn]
  have Hl := Lib.hid hl
  have HR := Lib.hid hr
  clear hn hl hr
  obtain ⟨vx, hvx⟩ : ∃ vx, vx = Value.slice A n c := ⟨_, rfl⟩
  rw [← hvx]
  have Hvx := Lib.hid hvx
  clear hvx
  go_enter Tryz.func16, Tryz.ntmps16
  go_wp2_with
    (at_builtin
     refine list_app0 _ rfl (.tmp 4) (.tmp 5) _ rfl 46 i0 _ 2 24 Tryz.underlying28 hi0 hz0 hz1 hz2 rfl (by omega) rfl 0 w.heap.size A n c (blks xs) Hvx.out Hl.out HR.out (blks_one _) hmx (by omega) ?_
     intro v1 w1 hown1 he1)
  go_ret
  exact ⟨v1, rfl, hown1, he1⟩

/-- the order of a block and an index -/
def byO (a b : Int) : Int := if a < b then -1 else if b < a then 1 else 0
end Go.Proofs.YtmecjjmlccdppaaGreatDoor
