/- The texts St1, Use in one file. -/
import Derived.Test.YtfongpdeflfioaaGreatS6
import Derived.Test.YtfongpdeflfioaaGreatS2
/- pages.Count; store.odd, rising, used. -/
namespace Go.Proofs.YtfongpdeflfioaaGreat
open Go.RowKit Go.Maps Go.Sort Go.Shelf
set_option linter.unusedVariables false
set_option linter.unusedSimpArgs false
def cntP (n : Nat) : Nat := (n + 51) / 52
theorem cntP_zero : cntP 0 = 0 := rfl
theorem cntP_pos {n : Nat} (h : 0 < n) : cntP n = (n - 1) / 52 + 1 := by unfold cntP; omega
theorem count_any (w : World) (n : Nat) (hn : n ≤ 9223372036854775807) : Calls Tryz.prog 47 #[.int .i64 n] w fun e w' => e = .returned (.int .i64 (cntP n)) ∧ Ext w w' := by
  rcases Nat.eq_zero_or_pos n with h0 | h0
  · subst h0
    go_enter Tryz.func47, Tryz.ntmps47
    go_wp2_with fail
    go_ret
    exact ⟨rfl, Ext.refl _⟩
  · have hv := Lib.hid (show ((cntP n : Nat) : Int) = ((n : Int) - 1) / 52 + 1 by rw [cntP_pos h0]; omega)
    have hp : (0 : Int) < (n : Int) := by omega
    generalize cntP n = v at *
    go_enter Tryz.func47, Tryz.ntmps47
    go_wp2_with fail
    go_ret
    exact ⟨retI (by rw [hv.out]), Ext.refl _⟩
def oddB (x : Ob) : Bool := decide (65536 < x.data.n) || decide (x.locs.n ≠ cntP x.data.n)
set_option maxRecDepth 100000 in
set_option maxHeartbeats 4000000 in
theorem sodd_any (w : World) (x : Ob) (hn : x.data.n ≤ 9223372036854775807) (hl : x.locs.n ≤ 9223372036854775807) : Calls Tryz.prog 43 #[.agg x.cells.toArray] w fun e w' => e = .returned (.bool (oddB x)) ∧ Ext w w' := by
  have HC := Lib.hid (fun W => count_any W x.data.n hn)
  have HV := Lib.hid (show oddB x = (decide (65536 < x.data.n) || decide (x.locs.n ≠ cntP x.data.n)) from rfl)
  generalize oddB x = V at *
  generalize cntP x.data.n = q1 at *
  obtain ⟨key, ⟨dA, dn, dc, dx⟩, ⟨lA, ln, lc, lx⟩⟩ := x
  simp only [Ob.cells, Sl.val] at *
  by_cases h1 : 65536 < dn
  · have HV2 := Lib.hid (show V = true by rw [HV.out]; simp [h1])
    go_enter Tryz.func43, Tryz.ntmps43
    go_upto_region 1 with fail
    generalize hw1 : World.alloc w _ = w1; obtain ⟨ew1, zw1, Gw1⟩ := box_cells hw1; have gw1_0 := Gw1 0 _ rfl; have gw1_1 := Gw1 1 _ rfl; have gw1_2 := Gw1 2 _ rfl; have Zw1 := Lib.hid zw1; clear zw1 hw1 Gw1
    have q : decide ((65536 : Int) < (dn : Int)) = true := by simp; omega
    clear HC
    refine wp_region_held_drew (S := fun w' => Ext w1 w') (by kernel_rfl) (by exact blo) (fun hHeld => ?_)
    refine tS 0 ?_; (try simp only [Act.put, lyA, lyB, lyC])
    refine tS 1 ?_; (try simp only [Act.put, lyA, lyB, lyC])
    refine tS 2 ?_; (try simp only [Act.put, lyA, lyB, lyC])
    refine tS 3 ?_; (try simp only [Act.put, lyA, lyB, lyC])
    refine tS 4 ?_; (try simp only [Act.put, lyA, lyB, lyC])
    refine sS 5 ?_; (try simp only [Act.put, lyA, lyB, lyC])
    refine sS 6 ?_; (try simp only [Act.put, lyA, lyB, lyC])
    refine sS 7 ?_; (try simp only [Act.put, lyA, lyB, lyC])
    refine sS 8 ?_; (try simp only [Act.put, lyA, lyB, lyC])
    refine sS 9 ?_; (try simp only [Act.put, lyA, lyB, lyC])
    refine sS 10 ?_; (try simp only [Act.put, lyA, lyB, lyC])
    refine sS 11 ?_; (try simp only [Act.put, lyA, lyB, lyC])
    refine sS 12 ?_; (try simp only [Act.put, lyA, lyB, lyC])
    refine tS 13 ?_; (try simp only [Act.put, lyA, lyB, lyC])
    refine tS 14 ?_; (try simp only [Act.put, lyA, lyB, lyC])
    refine wpAnyH_done (by kernel_rfl) ?_ _
    go_wp2_with fail
    go_ret
    exact ⟨retB HV2.out.symm, by exact blo⟩
  · have q : decide ((65536 : Int) < (dn : Int)) = false := by simp; omega
    have HV2 := Lib.hid (show V = decide (ln ≠ q1) by rw [HV.out]; simp [h1])
    go_enter Tryz.func43, Tryz.ntmps43
    go_upto_region 1 with fail
    generalize hw1 : World.alloc w _ = w1; obtain ⟨ew1, zw1, Gw1⟩ := box_cells hw1; have gw1_0 := Gw1 0 _ rfl; have gw1_1 := Gw1 1 _ rfl; have gw1_2 := Gw1 2 _ rfl; have Zw1 := Lib.hid zw1; clear zw1 hw1 Gw1
    refine wp_region_held_drew (S := fun w' => Ext w1 w') (by kernel_rfl) (by exact blo) (fun hHeld => ?_)
    refine tS 0 ?_; (try simp only [Act.put, lyA, lyB, lyC])
    refine tS 1 ?_; (try simp only [Act.put, lyA, lyB, lyC])
    refine tS 2 ?_; (try simp only [Act.put, lyA, lyB, lyC])
    refine tS 3 ?_; (try simp only [Act.put, lyA, lyB, lyC])
    refine tS 4 ?_; (try simp only [Act.put, lyA, lyB, lyC])
    refine tS 5 ?_; (try simp only [Act.put, lyA, lyB, lyC])
    refine tS 6 ?_; (try simp only [Act.put, lyA, lyB, lyC])
    refine tS 7 ?_; (try simp only [Act.put, lyA, lyB, lyC])
    refine tS 8 ?_; (try simp only [Act.put, lyA, lyB, lyC])
    refine tS 9 ?_; (try simp only [Act.put, lyA, lyB, lyC])
    refine tS 10 ?_; (try simp only [Act.put, lyA, lyB, lyC])
    refine oS 11 (fun K hK => ?_); go_simp
    refine (HC.out _).mono ?_
    rintro e w2 ⟨rfl, e2⟩
    go_wp2_with fail; refine hK.out _ _ (by exact blo) (fun hHeld => ?_); clear hK K; (try simp only [Act.put, lyA, lyB, lyC])
    refine tS 12 ?_; (try simp only [Act.put, lyA, lyB, lyC])
    refine tS 13 ?_; (try simp only [Act.put, lyA, lyB, lyC])
    refine tS 14 ?_; (try simp only [Act.put, lyA, lyB, lyC])
    refine wpAnyH_done (by kernel_rfl) ?_ _
    go_wp2_with fail
    go_ret
    exact ⟨retB (by rw [HV2.out, Bool.eq_iff_iff]; simp [q]; (try omega)), by exact blo⟩
def lessB (a b : ByteArray) : Bool := Op.bytesLess a.toList b.toList
theorem less_tot (x y : List UInt8) : (!Op.bytesLess y x) = (Op.bytesLess x y || x == y) := by
  induction x generalizing y with
  | nil => cases y <;> simp [Op.bytesLess]
  | cons a x ih =>
    cases y with
    | nil => simp [Op.bytesLess]
    | cons b y =>
      have h := ih y
      simp only [Op.bytesLess, List.cons_beq_cons]
      by_cases h1 : a < b
      · have h2 : ¬ b < a := UInt8.not_lt.2 (UInt8.le_of_lt h1)
        have h3 : (b == a) = false := by rw [beq_eq_false_iff_ne]; intro e; subst e; exact absurd h1 (UInt8.lt_irrefl _)
        simp [h1, h2, h3]
      · by_cases h2 : b < a
        · have h3 : (a == b) = false := by rw [beq_eq_false_iff_ne]; intro e; subst e; exact absurd h2 (UInt8.lt_irrefl _)
          simp [h1, h2, h3]
        · have h3 : a = b := UInt8.le_antisymm (UInt8.not_lt.1 h2) (UInt8.not_lt.1 h1)
          subst h3
          simpa [h1] using h
theorem less_tot' (a b : ByteArray) : (lessB b a || b.toList == a.toList) = !lessB a b := (less_tot _ _).symm
def ky (xs : List Ob) (k : Nat) : ByteArray := (xs.map Ob.key).getD k .empty
theorem ky_at (xs : List Ob) (k : Nat) (h : k < xs.length) : ky xs k = xs[k].key := by simp [ky, h]
def badK (xs : List Ob) (k : Nat) : Bool := decide ((ky xs k).size = 0) || decide (96 < (ky xs k).size) || (decide (0 < k) && !lessB (ky xs (k - 1)) (ky xs k))
def badKU (xs : List Ob) (k : Nat) : Bool := (List.range k).any (badK xs)
theorem badKU_succ (xs : List Ob) (k : Nat) : badKU xs (k + 1) = (badKU xs k || badK xs k) := by simp [badKU, List.range_succ]
theorem badKU_at (xs : List Ob) (k n : Nat) (h : k < n) (hb : badK xs k = true) : badKU xs n = true := List.any_eq_true.2 ⟨k, List.mem_range.2 h, hb⟩
def risB (xs : List Ob) : Bool := !badKU xs xs.length
theorem rd_ob {w : World} {lo hi : Nat} {A : Option Addr} {xs : List Ob} (h : Rd w lo hi A (xs.flatMap Ob.cells)) {k : Nat} (hk : k < xs.length) :
    ∃ b o, A = some ⟨b, o, none⟩ ∧ b < hi ∧ w.cell? ⟨b, o + k * 3, none⟩ = some (.string xs[k].key) ∧ w.cell? ⟨b, o + k * 3 + 1, none⟩ = some xs[k].data.val ∧ w.cell? ⟨b, o + k * 3 + 2, none⟩ = some xs[k].locs.val := by
  obtain ⟨b, o, h1, _, h3, G⟩ := rd_flat (size := 3) (fun _ => rfl) (by omega) h hk
  exact ⟨b, o, h1, h3, G 0 _ rfl, G 1 _ rfl, G 2 _ rfl⟩
set_option maxRecDepth 100000 in
set_option maxHeartbeats 4000000 in
theorem rising_any (w : World) (s : Sl Ob) (h : Sl.At w 0 w.heap.size Ob.cells (Ob.At w 0 w.heap.size) s) : Calls Tryz.prog 41 #[s.val] w fun e w' => e = .returned (.bool (risB s.xs)) ∧ Ext w w' := by
  have hm : s.n ≤ 9223372036854775807 := Nat.le_trans h.le h.cap
  have Hn := Lib.hid h.len
  have HR := Lib.hid h.rd
  have HK0 := Lib.hid (fun (k : Nat) (hk : k < s.xs.length) => (h.all _ (List.getElem_mem hk)).key)
  have HV := Lib.hid (show risB s.xs = !badKU s.xs s.xs.length from rfl)
  clear h
  generalize risB s.xs = V at *
  obtain ⟨A, n, c, xs⟩ := s
  simp only [Sl.val] at *
  go_enter Tryz.func41, Tryz.ntmps41
  go_wp2_with fail
  go_loopw [7] (fun i wr => ∃ k : Nat, k ≤ n ∧ i = .int .i64 k ∧ Hid (badKU xs k = false) ∧ Ext w wr) (fun i _ => n - (intOf i).toNat)
  case atStart => exact ⟨0, Nat.zero_le _, rfl, Lib.hid rfl, Ext.refl _⟩
  case round =>
    obtain ⟨k, hk, rfl, HK, e1⟩ := hrel
    by_cases hlt : k < n
    · have l1 : k < xs.length := by rw [← Hn.out]; exact hlt
      obtain ⟨b1, o1, rfl, hb1, f0, f1, f2⟩ := rd_ob (HR.out.ext e1 (Nat.le_refl _)) l1
      have HS := Lib.hid (badKU_succ xs k)
      have HB := Lib.hid (fun h => badKU_at xs k xs.length l1 h)
      have HA := Lib.hid (show badK xs k = (decide (xs[k].key.size = 0) || decide (96 < xs[k].key.size) || (decide (0 < k) && !lessB (ky xs (k - 1)) xs[k].key)) by rw [badK, ky_at xs k l1])
      have hks : xs[k].key.size ≤ 9223372036854775807 := Nat.le_trans (HK0.out k l1) (by simp only [maxLen]; omega)
      generalize xs[k] = x at *
      obtain ⟨key, ⟨dA, dn, dc, dx⟩, ⟨lA, ln, lc, lx⟩⟩ := x
      simp only [Sl.val] at f1 f2
      dsimp only at f0 HA hks
      go_upto_region 4 with fail
      generalize hw1 : World.alloc wr _ = w1; obtain ⟨ew1, zw1, Gw1⟩ := box_cells hw1; have gw1_0 := Gw1 0 _ rfl; have gw1_1 := Gw1 1 _ rfl; have gw1_2 := Gw1 2 _ rfl; have Zw1 := Lib.hid zw1; clear zw1 hw1 Gw1
      have E1 : Ext w w1 := e1.trans ew1
      by_cases h0 : key.size = 0
      · obtain rfl : key = ⟨#[]⟩ := empty_of key h0
        have HVt := Lib.hid (show V = false by rw [HV.out, HB.out (by rw [HA.out]; rfl)]; rfl)
        clear HA HB HS HK HK0
        refine wp_region_held_drew (S := fun w' => Ext w1 w') (by kernel_rfl) (by exact blo) (fun hHeld => ?_)
        refine tS 0 ?_; (try simp only [Act.put, lyA, lyB, lyC])
        refine tS 1 ?_; (try simp only [Act.put, lyA, lyB, lyC])
        refine tS 2 ?_; (try simp only [Act.put, lyA, lyB, lyC])
        refine tS 3 ?_; (try simp only [Act.put, lyA, lyB, lyC])
        refine sS 4 ?_; (try simp only [Act.put, lyA, lyB, lyC])
        refine sS 5 ?_; (try simp only [Act.put, lyA, lyB, lyC])
        refine sS 6 ?_; (try simp only [Act.put, lyA, lyB, lyC])
        refine sS 7 ?_; (try simp only [Act.put, lyA, lyB, lyC])
        refine tS 8 ?_; (try simp only [Act.put, lyA, lyB, lyC])
        refine tS 9 ?_; (try simp only [Act.put, lyA, lyB, lyC])
        refine sS 10 ?_; (try simp only [Act.put, lyA, lyB, lyC])
        refine sS 11 ?_; (try simp only [Act.put, lyA, lyB, lyC])
        refine sS 12 ?_; (try simp only [Act.put, lyA, lyB, lyC])
        refine sS 13 ?_; (try simp only [Act.put, lyA, lyB, lyC])
        refine sS 14 ?_; (try simp only [Act.put, lyA, lyB, lyC])
        refine sS 15 ?_; (try simp only [Act.put, lyA, lyB, lyC])
        refine sS 16 ?_; (try simp only [Act.put, lyA, lyB, lyC])
        refine sS 17 ?_; (try simp only [Act.put, lyA, lyB, lyC])
        refine sS 18 ?_; (try simp only [Act.put, lyA, lyB, lyC])
        refine sS 19 ?_; (try simp only [Act.put, lyA, lyB, lyC])
        refine sS 20 ?_; (try simp only [Act.put, lyA, lyB, lyC])
        refine sS 21 ?_; (try simp only [Act.put, lyA, lyB, lyC])
        refine sS 22 ?_; (try simp only [Act.put, lyA, lyB, lyC])
        refine tS 23 ?_; (try simp only [Act.put, lyA, lyB, lyC])
        refine wpAnyH_done (by kernel_rfl) ?_ _
        go_wp2_with fail
        go_ret
        exact ⟨retB HVt.out.symm, E1.drew⟩
      · have hke : key.toList.isEmpty = false := by
          rw [Lib.toList_data]
          cases hl : key.data.toList with
          | nil => exact absurd (by have := len_data key; rw [hl] at this; simpa using this.symm) h0
          | cons _ _ => rfl
        by_cases h96 : 96 < key.size
        · have HVt := Lib.hid (show V = false by rw [HV.out, HB.out (by rw [HA.out]; simp [h96])]; rfl)
          have q : decide ((96 : Int) < (key.size : Int)) = true := by simp; omega
          clear HA HB HS HK HK0
          refine wp_region_held_drew (S := fun w' => Ext w1 w') (by kernel_rfl) (by exact blo) (fun hHeld => ?_)
          refine tS 0 ?_; (try simp only [Act.put, lyA, lyB, lyC])
          refine tS 1 ?_; (try simp only [Act.put, lyA, lyB, lyC])
          refine tS 2 ?_; (try simp only [Act.put, lyA, lyB, lyC])
          refine tS 3 ?_; (try simp only [Act.put, lyA, lyB, lyC])
          refine tS 4 ?_; (try simp only [Act.put, lyA, lyB, lyC])
          refine tS 5 ?_; (try simp only [Act.put, lyA, lyB, lyC])
          refine tS 6 ?_; (try simp only [Act.put, lyA, lyB, lyC])
          refine tS 7 ?_; (try simp only [Act.put, lyA, lyB, lyC])
          refine tS 8 ?_; (try simp only [Act.put, lyA, lyB, lyC])
          refine tS 9 ?_; (try simp only [Act.put, lyA, lyB, lyC])
          refine sS 10 ?_; (try simp only [Act.put, lyA, lyB, lyC])
          refine sS 11 ?_; (try simp only [Act.put, lyA, lyB, lyC])
          refine sS 12 ?_; (try simp only [Act.put, lyA, lyB, lyC])
          refine sS 13 ?_; (try simp only [Act.put, lyA, lyB, lyC])
          refine sS 14 ?_; (try simp only [Act.put, lyA, lyB, lyC])
          refine sS 15 ?_; (try simp only [Act.put, lyA, lyB, lyC])
          refine sS 16 ?_; (try simp only [Act.put, lyA, lyB, lyC])
          refine sS 17 ?_; (try simp only [Act.put, lyA, lyB, lyC])
          refine sS 18 ?_; (try simp only [Act.put, lyA, lyB, lyC])
          refine sS 19 ?_; (try simp only [Act.put, lyA, lyB, lyC])
          refine sS 20 ?_; (try simp only [Act.put, lyA, lyB, lyC])
          refine sS 21 ?_; (try simp only [Act.put, lyA, lyB, lyC])
          refine sS 22 ?_; (try simp only [Act.put, lyA, lyB, lyC])
          refine tS 23 ?_; (try simp only [Act.put, lyA, lyB, lyC])
          refine wpAnyH_done (by kernel_rfl) ?_ _
          go_wp2_with fail
          go_ret
          exact ⟨retB HVt.out.symm, E1.drew⟩
        · have q : decide ((96 : Int) < (key.size : Int)) = false := by simp; omega
          rcases Nat.eq_zero_or_pos k with rfl | hpos
          · have HSn := Lib.hid (show badKU xs 1 = false by rw [HS.out, HK.out, HA.out]; simp [h0, h96])
            clear HA HB HS HK HK0
            refine wp_region_held_drew (S := fun w' => Ext w1 w') (by kernel_rfl) (by exact blo) (fun hHeld => ?_)
            refine tS 0 ?_; (try simp only [Act.put, lyA, lyB, lyC])
            refine tS 1 ?_; (try simp only [Act.put, lyA, lyB, lyC])
            refine tS 2 ?_; (try simp only [Act.put, lyA, lyB, lyC])
            refine tS 3 ?_; (try simp only [Act.put, lyA, lyB, lyC])
            refine tS 4 ?_; (try simp only [Act.put, lyA, lyB, lyC])
            refine tS 5 ?_; (try simp only [Act.put, lyA, lyB, lyC])
            refine tS 6 ?_; (try simp only [Act.put, lyA, lyB, lyC])
            refine tS 7 ?_; (try simp only [Act.put, lyA, lyB, lyC])
            refine tS 8 ?_; (try simp only [Act.put, lyA, lyB, lyC])
            refine tS 9 ?_; (try simp only [Act.put, lyA, lyB, lyC])
            refine tS 10 ?_; (try simp only [Act.put, lyA, lyB, lyC])
            refine tS 11 ?_; (try simp only [Act.put, lyA, lyB, lyC])
            refine tS 12 ?_; (try simp only [Act.put, lyA, lyB, lyC])
            refine sS 13 ?_; (try simp only [Act.put, lyA, lyB, lyC])
            refine sS 14 ?_; (try simp only [Act.put, lyA, lyB, lyC])
            refine sS 15 ?_; (try simp only [Act.put, lyA, lyB, lyC])
            refine sS 16 ?_; (try simp only [Act.put, lyA, lyB, lyC])
            refine sS 17 ?_; (try simp only [Act.put, lyA, lyB, lyC])
            refine sS 18 ?_; (try simp only [Act.put, lyA, lyB, lyC])
            refine sS 19 ?_; (try simp only [Act.put, lyA, lyB, lyC])
            refine sS 20 ?_; (try simp only [Act.put, lyA, lyB, lyC])
            refine sS 21 ?_; (try simp only [Act.put, lyA, lyB, lyC])
            refine tS 22 ?_; (try simp only [Act.put, lyA, lyB, lyC])
            refine tS 23 ?_; (try simp only [Act.put, lyA, lyB, lyC])
            refine wpAnyH_done (by kernel_rfl) ?_ _
            go_wp2_with fail
            go_roundw
            case rel => exact ⟨1, by omega, by go_num, HSn, E1.drew⟩
            case measure => (first | (simp [intOf]; done) | (simp [intOf]; omega))
          · obtain ⟨j, rfl⟩ : ∃ j, k = j + 1 := ⟨k - 1, by omega⟩
            obtain ⟨b2, o2, hbo, _, f3, _, _⟩ := rd_ob (HR.out.ext e1 (Nat.le_refl _)) (k := j) (by omega)
            obtain ⟨rfl, rfl⟩ : b1 = b2 ∧ o1 = o2 := by simpa using hbo
            rw [← ky_at xs j (by omega)] at f3
            have f4 : ∀ w', Ext w1 w' → w'.cell? ⟨b1, o1 + j * 3, none⟩ = some (.string (ky xs j)) := fun w' h => by rw [Below.cell (ew1.trans h) (Nat.lt_of_lt_of_le hb1 e1.size)]; exact f3
            have HA2 : Hid (badK xs (j + 1) = !lessB (ky xs j) key) := by
              have h := HA.out
              rw [Nat.add_sub_cancel] at h
              rw [Hid, h]
              simp [h0, h96]
            have hjn : (j : Int) < (n : Int) := by omega
            have hs0 : IntKind.i64.wrap (j : Int) = (j : Int) := IntWalk.i64_in _ (by omega)
            have hd : decide (0 < j + 1) = true := by simp
            clear f3 hbo HA HK0 f0 f1 f2
            generalize ky xs j = z at *
            cases hq : lessB z key
            · have HVt := Lib.hid (show V = false by rw [HV.out, HB.out (by rw [HA2.out, hq]; rfl)]; rfl)
              have hq2 : Op.bytesLess z.toList key.toList = false := hq
              clear HA2 HB HS HK
              refine wp_region_held_drew (S := fun w' => Ext w1 w') (by kernel_rfl) (by exact blo) (fun hHeld => ?_)
              refine tS 0 ?_; (try simp only [Act.put, lyA, lyB, lyC])
              refine tS 1 ?_; (try simp only [Act.put, lyA, lyB, lyC])
              refine tS 2 ?_; (try simp only [Act.put, lyA, lyB, lyC])
              refine tS 3 ?_; (try simp only [Act.put, lyA, lyB, lyC])
              refine tS 4 ?_; (try simp only [Act.put, lyA, lyB, lyC])
              refine tS 5 ?_; (try simp only [Act.put, lyA, lyB, lyC])
              refine tS 6 ?_; (try simp only [Act.put, lyA, lyB, lyC])
              refine tS 7 ?_; (try simp only [Act.put, lyA, lyB, lyC])
              refine tS 8 ?_; (try simp only [Act.put, lyA, lyB, lyC])
              refine tS 9 ?_; (try simp only [Act.put, lyA, lyB, lyC])
              refine tS 10 ?_; (try simp only [Act.put, lyA, lyB, lyC])
              refine tS 11 ?_; (try simp only [Act.put, lyA, lyB, lyC])
              refine tS 12 ?_; (try simp only [Act.put, lyA, lyB, lyC])
              refine tS 13 ?_; (try simp only [Act.put, lyA, lyB, lyC])
              refine tS 14 ?_; (try simp only [Act.put, lyA, lyB, lyC])
              refine tS 15 ?_; (try simp only [Act.put, lyA, lyB, lyC])
              refine tS 16 ?_; (try simp only [Act.put, lyA, lyB, lyC])
              refine tS 17 ?_; (try simp only [Act.put, lyA, lyB, lyC])
              refine tS 18 ?_; (try simp only [Act.put, lyA, lyB, lyC])
              refine tS 19 ?_; (try simp only [Act.put, lyA, lyB, lyC])
              refine tS 20 ?_; (try simp only [Act.put, lyA, lyB, lyC])
              refine tS 21 ?_; (try simp only [Act.put, lyA, lyB, lyC])
              refine tS 22 ?_; (try simp only [Act.put, lyA, lyB, lyC])
              refine tS 23 ?_; (try simp only [Act.put, lyA, lyB, lyC])
              refine wpAnyH_done (by kernel_rfl) ?_ _
              go_wp2_with fail
              go_ret
              exact ⟨retB HVt.out.symm, E1.drew⟩
            · have HSn := Lib.hid (show badKU xs (j + 1 + 1) = false by rw [HS.out, HK.out, HA2.out, hq]; rfl)
              have hq2 : Op.bytesLess z.toList key.toList = true := hq
              clear HA2 HB HS HK
              refine wp_region_held_drew (S := fun w' => Ext w1 w') (by kernel_rfl) (by exact blo) (fun hHeld => ?_)
              refine tS 0 ?_; (try simp only [Act.put, lyA, lyB, lyC])
              refine tS 1 ?_; (try simp only [Act.put, lyA, lyB, lyC])
              refine tS 2 ?_; (try simp only [Act.put, lyA, lyB, lyC])
              refine tS 3 ?_; (try simp only [Act.put, lyA, lyB, lyC])
              refine tS 4 ?_; (try simp only [Act.put, lyA, lyB, lyC])
              refine tS 5 ?_; (try simp only [Act.put, lyA, lyB, lyC])
              refine tS 6 ?_; (try simp only [Act.put, lyA, lyB, lyC])
              refine tS 7 ?_; (try simp only [Act.put, lyA, lyB, lyC])
              refine tS 8 ?_; (try simp only [Act.put, lyA, lyB, lyC])
              refine tS 9 ?_; (try simp only [Act.put, lyA, lyB, lyC])
              refine tS 10 ?_; (try simp only [Act.put, lyA, lyB, lyC])
              refine tS 11 ?_; (try simp only [Act.put, lyA, lyB, lyC])
              refine tS 12 ?_; (try simp only [Act.put, lyA, lyB, lyC])
              refine tS 13 ?_; (try simp only [Act.put, lyA, lyB, lyC])
              refine tS 14 ?_; (try simp only [Act.put, lyA, lyB, lyC])
              refine tS 15 ?_; (try simp only [Act.put, lyA, lyB, lyC])
              refine tS 16 ?_; (try simp only [Act.put, lyA, lyB, lyC])
              refine tS 17 ?_; (try simp only [Act.put, lyA, lyB, lyC])
              refine tS 18 ?_; (try simp only [Act.put, lyA, lyB, lyC])
              refine tS 19 ?_; (try simp only [Act.put, lyA, lyB, lyC])
              refine tS 20 ?_; (try simp only [Act.put, lyA, lyB, lyC])
              refine tS 21 ?_; (try simp only [Act.put, lyA, lyB, lyC])
              refine tS 22 ?_; (try simp only [Act.put, lyA, lyB, lyC])
              refine tS 23 ?_; (try simp only [Act.put, lyA, lyB, lyC])
              refine wpAnyH_done (by kernel_rfl) ?_ _
              go_wp2_with fail
              go_roundw
              case rel => exact ⟨j + 2, by omega, by go_num, HSn, E1.drew⟩
              case measure => (first | (simp [intOf]; done) | (simp [intOf]; omega))
    · obtain rfl : k = n := by omega
      have HVt := Lib.hid (show V = true by have h := HK.out; rw [Hn.out] at h; rw [HV.out, h]; rfl)
      go_wp2_with fail
      go_ret
      exact ⟨retB HVt.out.symm, e1⟩
set_option maxHeartbeats 400000 in
theorem iclone_any (w : World) (A : Option Addr) (n c : Nat) (xs : List Int) (hn : n = xs.length) (hr : Rd w 0 w.heap.size A (ints xs)) (hb : n ≤ 100000000000) :
    Calls Tryz.prog 90 #[.slice A n c] w fun e w' => ∃ v, e = .returned v ∧ w'.ownsRow w.heap.size 3 1 v n (ints xs) ∧ Ext w w' := by
  have qT : ∀ (w : World) (a : Option Addr) (n c n' c' : Nat), (binOp .eql 29 (.slice a n c) (.slice none n' c')).run Tryz.prog w = .ok (.bool a.isNone) w := fun w a n c n' c' => Lib.run_eql_slice_nil w _ _ a n c n' c' Tryz.underlying29
  obtain ⟨i0, hi0, hz0, hz1, hz2⟩ := info_parts infoI
  have hmx : n ≤ maxLen := by simp only [maxLen]; omega
  have hl : (ints xs).length = n * 1 := by rw [ints_length, hn, Nat.mul_one]
  have Hn := Lib.hid hn
  clear hn
  cases A with
  | none =>
    have : n = 0 := by
      rcases Nat.eq_zero_or_pos n with h | h
      · exact h
      · obtain ⟨b, o, hh, _⟩ := hr (fun e => by rw [e] at hl; simp at hl; omega)
        cases hh
    subst this
    have : ints xs = [] := List.eq_nil_of_length_eq_zero (by simpa using hl)
    rw [this]
    clear hl
    go_enter Tryz.func90, Tryz.ntmps90
    go_wp2
    go_ret
    exact ⟨_, rfl, World.ownsRow_nil _ _ _ _, Ext.refl _⟩
  | some ad =>
    go_enter Tryz.func90, Tryz.ntmps90
    go_wp2_with
      (at_builtin
       refine list_app _ rfl (.tmp 5) (.tmp 6) _ rfl 3 i0 _ 1 8 Tryz.underlying29 hi0 hz0 hz1 hz2 rfl (by omega) w.heap.size (.slice (some ⟨w.heap.size, 0, none⟩) 0 0) 0 [] rfl
         (World.ownsRow_lit w #[] 0 (Nat.le_refl _) (Nat.zero_le _) rfl) 0 w.heap.size (some ad) n c (ints xs) rfl hl (hr.alloc (Nat.le_refl _) _) (ints_one _) (by simpa using hmx) (by omega) (by simp) ?_
       intro v1 w1 hown1 he1 _ hg1)
    go_ret
    refine ⟨v1, rfl, by simpa using hown1, below_grown ((Below.refl _ _).alloc (Nat.le_refl _) _) hg1 (by simp) (.inr ⟨_, rfl, Nat.le_refl _⟩)⟩
def locsL (l : List Ob) : List Int := l.flatMap fun x => x.locs.xs
theorem locsL_take (l : List Ob) (k : Nat) (h : k < l.length) : locsL (l.take (k + 1)) = locsL (l.take k) ++ l[k].locs.xs := by
  rw [List.take_succ_eq_append_getElem h, locsL, List.flatMap_append]; simp [locsL]
theorem locsL_le (l : List Ob) (k : Nat) : (locsL (l.take k)).length ≤ (locsL l).length := by
  have : locsL l = locsL (l.take k) ++ locsL (l.drop k) := by rw [locsL, locsL, locsL, ← List.flatMap_append, List.take_append_drop]
  rw [this, List.length_append]; omega
def usedL (s : Sto) : List Int := s.idx.xs ++ locsL s.objs.xs
end Go.Proofs.YtfongpdeflfioaaGreat
/- store.used: all sectors of a store. -/
namespace Go.Proofs.YtfongpdeflfioaaGreat
open Go.RowKit Go.Maps Go.Sort Go.Shelf
set_option linter.unusedVariables false
set_option linter.unusedSimpArgs false
set_option maxRecDepth 100000 in
set_option maxHeartbeats 4000000 in
theorem used_any (w : World) (s : Sto) (h : Sto.At w 0 w.heap.size s) (hT : (usedL s).length ≤ 10000000) : Calls Tryz.prog 45 #[.agg s.cells.toArray] w fun e w' => ∃ v, e = .returned v ∧ w'.ownsRow w.heap.size 3 1 v (usedL s).length (ints (usedL s)) ∧ Ext w w' := by
  obtain ⟨i0, hi0, hz0, hz1, hz2⟩ := info_parts infoI
  have HR := Lib.hid h.objs.rd
  have Hn := Lib.hid h.objs.len
  have HA := Lib.hid h.objs.all
  have hm : s.objs.n ≤ 9223372036854775807 := Nat.le_trans h.objs.le h.objs.cap
  have HI := Lib.hid h.idx
  have HU := Lib.hid (show usedL s = s.idx.xs ++ locsL s.objs.xs from rfl)
  have HT := Lib.hid hT
  clear h hT
  generalize usedL s = U at *
  obtain ⟨dev, ub, ⟨A, n, c, xs⟩, ⟨iA, im, ic, ix⟩⟩ := s
  have HIl := Lib.hid (show im = ix.length from HI.out.len)
  have hiT : im ≤ 10000000 := by
    have h := HT.out
    rw [HU.out, List.length_append] at h
    have := HIl.out
    dsimp only at h
    omega
  simp only [Sto.cells, Sl.val] at *
  go_enter Tryz.func45, Tryz.ntmps45
  go_upto_region 1 with fail
  generalize hwH : World.alloc w _ = w1; have HH := Lib.hid (Heap.one hwH); clear hwH
  go_upto_region 2 with (first | (refine shl_load1 HH.out rfl rfl rfl 0 rfl rfl (by decide +kernel) ?_) | (go_at_call 90; refine (iclone_any _ iA im ic ix HIl.out (HH.out.old HI.out.rdi) (by omega)).mono ?_; rintro e w2 ⟨v, rfl, hr2, e2⟩))
  have HH2 := Lib.hid (HH.out.addRow e2 hr2)
  clear HH hr2 e2
  have HH := HH2
  clear HH2
  go_upto_region 3 with (first | (refine shl_load1 HH.out rfl rfl rfl 1 rfl rfl (by decide +kernel) ?_))
  have HH2 := Lib.hid (HH.out.only 0 rfl)
  clear HH HI
  have HH := HH2
  clear HH2
  obtain ⟨vA, vc, rfl, _, _, _⟩ := own_form (HH.out.rowAt 0 rfl)
  go_loopw [3, 12] (fun v i wr => ∃ k : Nat, k ≤ n ∧ i = .int .i64 k ∧ (∃ vA vc m, v = .slice vA m vc ∧ m = im + (locsL (xs.take k)).length ∧ Hid (Heap w [.row 3 1 (.slice vA m vc) m (ints (ix ++ locsL (xs.take k)))] wr))) (fun _ i _ => n - (intOf i).toNat)
  case atStart => exact ⟨0, Nat.zero_le _, rfl, _, _, _, rfl, by simp [locsL], by rw [List.take_zero, show locsL [] = [] from rfl, List.append_nil]; exact HH⟩
  case round =>
    clear HH
    obtain ⟨k, hk, rfl, vA, vc, m, rfl, hml, HH⟩ := hrel
    by_cases hlt : k < n
    · have l1 : k < xs.length := by rw [← Hn.out]; exact hlt
      obtain ⟨b1, o1, rfl, hb1, f0, f1, f2⟩ := rd_ob (HR.out.ext HH.out.ext (Nat.le_refl _)) l1
      have HL := Lib.hid (HA.out _ (List.getElem_mem l1)).locs
      have HS := Lib.hid (locsL_take xs k l1)
      have hle : (locsL (xs.take (k + 1))).length ≤ 10000000 := by
        have h1 := locsL_le xs (k + 1)
        have h2 := HT.out
        rw [HU.out, List.length_append] at h2
        omega
      have hle2 : im + (locsL (xs.take (k + 1))).length ≤ 10000000 := by
        have h1 := locsL_le xs (k + 1)
        have h2 := HT.out
        have h3 := HIl.out
        rw [HU.out, List.length_append] at h2
        omega
      obtain ⟨Z, hZ⟩ : ∃ Z, Z = locsL (xs.take (k + 1)) := ⟨_, rfl⟩
      rw [← hZ] at HS hle hle2
      have HZe := Lib.hid hZ
      clear hZ
      generalize locsL (xs.take k) = Y at *
      generalize xs[k] = x at *
      obtain ⟨key, ⟨dA, dn, dc, dx⟩, ⟨lA, ln, lc, lx⟩⟩ := x
      have HLn := Lib.hid (show ln = lx.length from HL.out.len)
      have HZ := Lib.hid (show Z = Y ++ lx from HS.out)
      have hZl : Z.length = Y.length + ln := by rw [HZ.out, List.length_append, HLn.out]
      simp only [Sl.val] at f1 f2
      dsimp only at f0
      have hb : m + ln ≤ 10000000 := by omega
      have HMl := Lib.hid (show m + ln = im + Z.length by omega)
      clear HS hml hZl
      go_upto_region 5 with fail
      generalize hwH : World.alloc wr _ = w5
      have HH2 := Lib.hid (HH.out.allocE hwH)
      clear HH hwH f0 f1 f2
      have HH := HH2
      clear HH2
      (iterate 60 (first | (refine shl_load1 HH.out rfl rfl rfl 0 rfl rfl (by decide +kernel) ?_) | at_builtin | go_step))
      refine shl_app (e := 3) (size := 1) (bytes := 8) (news := ints lx) (lo := 0) (.tmp 16) (.tmp 18) _ rfl rfl Tryz.underlying29 hi0 hz0 hz1 hz2 rfl (by omega) HH.out 1 rfl rfl (m := ln) rfl (by rw [ints_length, HLn.out, Nat.mul_one]) (HH.out.old (Loc.At.rdi HL.out)) (ints_one _) (by simp only [maxLen]; omega) (by omega) ?_
      intro v7 w7 hh7 h7
      obtain ⟨A7, c7, rfl⟩ := h7
      have HH7 := Lib.hid hh7.tail
      clear HH hh7
      go_wp2_with fail
      go_roundw
      case rel =>
        refine ⟨k + 1, by omega, by go_num, A7, c7, m + ln, rfl, by rw [← HZe.out]; exact HMl.out, ?_⟩
        rw [← HZe.out]
        have h := HH7.out
        rw [← ints_append, List.append_assoc, ← HZ.out] at h
        exact Lib.hid h
      case measure => simp [intOf]; omega
    · obtain rfl : k = n := by omega
      have ht : xs.take k = xs := List.take_of_length_le (by rw [← Hn.out]; exact Nat.le_refl _)
      rw [ht, ← HU.out] at HH
      have hml2 : m = U.length := by rw [HU.out, List.length_append, ← HIl.out, hml, ht]
      have HM := Lib.hid hml2
      clear hml hml2 ht
      go_wp2_with fail
      go_ret
      have h := HH.out.rowAt 0 rfl
      rw [HM.out] at h ⊢
      exact ⟨_, rfl, h, HH.out.ext⟩
end Go.Proofs.YtfongpdeflfioaaGreat
