/- The texts Ssp, Sst, Smt, Nd in one file. -/
import Derived.Test.YtckaneapjpiocaaGreatDoorM35
import Derived.Test.YtckaneapjpiocaaGreatDoorM11
import Derived.Test.YtckaneapjpiocaaGreatDoorM17
import Derived.Test.YtckaneapjpiocaaGreatDoorM13
import Derived.Test.YtckaneapjpiocaaGreatDoorM21
import Derived.Test.YtckaneapjpiocaaGreatDoorM3
import Derived.Test.YtckaneapjpiocaaGreatDoorM2
namespace Go.Proofs.YtckaneapjpiocaaGreatDoor
open Go.RowKit Go.Maps Go.Sort Go.Shelf
set_option linter.unusedVariables false
set_option linter.unusedSimpArgs false
def snEq (x y : Sna) : Bool := decide (x.name = y.name) && (decide (x.guid = y.guid) && (decide (x.tags.n = y.tags.n) && (decide (x.body.xs = y.body.xs) && (decide (x.own.xs = y.own.xs) && decide (x.tags.xs = y.tags.xs)))))
set_option maxRecDepth 100000 in
set_option maxHeartbeats 8000000 in
theorem rsamesn_any (w : World) (x y : Sna) (hx : Sna.At w 0 w.heap.size x) (hy : Sna.At w 0 w.heap.size y) :
    Calls Tryz.prog 112 #[.agg x.cells.toArray, .agg y.cells.toArray] w fun e w' => e = .returned (.bool (snEq x y)) ∧ Ext w w' := by
  have HBk := Lib.hid (fun W (hW : Ext w W) => rsame_any W x.body.A y.body.A x.body.n y.body.n x.body.c y.body.c x.body.xs y.body.xs hx.body.len hy.body.len (Nat.le_trans hx.bodyS (by decide)) (Nat.le_trans hy.bodyS (by decide)) (Rd.at hx.body.rd hW (Nat.le_refl _)) (Rd.at hy.body.rd hW (Nat.le_refl _)))
  have HPr := Lib.hid (fun W (hW : Ext w W) => rpsame_any W x.own.A y.own.A x.own.n y.own.n x.own.c y.own.c x.own.xs y.own.xs hx.own.len hy.own.len (Nat.le_trans hx.ownS (by decide)) (Nat.le_trans hy.ownS (by decide)) (Rd.at hx.own.rd hW (Nat.le_refl _)) (Rd.at hy.own.rd hW (Nat.le_refl _)))
  have HTx := Lib.hid hx.tags
  have HTy := Lib.hid hy.tags
  have hm : x.tags.n ≤ 9223372036854775807 := Nat.le_trans (Nat.le_trans hx.tags.le hx.tags.cap) (by decide)
  have hm2 : y.tags.n ≤ 9223372036854775807 := Nat.le_trans (Nat.le_trans hy.tags.le hy.tags.cap) (by decide)
  have HV := Lib.hid (show snEq x y = (decide (x.name = y.name) && (decide (x.guid = y.guid) && (decide (x.tags.n = y.tags.n) && (decide (x.body.xs = y.body.xs) && (decide (x.own.xs = y.own.xs) && decide (x.tags.xs = y.tags.xs)))))) from rfl)
  generalize snEq x y = V at *
  clear hx hy
  obtain ⟨nm, gu, ⟨bA, bn, bc, bd⟩, ⟨tA, tn, tc, td⟩, ⟨pA, pn, pc, pd⟩⟩ := x
  obtain ⟨nm2, gu2, ⟨eA, en, ec, ed⟩, ⟨uA, tn2, uc, td2⟩, ⟨rA, rn, rc, rd⟩⟩ := y
  dsimp only at HBk HPr HV hm hm2
  simp only [Sna.cells, Sl.val]
  generalize decide (bd = ed) = bs at *
  generalize decide (pd = rd) = ps at *
  go_enter Tryz.func112, Tryz.ntmps112
  go_upto_region 1 with fail
  generalize hwH : World.alloc (World.alloc w _) _ = w1; have HH := Lib.hid (Heap.two hwH); clear hwH
  obtain ⟨yb, hyb⟩ : ∃ b, b = w.heap.size + 1 := ⟨_, rfl⟩
  obtain ⟨xb, hxb⟩ : ∃ b, b = w.heap.size := ⟨_, rfl⟩
  rw [← hyb, ← hxb] at HH ⊢
  clear hyb hxb
  obtain ⟨c0, c1, c2, c3, c4, -⟩ := bxN5 (HH.out.boxAt 1 rfl)
  obtain ⟨d0, d1, d2, d3, d4, -⟩ := bxN5 (HH.out.boxAt 0 rfl)
  by_cases h0 : nm = nm2
  · subst h0
    have q0 := toList_self nm
    by_cases h1 : gu = gu2
    · subst h1
      by_cases h2 : tn = tn2
      · subst h2
        cases bs with
        | false =>
          obtain rfl : V = false := by rw [HV.out]; simp [*]
          clear HV
          go_wp2_with (first | (go_at_call 111; with_reducible refine (HBk.out _ HH.out.ext).mono ?_; rintro e wb ⟨rfl, eb⟩; replace HH := Lib.hid (HH.out.later eb); clear eb; clear c0 c1 c2 c3 c4 d0 d1 d2 d3 d4; obtain ⟨c0, c1, c2, c3, c4, -⟩ := bxN5 (HH.out.boxAt 1 rfl); obtain ⟨d0, d1, d2, d3, d4, -⟩ := bxN5 (HH.out.boxAt 0 rfl)) | (go_at_call 71; with_reducible refine (HPr.out _ HH.out.ext).mono ?_; rintro e wo ⟨rfl, eo⟩; replace HH := Lib.hid (HH.out.later eo); clear eo; clear c0 c1 c2 c3 c4 d0 d1 d2 d3 d4; obtain ⟨c0, c1, c2, c3, c4, -⟩ := bxN5 (HH.out.boxAt 1 rfl); obtain ⟨d0, d1, d2, d3, d4, -⟩ := bxN5 (HH.out.boxAt 0 rfl)))
          go_ret
          exact ⟨rfl, HH.out.ext⟩
        | true =>
          cases ps with
          | false =>
            obtain rfl : V = false := by rw [HV.out]; simp [*]
            clear HV
            go_wp2_with (first | (go_at_call 111; with_reducible refine (HBk.out _ HH.out.ext).mono ?_; rintro e wb ⟨rfl, eb⟩; replace HH := Lib.hid (HH.out.later eb); clear eb; clear c0 c1 c2 c3 c4 d0 d1 d2 d3 d4; obtain ⟨c0, c1, c2, c3, c4, -⟩ := bxN5 (HH.out.boxAt 1 rfl); obtain ⟨d0, d1, d2, d3, d4, -⟩ := bxN5 (HH.out.boxAt 0 rfl)) | (go_at_call 71; with_reducible refine (HPr.out _ HH.out.ext).mono ?_; rintro e wo ⟨rfl, eo⟩; replace HH := Lib.hid (HH.out.later eo); clear eo; clear c0 c1 c2 c3 c4 d0 d1 d2 d3 d4; obtain ⟨c0, c1, c2, c3, c4, -⟩ := bxN5 (HH.out.boxAt 1 rfl); obtain ⟨d0, d1, d2, d3, d4, -⟩ := bxN5 (HH.out.boxAt 0 rfl)))
            go_ret
            exact ⟨rfl, HH.out.ext⟩
          | true =>
            have HV2 := Lib.hid (show V = decide (td = td2) by rw [HV.out]; simp)
            clear HV
            go_upto_region 3 with (first | (go_at_call 111; with_reducible refine (HBk.out _ HH.out.ext).mono ?_; rintro e wb ⟨rfl, eb⟩; replace HH := Lib.hid (HH.out.later eb); clear eb; clear c0 c1 c2 c3 c4 d0 d1 d2 d3 d4; obtain ⟨c0, c1, c2, c3, c4, -⟩ := bxN5 (HH.out.boxAt 1 rfl); obtain ⟨d0, d1, d2, d3, d4, -⟩ := bxN5 (HH.out.boxAt 0 rfl)) | (go_at_call 71; with_reducible refine (HPr.out _ HH.out.ext).mono ?_; rintro e wo ⟨rfl, eo⟩; replace HH := Lib.hid (HH.out.later eo); clear eo; clear c0 c1 c2 c3 c4 d0 d1 d2 d3 d4; obtain ⟨c0, c1, c2, c3, c4, -⟩ := bxN5 (HH.out.boxAt 1 rfl); obtain ⟨d0, d1, d2, d3, d4, -⟩ := bxN5 (HH.out.boxAt 0 rfl)))
            clear HBk HPr
            go_wp2_with fail
            have HH0 := HH
            clear HH c0 c1 c2 c3 c4 d0 d1 d2 d3 d4
            go_loopw [5] (fun v wr => ∃ k : Nat, k ≤ tn ∧ v = .int .i64 (k : Int) ∧ Hid (td.take k = td2.take k) ∧ Hid (Heap w [.box yb [.string nm, .int .i64 gu, .slice eA en ec, .slice uA tn uc, .slice rA rn rc], .box xb [.string nm, .int .i64 gu, .slice bA bn bc, .slice tA tn tc, .slice pA pn pc]] wr)) (fun v _ => tn - (intOf v).toNat)
            case atStart => exact ⟨0, Nat.zero_le _, rfl, by rw [Hid]; rfl, HH0⟩
            case round =>
              clear HH0
              obtain ⟨k, hk, rfl, HK, HH⟩ := hrel
              by_cases hlt : k < tn
              · have l1 : k < td.length := by rw [← HTx.out.len]; exact hlt
                have l2 : k < td2.length := by rw [← HTy.out.len]; exact hlt
                obtain ⟨b1, o1, hA1, _, hb1, G1⟩ := rd_flat (size := 1) (fun _ => rfl) (by omega) HTx.out.rd l1
                obtain ⟨b2, o2, hA2, _, hb2, G2⟩ := rd_flat (size := 1) (fun _ => rfl) (by omega) HTy.out.rd l2
                dsimp only at hA1 hA2
                subst hA1
                subst hA2
                have HT := Lib.hid (fun he => takeG_succ l1 l2 HK.out he)
                have HN := Lib.hid (neG_at l1 l2)
                have f0 := G1 0 _ rfl
                have g0 := G2 0 _ rfl
                rw [Nat.mul_one, Nat.add_zero] at f0 g0
                clear G1 G2
                generalize td[k] = x at *
                generalize td2[k] = y at *
                have f0W : ∀ W, Heap w [.box yb [.string nm, .int .i64 gu, .slice eA en ec, .slice (some ⟨b2, o2, none⟩) tn uc, .slice rA rn rc], .box xb [.string nm, .int .i64 gu, .slice bA bn bc, .slice (some ⟨b1, o1, none⟩) tn tc, .slice pA pn pc]] W → W.cell? ⟨b1, o1 + k, none⟩ = some (.string x) := fun W hW => (Below.cell hW.ext (World.block_lt_of_cell? w _ f0)).trans f0
                have g0W : ∀ W, Heap w [.box yb [.string nm, .int .i64 gu, .slice eA en ec, .slice (some ⟨b2, o2, none⟩) tn uc, .slice rA rn rc], .box xb [.string nm, .int .i64 gu, .slice bA bn bc, .slice (some ⟨b1, o1, none⟩) tn tc, .slice pA pn pc]] W → W.cell? ⟨b2, o2 + k, none⟩ = some (.string y) := fun W hW => (Below.cell hW.ext (World.block_lt_of_cell? w _ g0)).trans g0
                clear f0 g0
                have hkn : (k : Int) < (tn : Int) := by omega
                have HD := Lib.hid (toList_dec x y)
                go_upto_region 6 with (refine shl_load1 HH.out rfl rfl rfl 1 rfl rfl (by decide +kernel) ?_)
                have HHd := Lib.hid (show Heap w [.box yb [.string nm, .int .i64 gu, .slice eA en ec, .slice (some ⟨b2, o2, none⟩) tn uc, .slice rA rn rc], .box xb [.string nm, .int .i64 gu, .slice bA bn bc, .slice (some ⟨b1, o1, none⟩) tn tc, .slice pA pn pc]] (World.drew wr) from HH.out.drew)
                clear HH
                refine wp_region_held_drew (S := Heap w [.box yb [.string nm, .int .i64 gu, .slice eA en ec, .slice (some ⟨b2, o2, none⟩) tn uc, .slice rA rn rc], .box xb [.string nm, .int .i64 gu, .slice bA bn bc, .slice (some ⟨b1, o1, none⟩) tn tc, .slice pA pn pc]]) (by kernel_rfl) HHd.out (fun hHeld => ?_)
                generalize World.drew _ = wd at *
                refine tW 0 1 ?_
                refine tG 1 rfl (fun wT hST => sh_run_load1 hST rfl rfl 1 rfl rfl (by kernel_rfl)) hHeld ?_; (try simp only [Act.put, lyA, lyB, lyC])
                refine tW 2 4 ?_
                refine tG 6 rfl (fun wT hST => sh_run_load1 hST rfl rfl 0 rfl rfl (by kernel_rfl)) hHeld ?_; (try simp only [Act.put, lyA, lyB, lyC])
                refine tW 7 3 ?_
                clear f0W g0W
                by_cases he : x = y
                · have hd : (x.toList == y.toList) = true := by rw [HD.out]; exact decide_eq_true he
                  have HK2 := Lib.hid (HT.out he)
                  clear he HT HN
                  refine tW 10 1 ?_
                  refine wpAnyH_done (by kernel_rfl) ?_ _
                  clear hHeld
                  go_wp2_with fail
                  go_roundw
                  case rel => exact ⟨k + 1, by omega, by go_num, HK2, HHd⟩
                  case measure => (first | (simp [intOf]; done) | (simp [intOf]; omega))
                · have hd : (x.toList == y.toList) = false := by rw [HD.out]; exact decide_eq_false he
                  obtain rfl : V = false := by rw [HV2.out]; exact decide_eq_false (HN.out he)
                  clear he HT HN
                  refine tW 10 1 ?_
                  refine wpAnyH_done (by kernel_rfl) ?_ _
                  clear hHeld
                  go_wp2_with fail
                  go_ret
                  exact ⟨rfl, HHd.out.ext⟩
              · obtain rfl : k = tn := by omega
                have h1 := HK.out
                rw [List.take_of_length_le (by rw [← HTx.out.len]; exact Nat.le_refl _), List.take_of_length_le (by rw [← HTy.out.len]; exact Nat.le_refl _)] at h1
                have HF := Lib.hid (show V = true from HV2.out.trans (decide_eq_true h1))
                clear h1 HV2
                go_wp2_with (refine shl_load1 HH.out rfl rfl rfl 1 rfl rfl (by decide +kernel) ?_)
                go_ret
                exact ⟨by rw [HF.out]; rfl, HH.out.ext⟩
      · have q2 : ((tn : Int) == (tn2 : Int)) = false := by rw [beq_eq_false_iff_ne]; omega
        obtain rfl : V = false := by rw [HV.out]; simp [h2]
        clear HV
        go_wp2_with (first | (go_at_call 111; with_reducible refine (HBk.out _ HH.out.ext).mono ?_; rintro e wb ⟨rfl, eb⟩; replace HH := Lib.hid (HH.out.later eb); clear eb; clear c0 c1 c2 c3 c4 d0 d1 d2 d3 d4; obtain ⟨c0, c1, c2, c3, c4, -⟩ := bxN5 (HH.out.boxAt 1 rfl); obtain ⟨d0, d1, d2, d3, d4, -⟩ := bxN5 (HH.out.boxAt 0 rfl)) | (go_at_call 71; with_reducible refine (HPr.out _ HH.out.ext).mono ?_; rintro e wo ⟨rfl, eo⟩; replace HH := Lib.hid (HH.out.later eo); clear eo; clear c0 c1 c2 c3 c4 d0 d1 d2 d3 d4; obtain ⟨c0, c1, c2, c3, c4, -⟩ := bxN5 (HH.out.boxAt 1 rfl); obtain ⟨d0, d1, d2, d3, d4, -⟩ := bxN5 (HH.out.boxAt 0 rfl)))
        go_ret
        exact ⟨rfl, HH.out.ext⟩
    · have q1 : (gu == gu2) = false := by simp [h1]
      obtain rfl : V = false := by rw [HV.out]; simp [h1]
      clear HV
      go_wp2_with (first | (go_at_call 111; with_reducible refine (HBk.out _ HH.out.ext).mono ?_; rintro e wb ⟨rfl, eb⟩; replace HH := Lib.hid (HH.out.later eb); clear eb; clear c0 c1 c2 c3 c4 d0 d1 d2 d3 d4; obtain ⟨c0, c1, c2, c3, c4, -⟩ := bxN5 (HH.out.boxAt 1 rfl); obtain ⟨d0, d1, d2, d3, d4, -⟩ := bxN5 (HH.out.boxAt 0 rfl)) | (go_at_call 71; with_reducible refine (HPr.out _ HH.out.ext).mono ?_; rintro e wo ⟨rfl, eo⟩; replace HH := Lib.hid (HH.out.later eo); clear eo; clear c0 c1 c2 c3 c4 d0 d1 d2 d3 d4; obtain ⟨c0, c1, c2, c3, c4, -⟩ := bxN5 (HH.out.boxAt 1 rfl); obtain ⟨d0, d1, d2, d3, d4, -⟩ := bxN5 (HH.out.boxAt 0 rfl)))
      go_ret
      exact ⟨rfl, HH.out.ext⟩
  · have q0 := toList_ne h0
    obtain rfl : V = false := by rw [HV.out]; simp [h0]
    clear HV
    go_wp2_with (first | (go_at_call 111; with_reducible refine (HBk.out _ HH.out.ext).mono ?_; rintro e wb ⟨rfl, eb⟩; replace HH := Lib.hid (HH.out.later eb); clear eb; clear c0 c1 c2 c3 c4 d0 d1 d2 d3 d4; obtain ⟨c0, c1, c2, c3, c4, -⟩ := bxN5 (HH.out.boxAt 1 rfl); obtain ⟨d0, d1, d2, d3, d4, -⟩ := bxN5 (HH.out.boxAt 0 rfl)) | (go_at_call 71; with_reducible refine (HPr.out _ HH.out.ext).mono ?_; rintro e wo ⟨rfl, eo⟩; replace HH := Lib.hid (HH.out.later eo); clear eo; clear c0 c1 c2 c3 c4 d0 d1 d2 d3 d4; obtain ⟨c0, c1, c2, c3, c4, -⟩ := bxN5 (HH.out.boxAt 1 rfl); obtain ⟨d0, d1, d2, d3, d4, -⟩ := bxN5 (HH.out.boxAt 0 rfl)))
    go_ret
    exact ⟨rfl, HH.out.ext⟩
open Go.RowKit Go.Maps Go.Sort Go.Shelf
set_option linter.unusedVariables false
set_option linter.unusedSimpArgs false
def zipEq : List Sna → List Sna → Bool
  | [], [] => true
  | x :: xs, y :: ys => snEq x y && zipEq xs ys
  | _, _ => false
theorem zipEq_no : ∀ (xs ys : List Sna) (k : Nat) (h : k < xs.length) (h2 : k < ys.length), snEq xs[k] ys[k] = false → zipEq xs ys = false
  | x :: xs, y :: ys, 0, _, _, hq => by
    have hq : snEq x y = false := hq
    rw [zipEq, hq]; rfl
  | x :: xs, y :: ys, k + 1, h, h2, hq => by
    rw [zipEq, zipEq_no xs ys k (by simpa using h) (by simpa using h2) hq, Bool.and_false]
theorem zipEq_yes : ∀ (xs ys : List Sna), xs.length = ys.length → (∀ k (h : k < xs.length) (h2 : k < ys.length), snEq xs[k] ys[k] = true) → zipEq xs ys = true
  | [], [], _, _ => rfl
  | [], _ :: _, h, _ => by cases h
  | _ :: _, [], h, _ => by cases h
  | x :: xs, y :: ys, h, hq => by
    have h0 : snEq x y = true := hq 0 (by simp) (by simp)
    rw [zipEq, h0, zipEq_yes xs ys (by simpa using h) (fun k h h2 => hq (k + 1) (by simpa using h) (by simpa using h2))]; rfl
def dsEq (x y : Dst) : Bool := decide (x.path = y.path) && (decide (x.origin = y.origin) && (decide (x.snaps.n = y.snaps.n) && (decide (x.body.xs = y.body.xs) && (decide (x.own.xs = y.own.xs) && zipEq x.snaps.xs y.snaps.xs))))
set_option maxRecDepth 100000 in
set_option maxHeartbeats 8000000 in
theorem rsameset_any (w : World) (x y : Dst) (hx : Dst.At w 0 w.heap.size x) (hy : Dst.At w 0 w.heap.size y) :
    Calls Tryz.prog 53 #[.agg x.cells.toArray, .agg y.cells.toArray] w fun e w' => e = .returned (.bool (dsEq x y)) ∧ Ext w w' := by
  have HBk := Lib.hid (fun W (hW : Ext w W) => rsame_any W x.body.A y.body.A x.body.n y.body.n x.body.c y.body.c x.body.xs y.body.xs hx.body.len hy.body.len (Nat.le_trans hx.bodyS (by decide)) (Nat.le_trans hy.bodyS (by decide)) (Rd.at hx.body.rd hW (Nat.le_refl _)) (Rd.at hy.body.rd hW (Nat.le_refl _)))
  have HPr := Lib.hid (fun W (hW : Ext w W) => rpsame_any W x.own.A y.own.A x.own.n y.own.n x.own.c y.own.c x.own.xs y.own.xs hx.own.len hy.own.len (Nat.le_trans hx.ownS (by decide)) (Nat.le_trans hy.ownS (by decide)) (Rd.at hx.own.rd hW (Nat.le_refl _)) (Rd.at hy.own.rd hW (Nat.le_refl _)))
  have HTx := Lib.hid hx.snaps
  have HTy := Lib.hid hy.snaps
  have hm : x.snaps.n ≤ 9223372036854775807 := Nat.le_trans (Nat.le_trans hx.snaps.le hx.snaps.cap) (by decide)
  have hm2 : y.snaps.n ≤ 9223372036854775807 := Nat.le_trans (Nat.le_trans hy.snaps.le hy.snaps.cap) (by decide)
  have HV := Lib.hid (show dsEq x y = (decide (x.path = y.path) && (decide (x.origin = y.origin) && (decide (x.snaps.n = y.snaps.n) && (decide (x.body.xs = y.body.xs) && (decide (x.own.xs = y.own.xs) && zipEq x.snaps.xs y.snaps.xs))))) from rfl)
  generalize dsEq x y = V at *
  clear hx hy
  obtain ⟨nm, gu, ⟨bA, bn, bc, bd⟩, ⟨tA, tn, tc, td⟩, ⟨pA, pn, pc, pd⟩⟩ := x
  obtain ⟨nm2, gu2, ⟨eA, en, ec, ed⟩, ⟨uA, tn2, uc, td2⟩, ⟨rA, rn, rc, rd⟩⟩ := y
  dsimp only at HBk HPr HV hm hm2
  simp only [Dst.cells, Sl.val]
  generalize decide (bd = ed) = bs at *
  generalize decide (pd = rd) = ps at *
  go_enter Tryz.func53, Tryz.ntmps53
  go_upto_region 1 with fail
  generalize hwH : World.alloc (World.alloc w _) _ = w1; have HH := Lib.hid (Heap.two hwH); clear hwH
  obtain ⟨yb, hyb⟩ : ∃ b, b = w.heap.size + 1 := ⟨_, rfl⟩
  obtain ⟨xb, hxb⟩ : ∃ b, b = w.heap.size := ⟨_, rfl⟩
  rw [← hyb, ← hxb] at HH ⊢
  clear hyb hxb
  obtain ⟨c0, c1, c2, c3, c4, -⟩ := bxN5 (HH.out.boxAt 1 rfl)
  obtain ⟨d0, d1, d2, d3, d4, -⟩ := bxN5 (HH.out.boxAt 0 rfl)
  by_cases h0 : nm = nm2
  · subst h0
    have q0 := toList_self nm
    by_cases h1 : gu = gu2
    · subst h1
      have q1 := toList_self gu
      by_cases h2 : tn = tn2
      · subst h2
        cases bs with
        | false =>
          obtain rfl : V = false := by rw [HV.out]; simp [*]
          clear HV
          go_wp2_with (first | (go_at_call 111; with_reducible refine (HBk.out _ HH.out.ext).mono ?_; rintro e wb ⟨rfl, eb⟩; replace HH := Lib.hid (HH.out.later eb); clear eb; clear c0 c1 c2 c3 c4 d0 d1 d2 d3 d4; obtain ⟨c0, c1, c2, c3, c4, -⟩ := bxN5 (HH.out.boxAt 1 rfl); obtain ⟨d0, d1, d2, d3, d4, -⟩ := bxN5 (HH.out.boxAt 0 rfl)) | (go_at_call 71; with_reducible refine (HPr.out _ HH.out.ext).mono ?_; rintro e wo ⟨rfl, eo⟩; replace HH := Lib.hid (HH.out.later eo); clear eo; clear c0 c1 c2 c3 c4 d0 d1 d2 d3 d4; obtain ⟨c0, c1, c2, c3, c4, -⟩ := bxN5 (HH.out.boxAt 1 rfl); obtain ⟨d0, d1, d2, d3, d4, -⟩ := bxN5 (HH.out.boxAt 0 rfl)))
          go_ret
          exact ⟨rfl, HH.out.ext⟩
        | true =>
          cases ps with
          | false =>
            obtain rfl : V = false := by rw [HV.out]; simp [*]
            clear HV
            go_wp2_with (first | (go_at_call 111; with_reducible refine (HBk.out _ HH.out.ext).mono ?_; rintro e wb ⟨rfl, eb⟩; replace HH := Lib.hid (HH.out.later eb); clear eb; clear c0 c1 c2 c3 c4 d0 d1 d2 d3 d4; obtain ⟨c0, c1, c2, c3, c4, -⟩ := bxN5 (HH.out.boxAt 1 rfl); obtain ⟨d0, d1, d2, d3, d4, -⟩ := bxN5 (HH.out.boxAt 0 rfl)) | (go_at_call 71; with_reducible refine (HPr.out _ HH.out.ext).mono ?_; rintro e wo ⟨rfl, eo⟩; replace HH := Lib.hid (HH.out.later eo); clear eo; clear c0 c1 c2 c3 c4 d0 d1 d2 d3 d4; obtain ⟨c0, c1, c2, c3, c4, -⟩ := bxN5 (HH.out.boxAt 1 rfl); obtain ⟨d0, d1, d2, d3, d4, -⟩ := bxN5 (HH.out.boxAt 0 rfl)))
            go_ret
            exact ⟨rfl, HH.out.ext⟩
          | true =>
            have HV2 := Lib.hid (show V = zipEq td td2 by rw [HV.out]; simp)
            clear HV
            go_upto_region 3 with (first | (go_at_call 111; with_reducible refine (HBk.out _ HH.out.ext).mono ?_; rintro e wb ⟨rfl, eb⟩; replace HH := Lib.hid (HH.out.later eb); clear eb; clear c0 c1 c2 c3 c4 d0 d1 d2 d3 d4; obtain ⟨c0, c1, c2, c3, c4, -⟩ := bxN5 (HH.out.boxAt 1 rfl); obtain ⟨d0, d1, d2, d3, d4, -⟩ := bxN5 (HH.out.boxAt 0 rfl)) | (go_at_call 71; with_reducible refine (HPr.out _ HH.out.ext).mono ?_; rintro e wo ⟨rfl, eo⟩; replace HH := Lib.hid (HH.out.later eo); clear eo; clear c0 c1 c2 c3 c4 d0 d1 d2 d3 d4; obtain ⟨c0, c1, c2, c3, c4, -⟩ := bxN5 (HH.out.boxAt 1 rfl); obtain ⟨d0, d1, d2, d3, d4, -⟩ := bxN5 (HH.out.boxAt 0 rfl)))
            clear HBk HPr
            go_wp2_with fail
            have HH0 := HH
            clear HH c0 c1 c2 c3 c4 d0 d1 d2 d3 d4
            go_loopw [5] (fun v wr => ∃ k : Nat, k ≤ tn ∧ v = .int .i64 (k : Int) ∧ Hid (∀ j (h : j < td.length) (h2 : j < td2.length), j < k → snEq td[j] td2[j] = true) ∧ Hid (Heap w [.box yb [.string nm, .string gu, .slice eA en ec, .slice uA tn uc, .slice rA rn rc], .box xb [.string nm, .string gu, .slice bA bn bc, .slice tA tn tc, .slice pA pn pc]] wr)) (fun v _ => tn - (intOf v).toNat)
            case atStart => exact ⟨0, Nat.zero_le _, rfl, Lib.hid (fun j _ _ hj => absurd hj (Nat.not_lt_zero _)), HH0⟩
            case round =>
              clear HH0
              obtain ⟨k, hk, rfl, HK, HH⟩ := hrel
              by_cases hlt : k < tn
              · have l1 : k < td.length := by rw [← HTx.out.len]; exact hlt
                have l2 : k < td2.length := by rw [← HTy.out.len]; exact hlt
                obtain ⟨b1, o1, hA1, _, hb1, G1⟩ := rd_flat (size := 5) (fun _ => rfl) (by omega) HTx.out.rd l1
                obtain ⟨b2, o2, hA2, _, hb2, G2⟩ := rd_flat (size := 5) (fun _ => rfl) (by omega) HTy.out.rd l2
                dsimp only at hA1 hA2
                subst hA1
                subst hA2
                have HT := Lib.hid (fun (he : snEq td[k] td2[k] = true) => show ∀ j (h : j < td.length) (h2 : j < td2.length), j < k + 1 → snEq td[j] td2[j] = true from fun j h h2 hj => by
                  rcases Nat.lt_or_ge j k with h3 | h3
                  · exact HK.out j h h2 h3
                  · obtain rfl : j = k := by omega
                    exact he)
                have HN := Lib.hid (zipEq_no td td2 k l1 l2)
                have HSn := Lib.hid (fun W (hW : Ext w W) => rsamesn_any W td[k] td2[k] (Sna.At.on (HTx.out.all _ (List.getElem_mem l1)) hW (Nat.le_refl _)) (Sna.At.on (HTy.out.all _ (List.getElem_mem l2)) hW (Nat.le_refl _)))
                have HF := Lib.hid (fun W (hW : Heap w [.box yb [.string nm, .string gu, .slice eA en ec, .slice (some ⟨b2, o2, none⟩) tn uc, .slice rA rn rc], .box xb [.string nm, .string gu, .slice bA bn bc, .slice (some ⟨b1, o1, none⟩) tn tc, .slice pA pn pc]] W) i u hu => (Below.cell hW.ext hb1).trans (G1 i u hu))
                have HG := Lib.hid (fun W (hW : Heap w [.box yb [.string nm, .string gu, .slice eA en ec, .slice (some ⟨b2, o2, none⟩) tn uc, .slice rA rn rc], .box xb [.string nm, .string gu, .slice bA bn bc, .slice (some ⟨b1, o1, none⟩) tn tc, .slice pA pn pc]] W) i u hu => (Below.cell hW.ext hb2).trans (G2 i u hu))
                clear G1 G2
                generalize td[k] = x at *
                generalize td2[k] = y at *
                generalize snEq x y = sq at *
                obtain ⟨xa, xb9, ⟨x1, x2, x3, x4⟩, ⟨x5, x6, x7, x8⟩, ⟨x9, x10, x11, x12⟩⟩ := x
                obtain ⟨ya, yb9, ⟨y1, y2, y3, y4⟩, ⟨y5, y6, y7, y8⟩, ⟨y9, y10, y11, y12⟩⟩ := y
                simp only [Sna.cells, Sl.val] at HSn HF HG
                have hkn : (k : Int) < (tn : Int) := by omega
                go_upto_region 6 with (refine shl_load1 HH.out rfl rfl rfl 1 rfl rfl (by decide +kernel) ?_)
                have HHd := Lib.hid (show Heap w [.box yb [.string nm, .string gu, .slice eA en ec, .slice (some ⟨b2, o2, none⟩) tn uc, .slice rA rn rc], .box xb [.string nm, .string gu, .slice bA bn bc, .slice (some ⟨b1, o1, none⟩) tn tc, .slice pA pn pc]] (World.drew wr) from HH.out.drew)
                clear HH
                refine wp_region_held_drew (S := Heap w [.box yb [.string nm, .string gu, .slice eA en ec, .slice (some ⟨b2, o2, none⟩) tn uc, .slice rA rn rc], .box xb [.string nm, .string gu, .slice bA bn bc, .slice (some ⟨b1, o1, none⟩) tn tc, .slice pA pn pc]]) (by kernel_rfl) HHd.out (fun hHeld => ?_)
                generalize World.drew _ = wd at *
                refine tW 0 1 ?_
                refine tG 1 rfl (fun wT hST => sh_run_load1 hST rfl rfl 1 rfl rfl (by kernel_rfl)) hHeld ?_; (try simp only [Act.put, lyA, lyB, lyC])
                refine tW 2 2 ?_
                refine tG 4 rfl (fun wT hST => rl_run (HF.out wT hST) rfl sizeSna (by kernel_rfl) rfl rfl) hHeld ?_; (try simp only [Act.put, lyA, lyB, lyC])
                refine tW 5 1 ?_
                refine tG 6 rfl (fun wT hST => sh_run_load1 hST rfl rfl 0 rfl rfl (by kernel_rfl)) hHeld ?_; (try simp only [Act.put, lyA, lyB, lyC])
                refine tW 7 2 ?_
                refine tG 9 rfl (fun wT hST => rl_run (HG.out wT hST) rfl sizeSna (by kernel_rfl) rfl rfl) hHeld ?_; (try simp only [Act.put, lyA, lyB, lyC])
                clear hHeld HF HG
                refine oS 10 (fun K hK => ?_)
                go_simp
                refine (HSn.out _ HHd.out.ext).mono ?_
                rintro e w5 ⟨rfl, e5⟩
                have HH5 := Lib.hid (HHd.out.later e5)
                clear HHd e5
                go_wp2_with fail
                refine hK.out _ _ (HH5).out (fun hHeld => ?_)
                clear hK K
                (try simp only [Act.put, lyA, lyB, lyC])
                cases sq with
                | true =>
                  have HK2 := Lib.hid (HT.out rfl)
                  clear HT HN
                  refine tW 11 1 ?_
                  refine wpAnyH_done (by kernel_rfl) ?_ _
                  clear hHeld
                  go_wp2_with fail
                  go_roundw
                  case rel => exact ⟨k + 1, by omega, by go_num, HK2, HH5⟩
                  case measure => (first | (simp [intOf]; done) | (simp [intOf]; omega))
                | false =>
                  obtain rfl : V = false := by rw [HV2.out]; exact HN.out rfl
                  clear HT HN
                  refine tW 11 1 ?_
                  refine wpAnyH_done (by kernel_rfl) ?_ _
                  clear hHeld
                  go_wp2_with fail
                  go_ret
                  exact ⟨rfl, HH5.out.ext⟩
              · obtain rfl : k = tn := by omega
                have HF := Lib.hid (show V = true from HV2.out.trans (zipEq_yes td td2 (by rw [← HTx.out.len, ← HTy.out.len]) (fun j h h2 => HK.out j h h2 (by have := HTx.out.len; dsimp only at this; omega))))
                clear HV2
                go_wp2_with (refine shl_load1 HH.out rfl rfl rfl 1 rfl rfl (by decide +kernel) ?_)
                go_ret
                exact ⟨by rw [HF.out]; rfl, HH.out.ext⟩
      · have q2 : ((tn : Int) == (tn2 : Int)) = false := by rw [beq_eq_false_iff_ne]; omega
        obtain rfl : V = false := by rw [HV.out]; simp [h2]
        clear HV
        go_wp2_with (first | (go_at_call 111; with_reducible refine (HBk.out _ HH.out.ext).mono ?_; rintro e wb ⟨rfl, eb⟩; replace HH := Lib.hid (HH.out.later eb); clear eb; clear c0 c1 c2 c3 c4 d0 d1 d2 d3 d4; obtain ⟨c0, c1, c2, c3, c4, -⟩ := bxN5 (HH.out.boxAt 1 rfl); obtain ⟨d0, d1, d2, d3, d4, -⟩ := bxN5 (HH.out.boxAt 0 rfl)) | (go_at_call 71; with_reducible refine (HPr.out _ HH.out.ext).mono ?_; rintro e wo ⟨rfl, eo⟩; replace HH := Lib.hid (HH.out.later eo); clear eo; clear c0 c1 c2 c3 c4 d0 d1 d2 d3 d4; obtain ⟨c0, c1, c2, c3, c4, -⟩ := bxN5 (HH.out.boxAt 1 rfl); obtain ⟨d0, d1, d2, d3, d4, -⟩ := bxN5 (HH.out.boxAt 0 rfl)))
        go_ret
        exact ⟨rfl, HH.out.ext⟩
    · have q1 := toList_ne h1
      obtain rfl : V = false := by rw [HV.out]; simp [h1]
      clear HV
      go_wp2_with (first | (go_at_call 111; with_reducible refine (HBk.out _ HH.out.ext).mono ?_; rintro e wb ⟨rfl, eb⟩; replace HH := Lib.hid (HH.out.later eb); clear eb; clear c0 c1 c2 c3 c4 d0 d1 d2 d3 d4; obtain ⟨c0, c1, c2, c3, c4, -⟩ := bxN5 (HH.out.boxAt 1 rfl); obtain ⟨d0, d1, d2, d3, d4, -⟩ := bxN5 (HH.out.boxAt 0 rfl)) | (go_at_call 71; with_reducible refine (HPr.out _ HH.out.ext).mono ?_; rintro e wo ⟨rfl, eo⟩; replace HH := Lib.hid (HH.out.later eo); clear eo; clear c0 c1 c2 c3 c4 d0 d1 d2 d3 d4; obtain ⟨c0, c1, c2, c3, c4, -⟩ := bxN5 (HH.out.boxAt 1 rfl); obtain ⟨d0, d1, d2, d3, d4, -⟩ := bxN5 (HH.out.boxAt 0 rfl)))
      go_ret
      exact ⟨rfl, HH.out.ext⟩
  · have q0 := toList_ne h0
    obtain rfl : V = false := by rw [HV.out]; simp [h0]
    clear HV
    go_wp2_with (first | (go_at_call 111; with_reducible refine (HBk.out _ HH.out.ext).mono ?_; rintro e wb ⟨rfl, eb⟩; replace HH := Lib.hid (HH.out.later eb); clear eb; clear c0 c1 c2 c3 c4 d0 d1 d2 d3 d4; obtain ⟨c0, c1, c2, c3, c4, -⟩ := bxN5 (HH.out.boxAt 1 rfl); obtain ⟨d0, d1, d2, d3, d4, -⟩ := bxN5 (HH.out.boxAt 0 rfl)) | (go_at_call 71; with_reducible refine (HPr.out _ HH.out.ext).mono ?_; rintro e wo ⟨rfl, eo⟩; replace HH := Lib.hid (HH.out.later eo); clear eo; clear c0 c1 c2 c3 c4 d0 d1 d2 d3 d4; obtain ⟨c0, c1, c2, c3, c4, -⟩ := bxN5 (HH.out.boxAt 1 rfl); obtain ⟨d0, d1, d2, d3, d4, -⟩ := bxN5 (HH.out.boxAt 0 rfl)))
    go_ret
    exact ⟨rfl, HH.out.ext⟩
open Go.RowKit Go.Maps Go.Sort Go.Shelf
set_option linter.unusedVariables false
set_option linter.unusedSimpArgs false
theorem Stg.At.okk {w : World} {x : Stg} (h : Stg.At w 0 w.heap.size x) : x.ok w :=
  ⟨Nat.le_trans h.into (by decide), h.beg, h.begR, Nat.le_trans h.begN (by decide), h.begS, h.bodyN, Nat.le_trans h.bodyM (by decide), h.bodyR, h.bodyW, int_wf h.pos, int_wf h.next, h.su⟩
def zip2 {α : Type} (p : α → α → Bool) : List α → List α → Bool
  | [], [] => true
  | x :: xs, y :: ys => p x y && zip2 p xs ys
  | _, _ => false
theorem zip2_no {α : Type} (p : α → α → Bool) : ∀ (xs ys : List α) (k : Nat) (h : k < xs.length) (h2 : k < ys.length), p xs[k] ys[k] = false → zip2 p xs ys = false
  | x :: xs, y :: ys, 0, _, _, hq => by
    have hq : p x y = false := hq
    rw [zip2, hq]; rfl
  | x :: xs, y :: ys, k + 1, h, h2, hq => by
    rw [zip2, zip2_no p xs ys k (by simpa using h) (by simpa using h2) hq, Bool.and_false]
theorem zip2_yes {α : Type} (p : α → α → Bool) : ∀ (xs ys : List α), xs.length = ys.length → (∀ k (h : k < xs.length) (h2 : k < ys.length), p xs[k] ys[k] = true) → zip2 p xs ys = true
  | [], [], _, _ => rfl
  | [], _ :: _, h, _ => by cases h
  | _ :: _, [], h, _ => by cases h
  | x :: xs, y :: ys, h, hq => by
    have h0 : p x y = true := hq 0 (by simp) (by simp)
    rw [zip2, h0, zip2_yes p xs ys (by simpa using h) (fun k h h2 => hq (k + 1) (by simpa using h) (by simpa using h2))]; rfl
def tnEq (x y : Tnt) : Bool := decide (x.name = y.name) && (decide (x.quota = y.quota) && (decide (x.next = y.next) && (decide (x.sets.n = y.sets.n) && (decide (x.stages.n = y.stages.n) && (decide (x.grants.xs = y.grants.xs) && (decide (x.log.xs = y.log.xs) && (zip2 dsEq x.sets.xs y.sets.xs && zip2 sameS x.stages.xs y.stages.xs)))))))
set_option maxRecDepth 100000 in
set_option maxHeartbeats 16000000 in
theorem rsame14_any (w : World) (x y : Tnt) (hx : Tnt.At w 0 w.heap.size x) (hy : Tnt.At w 0 w.heap.size y) :
    Calls Tryz.prog 18 #[.agg x.cells.toArray, .agg y.cells.toArray] w fun e w' => e = .returned (.bool (tnEq x y)) ∧ Ext w w' := by
  have HGr := Lib.hid (fun W (hW : Ext w W) => rsamegr_any W x.grants y.grants (sl_on hx.grants hW (Nat.le_refl _) fun _ _ => trivial) (sl_on hy.grants hW (Nat.le_refl _) fun _ _ => trivial))
  have HLg := Lib.hid (fun W (hW : Ext w W) => rsamelog_any W x.log y.log (sl_on hx.log hW (Nat.le_refl _) fun _ _ => trivial) (sl_on hy.log hW (Nat.le_refl _) fun _ _ => trivial))
  have HSx := Lib.hid hx.sets
  have HSy := Lib.hid hy.sets
  have HAx := Lib.hid hx.stages
  have HAy := Lib.hid hy.stages
  have hm1 : x.sets.n ≤ 9223372036854775807 := Nat.le_trans (Nat.le_trans hx.sets.le hx.sets.cap) (by decide)
  have hm2 : y.sets.n ≤ 9223372036854775807 := Nat.le_trans (Nat.le_trans hy.sets.le hy.sets.cap) (by decide)
  have hm3 : x.stages.n ≤ 9223372036854775807 := Nat.le_trans (Nat.le_trans hx.stages.le hx.stages.cap) (by decide)
  have hm4 : y.stages.n ≤ 9223372036854775807 := Nat.le_trans (Nat.le_trans hy.stages.le hy.stages.cap) (by decide)
  have HV := Lib.hid (show tnEq x y = (decide (x.name = y.name) && (decide (x.quota = y.quota) && (decide (x.next = y.next) && (decide (x.sets.n = y.sets.n) && (decide (x.stages.n = y.stages.n) && (decide (x.grants.xs = y.grants.xs) && (decide (x.log.xs = y.log.xs) && (zip2 dsEq x.sets.xs y.sets.xs && zip2 sameS x.stages.xs y.stages.xs)))))))) from rfl)
  generalize tnEq x y = V at *
  clear hx hy
  obtain ⟨nm, qu, ne, ⟨sA, sn, sc, ss⟩, ⟨gA, gn, gc, g9⟩, ⟨aA, an, ac, ax⟩, ⟨lA, ln, lc, l9⟩⟩ := x
  obtain ⟨nm2, qu2, ne2, ⟨uA, sn2, uc, st⟩, ⟨hA, hn, hc, h9⟩, ⟨vA, an2, vc, ay⟩, ⟨mA, mn, mc, m9⟩⟩ := y
  dsimp only at HV hm1 hm2 hm3 hm4
  simp only [Sl.val] at HGr HLg
  (try dsimp only at HGr)
  (try dsimp only at HLg)
  simp only [Tnt.cells, Sl.val]
  generalize decide (g9 = h9) = gs at *
  generalize decide (l9 = m9) = lg at *
  go_enter Tryz.func18, Tryz.ntmps18
  go_upto_region 1 with fail
  generalize hwH : World.alloc (World.alloc w _) _ = w1; have HH := Lib.hid (Heap.two hwH); clear hwH
  obtain ⟨yb, hyb⟩ : ∃ b, b = w.heap.size + 1 := ⟨_, rfl⟩
  obtain ⟨xb, hxb⟩ : ∃ b, b = w.heap.size := ⟨_, rfl⟩
  rw [← hyb, ← hxb] at HH ⊢
  clear hyb hxb
  obtain ⟨c0, c1, c2, c3, c4, c5, c6, -⟩ := bxN7 (HH.out.boxAt 1 rfl)
  obtain ⟨d0, d1, d2, d3, d4, d5, d6, -⟩ := bxN7 (HH.out.boxAt 0 rfl)
  by_cases h0 : nm = nm2
  · subst h0
    have q0 := toList_self nm
    by_cases h1 : qu = qu2
    · subst h1
      by_cases h2 : ne = ne2
      · subst h2
        by_cases h3 : sn = sn2
        · subst h3
          by_cases h4 : an = an2
          · subst h4
            cases gs with
            | false =>
              obtain rfl : V = false := by rw [HV.out]; simp [*]
              clear HV
              go_wp2_with (first | (go_at_call 51; with_reducible refine (HGr.out _ HH.out.ext).mono ?_; rintro e wb ⟨rfl, eb⟩; replace HH := Lib.hid (HH.out.later eb); clear eb; clear c0 c1 c2 c3 c4 c5 c6 d0 d1 d2 d3 d4 d5 d6; obtain ⟨c0, c1, c2, c3, c4, c5, c6, -⟩ := bxN7 (HH.out.boxAt 1 rfl); obtain ⟨d0, d1, d2, d3, d4, d5, d6, -⟩ := bxN7 (HH.out.boxAt 0 rfl)) | (go_at_call 52; with_reducible refine (HLg.out _ HH.out.ext).mono ?_; rintro e wo ⟨rfl, eo⟩; replace HH := Lib.hid (HH.out.later eo); clear eo; clear c0 c1 c2 c3 c4 c5 c6 d0 d1 d2 d3 d4 d5 d6; obtain ⟨c0, c1, c2, c3, c4, c5, c6, -⟩ := bxN7 (HH.out.boxAt 1 rfl); obtain ⟨d0, d1, d2, d3, d4, d5, d6, -⟩ := bxN7 (HH.out.boxAt 0 rfl)))
              go_ret
              exact ⟨rfl, HH.out.ext⟩
            | true =>
              cases lg with
              | false =>
                obtain rfl : V = false := by rw [HV.out]; simp [*]
                clear HV
                go_wp2_with (first | (go_at_call 51; with_reducible refine (HGr.out _ HH.out.ext).mono ?_; rintro e wb ⟨rfl, eb⟩; replace HH := Lib.hid (HH.out.later eb); clear eb; clear c0 c1 c2 c3 c4 c5 c6 d0 d1 d2 d3 d4 d5 d6; obtain ⟨c0, c1, c2, c3, c4, c5, c6, -⟩ := bxN7 (HH.out.boxAt 1 rfl); obtain ⟨d0, d1, d2, d3, d4, d5, d6, -⟩ := bxN7 (HH.out.boxAt 0 rfl)) | (go_at_call 52; with_reducible refine (HLg.out _ HH.out.ext).mono ?_; rintro e wo ⟨rfl, eo⟩; replace HH := Lib.hid (HH.out.later eo); clear eo; clear c0 c1 c2 c3 c4 c5 c6 d0 d1 d2 d3 d4 d5 d6; obtain ⟨c0, c1, c2, c3, c4, c5, c6, -⟩ := bxN7 (HH.out.boxAt 1 rfl); obtain ⟨d0, d1, d2, d3, d4, d5, d6, -⟩ := bxN7 (HH.out.boxAt 0 rfl)))
                go_ret
                exact ⟨rfl, HH.out.ext⟩
              | true =>
                have HV2 := Lib.hid (show V = (zip2 dsEq ss st && zip2 sameS ax ay) by rw [HV.out]; simp)
                clear HV
                go_upto_region 3 with (first | (go_at_call 51; with_reducible refine (HGr.out _ HH.out.ext).mono ?_; rintro e wb ⟨rfl, eb⟩; replace HH := Lib.hid (HH.out.later eb); clear eb; clear c0 c1 c2 c3 c4 c5 c6 d0 d1 d2 d3 d4 d5 d6; obtain ⟨c0, c1, c2, c3, c4, c5, c6, -⟩ := bxN7 (HH.out.boxAt 1 rfl); obtain ⟨d0, d1, d2, d3, d4, d5, d6, -⟩ := bxN7 (HH.out.boxAt 0 rfl)) | (go_at_call 52; with_reducible refine (HLg.out _ HH.out.ext).mono ?_; rintro e wo ⟨rfl, eo⟩; replace HH := Lib.hid (HH.out.later eo); clear eo; clear c0 c1 c2 c3 c4 c5 c6 d0 d1 d2 d3 d4 d5 d6; obtain ⟨c0, c1, c2, c3, c4, c5, c6, -⟩ := bxN7 (HH.out.boxAt 1 rfl); obtain ⟨d0, d1, d2, d3, d4, d5, d6, -⟩ := bxN7 (HH.out.boxAt 0 rfl)))
                clear HGr HLg
                go_wp2_with fail
                have HH0 := HH
                clear HH c0 c1 c2 c3 c4 c5 c6 d0 d1 d2 d3 d4 d5 d6
                go_loopw [5] (fun v wr => ∃ k : Nat, k ≤ sn ∧ v = .int .i64 (k : Int) ∧ Hid (∀ j (h : j < ss.length) (h2 : j < st.length), j < k → dsEq ss[j] st[j] = true) ∧ Hid (Heap w [.box yb [.string nm, .int .i64 qu, .int .i64 ne, .slice uA sn uc, .slice hA hn hc, .slice vA an vc, .slice mA mn mc], .box xb [.string nm, .int .i64 qu, .int .i64 ne, .slice sA sn sc, .slice gA gn gc, .slice aA an ac, .slice lA ln lc]] wr)) (fun v _ => sn - (intOf v).toNat)
                case atStart => exact ⟨0, Nat.zero_le _, rfl, Lib.hid (fun j _ _ hj => absurd hj (Nat.not_lt_zero _)), HH0⟩
                case round =>
                  clear HH0
                  obtain ⟨k, hk, rfl, HK, HH⟩ := hrel
                  by_cases hlt : k < sn
                  · have l1 : k < ss.length := by rw [← HSx.out.len]; exact hlt
                    have l2 : k < st.length := by rw [← HSy.out.len]; exact hlt
                    obtain ⟨b1, o1, hA1, _, hb1, G1⟩ := rd_flat (size := 5) (fun _ => rfl) (by omega) HSx.out.rd l1
                    obtain ⟨b2, o2, hA2, _, hb2, G2⟩ := rd_flat (size := 5) (fun _ => rfl) (by omega) HSy.out.rd l2
                    dsimp only at hA1 hA2
                    subst hA1
                    subst hA2
                    have HT := Lib.hid (fun (he : dsEq ss[k] st[k] = true) => show ∀ j (h : j < ss.length) (h2 : j < st.length), j < k + 1 → dsEq ss[j] st[j] = true from fun j h h2 hj => by
                      rcases Nat.lt_or_ge j k with h3 | h3
                      · exact HK.out j h h2 h3
                      · obtain rfl : j = k := by omega
                        exact he)
                    have HN := Lib.hid (zip2_no dsEq ss st k l1 l2)
                    have HSn := Lib.hid (fun W (hW : Ext w W) => rsameset_any W ss[k] st[k] (Dst.At.on (HSx.out.all _ (List.getElem_mem l1)) hW (Nat.le_refl _)) (Dst.At.on (HSy.out.all _ (List.getElem_mem l2)) hW (Nat.le_refl _)))
                    have HF := Lib.hid (fun W (hW : Heap w [.box yb [.string nm, .int .i64 qu, .int .i64 ne, .slice (some ⟨b2, o2, none⟩) sn uc, .slice hA hn hc, .slice vA an vc, .slice mA mn mc], .box xb [.string nm, .int .i64 qu, .int .i64 ne, .slice (some ⟨b1, o1, none⟩) sn sc, .slice gA gn gc, .slice aA an ac, .slice lA ln lc]] W) i u hu => (Below.cell hW.ext hb1).trans (G1 i u hu))
                    have HG := Lib.hid (fun W (hW : Heap w [.box yb [.string nm, .int .i64 qu, .int .i64 ne, .slice (some ⟨b2, o2, none⟩) sn uc, .slice hA hn hc, .slice vA an vc, .slice mA mn mc], .box xb [.string nm, .int .i64 qu, .int .i64 ne, .slice (some ⟨b1, o1, none⟩) sn sc, .slice gA gn gc, .slice aA an ac, .slice lA ln lc]] W) i u hu => (Below.cell hW.ext hb2).trans (G2 i u hu))
                    clear G1 G2
                    generalize ss[k] = x at *
                    generalize st[k] = y at *
                    generalize dsEq x y = sq at *
                    have hkn : (k : Int) < (sn : Int) := by omega
                    go_upto_region 6 with (refine shl_load1 HH.out rfl rfl rfl 1 rfl rfl (by decide +kernel) ?_)
                    have HHd := Lib.hid (show Heap w [.box yb [.string nm, .int .i64 qu, .int .i64 ne, .slice (some ⟨b2, o2, none⟩) sn uc, .slice hA hn hc, .slice vA an vc, .slice mA mn mc], .box xb [.string nm, .int .i64 qu, .int .i64 ne, .slice (some ⟨b1, o1, none⟩) sn sc, .slice gA gn gc, .slice aA an ac, .slice lA ln lc]] (World.drew wr) from HH.out.drew)
                    clear HH
                    refine wp_region_held_drew (S := Heap w [.box yb [.string nm, .int .i64 qu, .int .i64 ne, .slice (some ⟨b2, o2, none⟩) sn uc, .slice hA hn hc, .slice vA an vc, .slice mA mn mc], .box xb [.string nm, .int .i64 qu, .int .i64 ne, .slice (some ⟨b1, o1, none⟩) sn sc, .slice gA gn gc, .slice aA an ac, .slice lA ln lc]]) (by kernel_rfl) HHd.out (fun hHeld => ?_)
                    generalize World.drew _ = wd at *
                    refine tW 0 1 ?_
                    refine tG 1 rfl (fun wT hST => sh_run_load1 hST rfl rfl 1 rfl rfl (by kernel_rfl)) hHeld ?_; (try simp only [Act.put, lyA, lyB, lyC])
                    refine tW 2 2 ?_
                    refine tG 4 rfl (fun wT hST => rl_run (HF.out wT hST) rfl sizeDst (by kernel_rfl) rfl rfl) hHeld ?_; (try simp only [Act.put, lyA, lyB, lyC])
                    refine tW 5 1 ?_
                    refine tG 6 rfl (fun wT hST => sh_run_load1 hST rfl rfl 0 rfl rfl (by kernel_rfl)) hHeld ?_; (try simp only [Act.put, lyA, lyB, lyC])
                    refine tW 7 2 ?_
                    refine tG 9 rfl (fun wT hST => rl_run (HG.out wT hST) rfl sizeDst (by kernel_rfl) rfl rfl) hHeld ?_; (try simp only [Act.put, lyA, lyB, lyC])
                    clear hHeld HF HG
                    refine oS 10 (fun K hK => ?_)
                    (try go_simp)
                    refine (HSn.out _ HHd.out.ext).mono ?_
                    rintro e w5 ⟨rfl, e5⟩
                    have HH5 := Lib.hid (HHd.out.later e5)
                    clear HHd e5
                    go_wp2_with fail
                    refine hK.out _ _ (HH5).out (fun hHeld => ?_)
                    clear hK K
                    (try simp only [Act.put, lyA, lyB, lyC])
                    cases sq with
                    | true =>
                      have HK2 := Lib.hid (HT.out rfl)
                      clear HT HN
                      refine tW 11 1 ?_
                      refine wpAnyH_done (by kernel_rfl) ?_ _
                      clear hHeld
                      go_wp2_with fail
                      go_roundw
                      case rel => exact ⟨k + 1, by omega, by go_num, HK2, HH5⟩
                      case measure => (first | (simp [intOf]; done) | (simp [intOf]; omega))
                    | false =>
                      obtain rfl : V = false := by rw [HV2.out, HN.out rfl]; (try simp)
                      clear HT HN
                      refine tW 11 1 ?_
                      refine wpAnyH_done (by kernel_rfl) ?_ _
                      clear hHeld
                      go_wp2_with fail
                      go_ret
                      exact ⟨rfl, HH5.out.ext⟩
                  · have hks : sn = k := by omega
                    subst hks
                    have HV3 := Lib.hid (show V = zip2 sameS ax ay by
                      have q := zip2_yes dsEq ss st (by rw [← HSx.out.len, ← HSy.out.len]) (fun j h h2 => HK.out j h h2 (by have := HSx.out.len; dsimp only at this; omega))
                      rw [HV2.out, q, Bool.true_and])
                    clear HV2
                    have HV2 := HV3
                    clear HV3 HK hlt
                    go_wp2_with (refine shl_load1 HH.out rfl rfl rfl 1 rfl rfl (by decide +kernel) ?_)
                    have HH0 := HH
                    clear HH
                    go_loopw [6] (fun v wr => ∃ k : Nat, k ≤ an ∧ v = .int .i64 (k : Int) ∧ Hid (∀ j (h : j < ax.length) (h2 : j < ay.length), j < k → sameS ax[j] ay[j] = true) ∧ Hid (Heap w [.box yb [.string nm, .int .i64 qu, .int .i64 ne, .slice uA sn uc, .slice hA hn hc, .slice vA an vc, .slice mA mn mc], .box xb [.string nm, .int .i64 qu, .int .i64 ne, .slice sA sn sc, .slice gA gn gc, .slice aA an ac, .slice lA ln lc]] wr)) (fun v _ => an - (intOf v).toNat)
                    case atStart => exact ⟨0, Nat.zero_le _, rfl, Lib.hid (fun j _ _ hj => absurd hj (Nat.not_lt_zero _)), HH0⟩
                    case round =>
                      clear HH0
                      obtain ⟨k, hk, rfl, HK, HH⟩ := hrel
                      by_cases hlt : k < an
                      · have l1 : k < ax.length := by rw [← HAx.out.len]; exact hlt
                        have l2 : k < ay.length := by rw [← HAy.out.len]; exact hlt
                        obtain ⟨b1, o1, hA1, _, hb1, G1⟩ := rd_flat (size := 21) (fun _ => rfl) (by omega) HAx.out.rd l1
                        obtain ⟨b2, o2, hA2, _, hb2, G2⟩ := rd_flat (size := 21) (fun _ => rfl) (by omega) HAy.out.rd l2
                        dsimp only at hA1 hA2
                        subst hA1
                        subst hA2
                        have HT := Lib.hid (fun (he : sameS ax[k] ay[k] = true) => show ∀ j (h : j < ax.length) (h2 : j < ay.length), j < k + 1 → sameS ax[j] ay[j] = true from fun j h h2 hj => by
                          rcases Nat.lt_or_ge j k with h3 | h3
                          · exact HK.out j h h2 h3
                          · obtain rfl : j = k := by omega
                            exact he)
                        have HN := Lib.hid (zip2_no sameS ax ay k l1 l2)
                        have HSn := Lib.hid (fun W (hW : Ext w W) => samestage_any W ax[k] ay[k] (Stg.ok.rd (Stg.At.okk (Stg.At.on (HAx.out.all _ (List.getElem_mem l1)) hW (Nat.le_refl _)))) (Stg.ok.rd (Stg.At.okk (Stg.At.on (HAy.out.all _ (List.getElem_mem l2)) hW (Nat.le_refl _)))))
                        have HF := Lib.hid (fun W (hW : Heap w [.box yb [.string nm, .int .i64 qu, .int .i64 ne, .slice uA sn uc, .slice hA hn hc, .slice (some ⟨b2, o2, none⟩) an vc, .slice mA mn mc], .box xb [.string nm, .int .i64 qu, .int .i64 ne, .slice sA sn sc, .slice gA gn gc, .slice (some ⟨b1, o1, none⟩) an ac, .slice lA ln lc]] W) i u hu => (Below.cell hW.ext hb1).trans (G1 i u hu))
                        have HG := Lib.hid (fun W (hW : Heap w [.box yb [.string nm, .int .i64 qu, .int .i64 ne, .slice uA sn uc, .slice hA hn hc, .slice (some ⟨b2, o2, none⟩) an vc, .slice mA mn mc], .box xb [.string nm, .int .i64 qu, .int .i64 ne, .slice sA sn sc, .slice gA gn gc, .slice (some ⟨b1, o1, none⟩) an ac, .slice lA ln lc]] W) i u hu => (Below.cell hW.ext hb2).trans (G2 i u hu))
                        clear G1 G2
                        generalize ax[k] = x at *
                        generalize ay[k] = y at *
                        generalize sameS x y = sq at *
                        have hkn : (k : Int) < (an : Int) := by omega
                        go_upto_region 11 with (refine shl_load1 HH.out rfl rfl rfl 1 rfl rfl (by decide +kernel) ?_)
                        have HHd := Lib.hid (show Heap w [.box yb [.string nm, .int .i64 qu, .int .i64 ne, .slice uA sn uc, .slice hA hn hc, .slice (some ⟨b2, o2, none⟩) an vc, .slice mA mn mc], .box xb [.string nm, .int .i64 qu, .int .i64 ne, .slice sA sn sc, .slice gA gn gc, .slice (some ⟨b1, o1, none⟩) an ac, .slice lA ln lc]] (World.drew wr) from HH.out.drew)
                        clear HH
                        refine wp_region_held_drew (S := Heap w [.box yb [.string nm, .int .i64 qu, .int .i64 ne, .slice uA sn uc, .slice hA hn hc, .slice (some ⟨b2, o2, none⟩) an vc, .slice mA mn mc], .box xb [.string nm, .int .i64 qu, .int .i64 ne, .slice sA sn sc, .slice gA gn gc, .slice (some ⟨b1, o1, none⟩) an ac, .slice lA ln lc]]) (by kernel_rfl) HHd.out (fun hHeld => ?_)
                        generalize World.drew _ = wd at *
                        refine tW 0 1 ?_
                        refine tG 1 rfl (fun wT hST => sh_run_load1 hST rfl rfl 1 rfl rfl (by kernel_rfl)) hHeld ?_; (try simp only [Act.put, lyA, lyB, lyC])
                        refine tW 2 2 ?_
                        refine tG 4 rfl (fun wT hST => rl_run (HF.out wT hST) rfl sizeStg (by kernel_rfl) rfl rfl) hHeld ?_; (try simp only [Act.put, lyA, lyB, lyC])
                        refine tW 5 1 ?_
                        refine tG 6 rfl (fun wT hST => sh_run_load1 hST rfl rfl 0 rfl rfl (by kernel_rfl)) hHeld ?_; (try simp only [Act.put, lyA, lyB, lyC])
                        refine tW 7 2 ?_
                        refine tG 9 rfl (fun wT hST => rl_run (HG.out wT hST) rfl sizeStg (by kernel_rfl) rfl rfl) hHeld ?_; (try simp only [Act.put, lyA, lyB, lyC])
                        clear hHeld HF HG
                        refine oS 10 (fun K hK => ?_)
                        (try go_simp)
                        refine (HSn.out _ HHd.out.ext).mono ?_
                        rintro e w5 ⟨rfl, e5⟩
                        have HH5 := Lib.hid (HHd.out.later e5)
                        clear HHd e5
                        go_wp2_with fail
                        refine hK.out _ _ (HH5).out (fun hHeld => ?_)
                        clear hK K
                        (try simp only [Act.put, lyA, lyB, lyC])
                        cases sq with
                        | true =>
                          have HK2 := Lib.hid (HT.out rfl)
                          clear HT HN
                          refine tW 11 1 ?_
                          refine wpAnyH_done (by kernel_rfl) ?_ _
                          clear hHeld
                          go_wp2_with fail
                          go_roundw
                          case rel => exact ⟨k + 1, by omega, by go_num, HK2, HH5⟩
                          case measure => (first | (simp [intOf]; done) | (simp [intOf]; omega))
                        | false =>
                          obtain rfl : V = false := by rw [HV2.out, HN.out rfl]; (try simp)
                          clear HT HN
                          refine tW 11 1 ?_
                          refine wpAnyH_done (by kernel_rfl) ?_ _
                          clear hHeld
                          go_wp2_with fail
                          go_ret
                          exact ⟨rfl, HH5.out.ext⟩
                      · have hks : an = k := by omega
                        subst hks
                        have HF := Lib.hid (show V = true by
                          have q := zip2_yes sameS ax ay (by rw [← HAx.out.len, ← HAy.out.len]) (fun j h h2 => HK.out j h h2 (by have := HAx.out.len; dsimp only at this; omega))
                          rw [HV2.out, q])
                        clear HV2
                        go_wp2_with (refine shl_load1 HH.out rfl rfl rfl 1 rfl rfl (by decide +kernel) ?_)
                        go_ret
                        exact ⟨by rw [HF.out]; rfl, HH.out.ext⟩
          · have q4 : ((an : Int) == (an2 : Int)) = false := by rw [beq_eq_false_iff_ne]; omega
            obtain rfl : V = false := by rw [HV.out]; simp [h4]
            clear HV
            go_wp2_with (first | (go_at_call 51; with_reducible refine (HGr.out _ HH.out.ext).mono ?_; rintro e wb ⟨rfl, eb⟩; replace HH := Lib.hid (HH.out.later eb); clear eb; clear c0 c1 c2 c3 c4 c5 c6 d0 d1 d2 d3 d4 d5 d6; obtain ⟨c0, c1, c2, c3, c4, c5, c6, -⟩ := bxN7 (HH.out.boxAt 1 rfl); obtain ⟨d0, d1, d2, d3, d4, d5, d6, -⟩ := bxN7 (HH.out.boxAt 0 rfl)) | (go_at_call 52; with_reducible refine (HLg.out _ HH.out.ext).mono ?_; rintro e wo ⟨rfl, eo⟩; replace HH := Lib.hid (HH.out.later eo); clear eo; clear c0 c1 c2 c3 c4 c5 c6 d0 d1 d2 d3 d4 d5 d6; obtain ⟨c0, c1, c2, c3, c4, c5, c6, -⟩ := bxN7 (HH.out.boxAt 1 rfl); obtain ⟨d0, d1, d2, d3, d4, d5, d6, -⟩ := bxN7 (HH.out.boxAt 0 rfl)))
            go_ret
            exact ⟨rfl, HH.out.ext⟩
        · have q3 : ((sn : Int) == (sn2 : Int)) = false := by rw [beq_eq_false_iff_ne]; omega
          obtain rfl : V = false := by rw [HV.out]; simp [h3]
          clear HV
          go_wp2_with (first | (go_at_call 51; with_reducible refine (HGr.out _ HH.out.ext).mono ?_; rintro e wb ⟨rfl, eb⟩; replace HH := Lib.hid (HH.out.later eb); clear eb; clear c0 c1 c2 c3 c4 c5 c6 d0 d1 d2 d3 d4 d5 d6; obtain ⟨c0, c1, c2, c3, c4, c5, c6, -⟩ := bxN7 (HH.out.boxAt 1 rfl); obtain ⟨d0, d1, d2, d3, d4, d5, d6, -⟩ := bxN7 (HH.out.boxAt 0 rfl)) | (go_at_call 52; with_reducible refine (HLg.out _ HH.out.ext).mono ?_; rintro e wo ⟨rfl, eo⟩; replace HH := Lib.hid (HH.out.later eo); clear eo; clear c0 c1 c2 c3 c4 c5 c6 d0 d1 d2 d3 d4 d5 d6; obtain ⟨c0, c1, c2, c3, c4, c5, c6, -⟩ := bxN7 (HH.out.boxAt 1 rfl); obtain ⟨d0, d1, d2, d3, d4, d5, d6, -⟩ := bxN7 (HH.out.boxAt 0 rfl)))
          go_ret
          exact ⟨rfl, HH.out.ext⟩
      · have q2 : (ne == ne2) = false := by simp [h2]
        obtain rfl : V = false := by rw [HV.out]; simp [h2]
        clear HV
        go_wp2_with (first | (go_at_call 51; with_reducible refine (HGr.out _ HH.out.ext).mono ?_; rintro e wb ⟨rfl, eb⟩; replace HH := Lib.hid (HH.out.later eb); clear eb; clear c0 c1 c2 c3 c4 c5 c6 d0 d1 d2 d3 d4 d5 d6; obtain ⟨c0, c1, c2, c3, c4, c5, c6, -⟩ := bxN7 (HH.out.boxAt 1 rfl); obtain ⟨d0, d1, d2, d3, d4, d5, d6, -⟩ := bxN7 (HH.out.boxAt 0 rfl)) | (go_at_call 52; with_reducible refine (HLg.out _ HH.out.ext).mono ?_; rintro e wo ⟨rfl, eo⟩; replace HH := Lib.hid (HH.out.later eo); clear eo; clear c0 c1 c2 c3 c4 c5 c6 d0 d1 d2 d3 d4 d5 d6; obtain ⟨c0, c1, c2, c3, c4, c5, c6, -⟩ := bxN7 (HH.out.boxAt 1 rfl); obtain ⟨d0, d1, d2, d3, d4, d5, d6, -⟩ := bxN7 (HH.out.boxAt 0 rfl)))
        go_ret
        exact ⟨rfl, HH.out.ext⟩
    · have q1 : (qu == qu2) = false := by simp [h1]
      obtain rfl : V = false := by rw [HV.out]; simp [h1]
      clear HV
      go_wp2_with (first | (go_at_call 51; with_reducible refine (HGr.out _ HH.out.ext).mono ?_; rintro e wb ⟨rfl, eb⟩; replace HH := Lib.hid (HH.out.later eb); clear eb; clear c0 c1 c2 c3 c4 c5 c6 d0 d1 d2 d3 d4 d5 d6; obtain ⟨c0, c1, c2, c3, c4, c5, c6, -⟩ := bxN7 (HH.out.boxAt 1 rfl); obtain ⟨d0, d1, d2, d3, d4, d5, d6, -⟩ := bxN7 (HH.out.boxAt 0 rfl)) | (go_at_call 52; with_reducible refine (HLg.out _ HH.out.ext).mono ?_; rintro e wo ⟨rfl, eo⟩; replace HH := Lib.hid (HH.out.later eo); clear eo; clear c0 c1 c2 c3 c4 c5 c6 d0 d1 d2 d3 d4 d5 d6; obtain ⟨c0, c1, c2, c3, c4, c5, c6, -⟩ := bxN7 (HH.out.boxAt 1 rfl); obtain ⟨d0, d1, d2, d3, d4, d5, d6, -⟩ := bxN7 (HH.out.boxAt 0 rfl)))
      go_ret
      exact ⟨rfl, HH.out.ext⟩
  · have q0 := toList_ne h0
    obtain rfl : V = false := by rw [HV.out]; simp [h0]
    clear HV
    go_wp2_with (first | (go_at_call 51; with_reducible refine (HGr.out _ HH.out.ext).mono ?_; rintro e wb ⟨rfl, eb⟩; replace HH := Lib.hid (HH.out.later eb); clear eb; clear c0 c1 c2 c3 c4 c5 c6 d0 d1 d2 d3 d4 d5 d6; obtain ⟨c0, c1, c2, c3, c4, c5, c6, -⟩ := bxN7 (HH.out.boxAt 1 rfl); obtain ⟨d0, d1, d2, d3, d4, d5, d6, -⟩ := bxN7 (HH.out.boxAt 0 rfl)) | (go_at_call 52; with_reducible refine (HLg.out _ HH.out.ext).mono ?_; rintro e wo ⟨rfl, eo⟩; replace HH := Lib.hid (HH.out.later eo); clear eo; clear c0 c1 c2 c3 c4 c5 c6 d0 d1 d2 d3 d4 d5 d6; obtain ⟨c0, c1, c2, c3, c4, c5, c6, -⟩ := bxN7 (HH.out.boxAt 1 rfl); obtain ⟨d0, d1, d2, d3, d4, d5, d6, -⟩ := bxN7 (HH.out.boxAt 0 rfl)))
    go_ret
    exact ⟨rfl, HH.out.ext⟩
open Go.RowKit Go.Maps Go.Sort Go.Shelf
set_option linter.unusedVariables false
set_option linter.unusedSimpArgs false
structure PlIn (ls : List Ob) (L : RdL) (o : Ob) : Prop where
  src : ∃ x ∈ ls, o.key = x.key ∧ o.data = x.data
  len : o.locs.n = o.locs.xs.length
  le : o.locs.n ≤ o.locs.c
  cap : o.locs.c ≤ maxLen
  mem : (o.locs.A, ints o.locs.xs) ∈ L
  wf : ∀ y ∈ o.locs.xs, (Lit.int .i64 y).wf = true
theorem PlIn.more {ls : List Ob} {L : RdL} {o : Ob} (h : PlIn ls L o) {L2 : RdL} (hL : ∀ q ∈ L, q ∈ L2) : PlIn ls L2 o := ⟨h.src, h.len, h.le, h.cap, hL _ h.mem, h.wf⟩
theorem PlIn.at_ {w0 w : World} {its : List It} {j : Nat} {S : Nat → Prop} {L : RdL} {ls : List Ob} {o : Ob} (h : PlIn ls L o) (hl : ∀ x ∈ ls, Ob.At w0 0 w0.heap.size x) (H : Heap w0 its w) (hj : its[j]? = some (It.bag S L)) : Ob.At w 0 w.heap.size o := by
  obtain ⟨x, hx, h1, h2⟩ := h.src
  refine ⟨by rw [h1]; exact (hl x hx).key, by rw [h2]; exact Oct.At.on (hl x hx).data H.ext (Nat.le_refl _), ⟨h.len, h.le, h.cap, ?_, h.wf⟩⟩
  rw [ints_flat]
  exact (H.bagRd hj h.mem).m0
theorem wB_len (l : List ByteArray) : (wB l).length ≤ 67111938 := by
  unfold wB
  by_cases h : wE l = 0
  · have h1 : ¬ 1024 < l.length := fun h' => by rw [wE, if_pos h'] at h; cases h
    have h2 : l.any longB = false := by
      rw [wE, if_neg h1] at h
      cases hq : l.any longB with
      | false => rfl
      | true => rw [hq] at h; cases h
    rw [if_pos h]
    have := acc_len l l.length h2 (Nat.le_refl _)
    rw [acc, List.take_of_length_le (Nat.le_refl _)] at this
    rw [flat]
    omega
  · rw [if_neg h]
    simp
def kd (x : Ob) : ByteArray × Nat := (x.key, x.data.n)
end Go.Proofs.YtckaneapjpiocaaGreatDoor
