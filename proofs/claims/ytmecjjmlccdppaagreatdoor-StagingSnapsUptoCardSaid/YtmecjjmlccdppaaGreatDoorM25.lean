/- The texts Stl, Stw, Max, Bulk, OpenB in one file. -/
import Derived.Test.YtmecjjmlccdppaaGreatDoorM24
import Derived.Test.YtmecjjmlccdppaaGreatDoorM18
import Derived.Test.YtmecjjmlccdppaaGreatDoorM11
import Derived.Test.YtmecjjmlccdppaaGreatDoorTie
import Derived.Test.YtmecjjmlccdppaaGreatDoorCards
import Derived.ProofKit
import Derived.OpenShut
import Derived.Lay
import Derived.Shelf.Vars
import Derived.Deep.DeepHandedRow
import Derived.Deep.CondSized
import Derived.Stop.Joined
import Derived.SevenTiedAt
import Derived.Test.YtmecjjmlccdppaaGreatDoorRows
import Derived.Test.YtmecjjmlccdppaaGreatDoorM7
/- StagingTells: the law's walk. Under way: not built yet. -/
namespace Go.Proofs.YtmecjjmlccdppaaGreatDoor
open Go.RowKit
set_option linter.unusedVariables false
set_option linter.unusedSimpArgs false

theorem Heap.join1 {w0 w w' : World} {its : List It} {b n : Nat} {vs cs : List Value} (H : Heap w0 its w) (H2 : Heap w ([It.box b vs].set 0 (.box b (vs.take 0 ++ cs ++ vs.drop (0 + n)))) w') (hl : vs.length = n) : Heap w0 (.box b cs :: its) w' := by
  have he : vs.take 0 ++ cs ++ vs.drop (0 + n) = cs := by rw [List.take_zero, List.nil_append, Nat.zero_add, List.drop_of_length_le (by omega), List.append_nil]
  rw [he] at H2
  have h2 := H2.all 0 _ rfl
  exact H.add H2.ext ⟨Nat.le_trans H.ext.size h2.1, h2.2⟩ fun k hk => by cases hk; exact h2.1

set_option maxRecDepth 100000 in
set_option maxHeartbeats 8000000 in
theorem stells_core (w : World) (x : Stg) (into : ByteArray) (r : Rec) (bA : Option Addr) (bn bc : Nat) (raw : Int) (A1 A2 : Stg) (V1 V2 : Int)
    (hS1 : ∀ W, Ext w W → Calls Tryz.prog 7 #[.string into, .agg r.cells.toArray, .slice bA bn bc, .int .i64 raw] W (StOut W A1 V1 true))
    (hS2 : ∀ W, Ext w W → Calls Tryz.prog 8 #[.string into, .agg r.cells.toArray, .slice bA bn bc, .int .i64 raw] W (StOut W A1 V1 false))
    (hT1 : ∀ W, Ext w W → Calls Tryz.prog 9 #[.agg x.cells.toArray, .agg r.cells.toArray] W (StOut W A2 V2 true))
    (hT2 : ∀ W, Ext w W → Calls Tryz.prog 10 #[.agg x.cells.toArray, .agg r.cells.toArray] W (StOut W A2 V2 false))
    (sb : Bool) (hC1 : ∀ W, Ext w W → Calls Tryz.prog 11 #[.agg x.cells.toArray] W fun e w' => e = .returned (.int .i64 (if sb then 0 else 9)) ∧ Ext W w')
    (hC2 : ∀ W, Ext w W → Calls Tryz.prog 12 #[.agg x.cells.toArray] W fun e w' => e = .returned (.bool sb) ∧ Ext W w')
    (hAl : ∀ W, Ext w W → Calls Tryz.prog 15 #[] W fun e w' => e = .returned (.bool true) ∧ Ext W w')
    (hNu : ∀ W a, Calls Tryz.prog 14 #[.int .i64 a] W fun e w' => e = .returned (.int .i64 a) ∧ Ext W w') :
    Calls Tryz.prog 3 #[.agg x.cells.toArray, .string into, .agg r.cells.toArray, .slice bA bn bc, .int .i64 raw] w fun e w' => e = .returned (.bool true) ∧ Ext w w' := by
  have HS1 := Lib.hid hS1
  have HS2 := Lib.hid hS2
  have HT1 := Lib.hid hT1
  have HT2 := Lib.hid hT2
  have HC1 := Lib.hid hC1
  have HC2 := Lib.hid hC2
  have HAl := Lib.hid hAl
  have HNu := Lib.hid hNu
  clear hS1 hS2 hT1 hT2 hC1 hC2 hAl hNu
  obtain ⟨into, ⟨kind, name, frm, guid, oA, on, oc, own, index, count, data, s0, s1, s2, s3⟩, bA, bn, bc, body, pos, next, ⟨ua, ub, uc, ud⟩, dn⟩ := x
  obtain ⟨rkind, rname, rfrm, rguid, roA, ron, roc, rown, rindex, rcount, rdata, r0, r1, r2, r3⟩ := r
  simp only [Stg.cells, Rec.cells, Su.cells, List.cons_append, List.nil_append] at HS1 HS2 HT1 HT2 HC1 HC2 ⊢
  go_enter Tryz.func3, Tryz.ntmps3
  go_upto_region 1 with fail
  generalize hwH : World.alloc (World.alloc w _) _ = w1; have HH := Lib.hid (Heap.two hwH); clear hwH
  go_wp2_with (refine shl_load HH.out sizeRec (by kernel_rfl) rfl rfl rfl 0 rfl rfl ?_)
  refine (HS1.out _ HH.out.ext).mono ?_; rintro e w2 ⟨y1, rfl, by1, dy1, fy1, ey1⟩; have HHn := Lib.hid (HH.out.later ey1); have Ew2 := Lib.hid ey1; have Dy1 := Lib.hid dy1; have By1 := Lib.hid by1; clear HH ey1 fy1 dy1 by1; have HH := HHn; clear HHn
  go_upto_region 2 with (refine shl_store ((Heap.start _).alloc _ _) sizeStg rfl rfl rfl rfl 0 rfl rfl rfl rfl ?_; intro wA HHS; have TwA := Lib.hid HHS.ext; have HHn := Lib.hid (HH.out.join1 HHS rfl); clear HH HHS; have HH := HHn; clear HHn)
  go_wp2_with (refine shl_load HH.out sizeRec (by kernel_rfl) rfl rfl rfl 1 rfl rfl ?_)
  refine (HS2.out _ HH.out.ext).mono ?_; rintro e w3 ⟨y2, rfl, by2, dy2, fy2, ey2⟩; have HHn := Lib.hid (HH.out.later ey2); have Ew3 := Lib.hid ey2; have Dy2 := Lib.hid dy2; have By2 := Lib.hid by2; clear HH ey2 fy2 dy2 by2; have HH := HHn; clear HHn
  go_upto_region 3 with (refine shl_store ((Heap.start _).alloc _ _) sizeStg rfl rfl rfl rfl 0 rfl rfl rfl rfl ?_; intro wB HHS; have TwB := Lib.hid HHS.ext; have HHn := Lib.hid (HH.out.join1 HHS rfl); clear HH HHS; have HH := HHn; clear HHn)
  go_wp2_with (first | (refine shl_load HH.out sizeStg (by kernel_rfl) rfl rfl rfl 3 rfl rfl ?_) | (refine shl_load HH.out sizeRec (by kernel_rfl) rfl rfl rfl 2 rfl rfl ?_))
  refine (HT1.out _ HH.out.ext).mono ?_; rintro e w4 ⟨y3, rfl, by3, dy3, fy3, ey3⟩; have HHn := Lib.hid (HH.out.later ey3); have Ew4 := Lib.hid ey3; have Dy3 := Lib.hid dy3; have By3 := Lib.hid by3; clear HH ey3 fy3 dy3 by3; have HH := HHn; clear HHn
  go_upto_region 4 with (refine shl_store ((Heap.start _).alloc _ _) sizeStg rfl rfl rfl rfl 0 rfl rfl rfl rfl ?_; intro wC HHS; have TwC := Lib.hid HHS.ext; have HHn := Lib.hid (HH.out.join1 HHS rfl); clear HH HHS; have HH := HHn; clear HHn)
  go_wp2_with (first | (refine shl_load HH.out sizeStg (by kernel_rfl) rfl rfl rfl 4 rfl rfl ?_) | (refine shl_load HH.out sizeRec (by kernel_rfl) rfl rfl rfl 3 rfl rfl ?_))
  refine (HT2.out _ HH.out.ext).mono ?_; rintro e w5 ⟨y4, rfl, by4, dy4, fy4, ey4⟩; have HHn := Lib.hid (HH.out.later ey4); have Ew5 := Lib.hid ey4; have Dy4 := Lib.hid dy4; have By4 := Lib.hid by4; clear HH ey4 fy4 dy4 by4; have HH := HHn; clear HHn
  go_upto_region 5 with (refine shl_store ((Heap.start _).alloc _ _) sizeStg rfl rfl rfl rfl 0 rfl rfl rfl rfl ?_; intro wD HHS; have TwD := Lib.hid HHS.ext; have HHn := Lib.hid (HH.out.join1 HHS rfl); clear HH HHS; have HH := HHn; clear HHn)
  have HQ1 := Lib.hid (fun W (hW : Ext wD W) => show Calls Tryz.prog 13 #[.agg y1.cells.toArray, .agg y2.cells.toArray] W fun e w' => e = .returned (.bool true) ∧ Ext W w' from by
    have h := samestage_any W y1 y2 (Dy1.out.ext (TwA.out.trans (Ew3.out.trans (TwB.out.trans (Ew4.out.trans (TwC.out.trans (Ew5.out.trans (TwD.out.trans hW)))))))) (Dy2.out.ext (TwB.out.trans (Ew4.out.trans (TwC.out.trans (Ew5.out.trans (TwD.out.trans hW))))))
    rwa [same_bare y1 y2 (by rw [By1.out, By2.out])] at h)
  have HQ2 := Lib.hid (fun W (hW : Ext wD W) => show Calls Tryz.prog 13 #[.agg y3.cells.toArray, .agg y4.cells.toArray] W fun e w' => e = .returned (.bool true) ∧ Ext W w' from by
    have h := samestage_any W y3 y4 (Dy3.out.ext (TwC.out.trans (Ew5.out.trans (TwD.out.trans hW)))) (Dy4.out.ext (TwD.out.trans hW))
    rwa [same_bare y3 y4 (by rw [By3.out, By4.out])] at h)
  cases sb with
  | true => have HHd := Lib.hid HH.out.drew; have EX := Lib.hid (Ext.drew (Ext.refl wD)); clear HH; have HH := HHd; clear HHd; refine wp_region_held_drew (S := Heap w _) (by kernel_rfl) HH.out (fun hHeld => ?_); refine takeL 0 rfl (by kernel_rfl) (by kernel_rfl) (by kernel_rfl) (fun _ _ _ h => h) (by kernel_rfl) (fun wT hST => sh_run_load hST sizeStg (by kernel_rfl) rfl rfl 5 rfl (Nat.le_of_ble_eq_true rfl)) hHeld ?_; (try simp only [Act.put, List.setIfInBounds_toArray, List.set_cons_zero, List.set_cons_succ]); refine takeL 3 rfl (by kernel_rfl) (by kernel_rfl) (by kernel_rfl) (fun _ _ _ h => h) (by kernel_rfl) (fun wT hST => sh_run_load hST sizeStg (by kernel_rfl) rfl rfl 5 rfl (Nat.le_of_ble_eq_true rfl)) hHeld ?_; (try simp only [Act.put, List.setIfInBounds_toArray, List.set_cons_zero, List.set_cons_succ]); clear hHeld; refine oneL 1 rfl (by kernel_rfl) (by kernel_rfl) (fun K hK => ?_); go_simp; refine (HC1.out _ HH.out.ext).mono ?_; rintro e wE ⟨rfl, eE⟩; have HHn := Lib.hid (HH.out.later eE); have EXn := Lib.hid (EX.out.trans eE); clear HH EX eE; have HH := HHn; have EX := EXn; clear HHn EXn; go_wp2_with fail; refine hK.out _ _ HH.out (fun hHeld => ?_); clear hK K; (try simp only [Act.put, List.setIfInBounds_toArray, List.set_cons_zero, List.set_cons_succ]); refine takeL 2 (v := ?_) rfl (by kernel_rfl) (by kernel_rfl) (by kernel_rfl) (fun _ _ _ h => h) (by kernel_rfl) ?_ (by assumption) ?_; rotate_left; (focus (intro w hSw; (try dsimp only at hSw); go_simp <;> with_reducible rfl)); (try simp only [Act.put, List.setIfInBounds_toArray, List.set_cons_zero, List.set_cons_succ]); clear hHeld; refine oneL 4 rfl (by kernel_rfl) (by kernel_rfl) (fun K hK => ?_); go_simp; refine (HC2.out _ HH.out.ext).mono ?_; rintro e wE ⟨rfl, eE⟩; have HHn := Lib.hid (HH.out.later eE); have EXn := Lib.hid (EX.out.trans eE); clear HH EX eE; have HH := HHn; have EX := EXn; clear HHn EXn; go_wp2_with fail; refine hK.out _ _ HH.out (fun hHeld => ?_); clear hK K; (try simp only [Act.put, List.setIfInBounds_toArray, List.set_cons_zero, List.set_cons_succ]); refine takeL 5 (v := ?_) rfl (by kernel_rfl) (by kernel_rfl) (by kernel_rfl) (fun _ _ _ h => h) (by kernel_rfl) ?_ (by assumption) ?_; rotate_left; (focus (intro w hSw; (try dsimp only at hSw); go_simp <;> with_reducible rfl)); (try simp only [Act.put, List.setIfInBounds_toArray, List.set_cons_zero, List.set_cons_succ]); refine takeL 6 (v := ?_) rfl (by kernel_rfl) (by kernel_rfl) (by kernel_rfl) (fun _ _ _ h => h) (by kernel_rfl) ?_ (by assumption) ?_; rotate_left; (focus (intro w hSw; (try dsimp only at hSw); go_simp <;> with_reducible rfl)); (try simp only [Act.put, List.setIfInBounds_toArray, List.set_cons_zero, List.set_cons_succ]); refine takeL 7 rfl (by kernel_rfl) (by kernel_rfl) (by kernel_rfl) (fun _ _ _ h => h) (by kernel_rfl) (fun wT hST => sh_run_load hST sizeStg (by kernel_rfl) rfl rfl 3 rfl (Nat.le_of_ble_eq_true rfl)) hHeld ?_; (try simp only [Act.put, List.setIfInBounds_toArray, List.set_cons_zero, List.set_cons_succ]); refine takeL 8 rfl (by kernel_rfl) (by kernel_rfl) (by kernel_rfl) (fun _ _ _ h => h) (by kernel_rfl) (fun wT hST => sh_run_load hST sizeStg (by kernel_rfl) rfl rfl 2 rfl (Nat.le_of_ble_eq_true rfl)) hHeld ?_; (try simp only [Act.put, List.setIfInBounds_toArray, List.set_cons_zero, List.set_cons_succ]); clear hHeld; refine oneL 9 rfl (by kernel_rfl) (by kernel_rfl) (fun K hK => ?_); go_simp; refine (HQ1.out _ EX.out).mono ?_; rintro e wE ⟨rfl, eE⟩; have HHn := Lib.hid (HH.out.later eE); have EXn := Lib.hid (EX.out.trans eE); clear HH EX eE; have HH := HHn; have EX := EXn; clear HHn EXn; go_wp2_with fail; refine hK.out _ _ HH.out (fun hHeld => ?_); clear hK K; (try simp only [Act.put, List.setIfInBounds_toArray, List.set_cons_zero, List.set_cons_succ]); refine takeL 10 (v := ?_) rfl (by kernel_rfl) (by kernel_rfl) (by kernel_rfl) (fun _ _ _ h => h) (by kernel_rfl) ?_ (by assumption) ?_; rotate_left; (focus (intro w hSw; (try dsimp only at hSw); go_simp <;> with_reducible rfl)); (try simp only [Act.put, List.setIfInBounds_toArray, List.set_cons_zero, List.set_cons_succ]); refine takeL 11 (v := ?_) rfl (by kernel_rfl) (by kernel_rfl) (by kernel_rfl) (fun _ _ _ h => h) (by kernel_rfl) ?_ (by assumption) ?_; rotate_left; (focus (intro w hSw; (try dsimp only at hSw); go_simp <;> with_reducible rfl)); (try simp only [Act.put, List.setIfInBounds_toArray, List.set_cons_zero, List.set_cons_succ]); refine takeL 12 (v := ?_) rfl (by kernel_rfl) (by kernel_rfl) (by kernel_rfl) (fun _ _ _ h => h) (by kernel_rfl) ?_ (by assumption) ?_; rotate_left; (focus (intro w hSw; (try dsimp only at hSw); go_simp <;> with_reducible rfl)); (try simp only [Act.put, List.setIfInBounds_toArray, List.set_cons_zero, List.set_cons_succ]); refine takeL 14 (v := ?_) rfl (by kernel_rfl) (by kernel_rfl) (by kernel_rfl) (fun _ _ _ h => h) (by kernel_rfl) ?_ (by assumption) ?_; rotate_left; (focus (intro w hSw; (try dsimp only at hSw); go_simp <;> with_reducible rfl)); (try simp only [Act.put, List.setIfInBounds_toArray, List.set_cons_zero, List.set_cons_succ]); clear hHeld; refine oneL 13 rfl (by kernel_rfl) (by kernel_rfl) (fun K hK => ?_); go_simp; refine (HNu.out _ _).mono ?_; rintro e wE ⟨rfl, eE⟩; have HHn := Lib.hid (HH.out.later eE); have EXn := Lib.hid (EX.out.trans eE); clear HH EX eE; have HH := HHn; have EX := EXn; clear HHn EXn; go_wp2_with fail; refine hK.out _ _ HH.out (fun hHeld => ?_); clear hK K; (try simp only [Act.put, List.setIfInBounds_toArray, List.set_cons_zero, List.set_cons_succ]); refine takeL 15 (v := ?_) rfl (by kernel_rfl) (by kernel_rfl) (by kernel_rfl) (fun _ _ _ h => h) (by kernel_rfl) ?_ (by assumption) ?_; rotate_left; (focus (intro w hSw; (try dsimp only at hSw); go_simp <;> with_reducible rfl)); (try simp only [Act.put, List.setIfInBounds_toArray, List.set_cons_zero, List.set_cons_succ]); refine takeL 16 (v := ?_) rfl (by kernel_rfl) (by kernel_rfl) (by kernel_rfl) (fun _ _ _ h => h) (by kernel_rfl) ?_ (by assumption) ?_; rotate_left; (focus (intro w hSw; (try dsimp only at hSw); go_simp <;> with_reducible rfl)); (try simp only [Act.put, List.setIfInBounds_toArray, List.set_cons_zero, List.set_cons_succ]); refine takeL 17 (v := ?_) rfl (by kernel_rfl) (by kernel_rfl) (by kernel_rfl) (fun _ _ _ h => h) (by kernel_rfl) ?_ (by assumption) ?_; rotate_left; (focus (intro w hSw; (try dsimp only at hSw); go_simp <;> with_reducible rfl)); (try simp only [Act.put, List.setIfInBounds_toArray, List.set_cons_zero, List.set_cons_succ]); refine takeL 18 rfl (by kernel_rfl) (by kernel_rfl) (by kernel_rfl) (fun _ _ _ h => h) (by kernel_rfl) (fun wT hST => sh_run_load hST sizeStg (by kernel_rfl) rfl rfl 1 rfl (Nat.le_of_ble_eq_true rfl)) hHeld ?_; (try simp only [Act.put, List.setIfInBounds_toArray, List.set_cons_zero, List.set_cons_succ]); refine takeL 19 rfl (by kernel_rfl) (by kernel_rfl) (by kernel_rfl) (fun _ _ _ h => h) (by kernel_rfl) (fun wT hST => sh_run_load hST sizeStg (by kernel_rfl) rfl rfl 0 rfl (Nat.le_of_ble_eq_true rfl)) hHeld ?_; (try simp only [Act.put, List.setIfInBounds_toArray, List.set_cons_zero, List.set_cons_succ]); clear hHeld; refine oneL 20 rfl (by kernel_rfl) (by kernel_rfl) (fun K hK => ?_); go_simp; refine (HQ2.out _ EX.out).mono ?_; rintro e wE ⟨rfl, eE⟩; have HHn := Lib.hid (HH.out.later eE); have EXn := Lib.hid (EX.out.trans eE); clear HH EX eE; have HH := HHn; have EX := EXn; clear HHn EXn; go_wp2_with fail; refine hK.out _ _ HH.out (fun hHeld => ?_); clear hK K; (try simp only [Act.put, List.setIfInBounds_toArray, List.set_cons_zero, List.set_cons_succ]); refine takeL 21 (v := ?_) rfl (by kernel_rfl) (by kernel_rfl) (by kernel_rfl) (fun _ _ _ h => h) (by kernel_rfl) ?_ (by assumption) ?_; rotate_left; (focus (intro w hSw; (try dsimp only at hSw); go_simp <;> with_reducible rfl)); (try simp only [Act.put, List.setIfInBounds_toArray, List.set_cons_zero, List.set_cons_succ]); refine takeL 22 (v := ?_) rfl (by kernel_rfl) (by kernel_rfl) (by kernel_rfl) (fun _ _ _ h => h) (by kernel_rfl) ?_ (by assumption) ?_; rotate_left; (focus (intro w hSw; (try dsimp only at hSw); go_simp <;> with_reducible rfl)); (try simp only [Act.put, List.setIfInBounds_toArray, List.set_cons_zero, List.set_cons_succ]); refine takeL 23 (v := ?_) rfl (by kernel_rfl) (by kernel_rfl) (by kernel_rfl) (fun _ _ _ h => h) (by kernel_rfl) ?_ (by assumption) ?_; rotate_left; (focus (intro w hSw; (try dsimp only at hSw); go_simp <;> with_reducible rfl)); (try simp only [Act.put, List.setIfInBounds_toArray, List.set_cons_zero, List.set_cons_succ]); refine takeL 25 (v := ?_) rfl (by kernel_rfl) (by kernel_rfl) (by kernel_rfl) (fun _ _ _ h => h) (by kernel_rfl) ?_ (by assumption) ?_; rotate_left; (focus (intro w hSw; (try dsimp only at hSw); go_simp <;> with_reducible rfl)); (try simp only [Act.put, List.setIfInBounds_toArray, List.set_cons_zero, List.set_cons_succ]); clear hHeld; refine oneL 24 rfl (by kernel_rfl) (by kernel_rfl) (fun K hK => ?_); go_simp; refine (HNu.out _ _).mono ?_; rintro e wE ⟨rfl, eE⟩; have HHn := Lib.hid (HH.out.later eE); have EXn := Lib.hid (EX.out.trans eE); clear HH EX eE; have HH := HHn; have EX := EXn; clear HHn EXn; go_wp2_with fail; refine hK.out _ _ HH.out (fun hHeld => ?_); clear hK K; (try simp only [Act.put, List.setIfInBounds_toArray, List.set_cons_zero, List.set_cons_succ]); refine takeL 26 (v := ?_) rfl (by kernel_rfl) (by kernel_rfl) (by kernel_rfl) (fun _ _ _ h => h) (by kernel_rfl) ?_ (by assumption) ?_; rotate_left; (focus (intro w hSw; (try dsimp only at hSw); go_simp <;> with_reducible rfl)); (try simp only [Act.put, List.setIfInBounds_toArray, List.set_cons_zero, List.set_cons_succ]); refine takeL 27 (v := ?_) rfl (by kernel_rfl) (by kernel_rfl) (by kernel_rfl) (fun _ _ _ h => h) (by kernel_rfl) ?_ (by assumption) ?_; rotate_left; (focus (intro w hSw; (try dsimp only at hSw); go_simp <;> with_reducible rfl)); (try simp only [Act.put, List.setIfInBounds_toArray, List.set_cons_zero, List.set_cons_succ]); refine takeL 28 (v := ?_) rfl (by kernel_rfl) (by kernel_rfl) (by kernel_rfl) (fun _ _ _ h => h) (by kernel_rfl) ?_ (by assumption) ?_; rotate_left; (focus (intro w hSw; (try dsimp only at hSw); go_simp <;> with_reducible rfl)); (try simp only [Act.put, List.setIfInBounds_toArray, List.set_cons_zero, List.set_cons_succ]); clear hHeld; refine oneL 29 rfl (by kernel_rfl) (by kernel_rfl) (fun K hK => ?_); go_simp; refine (HAl.out _ HH.out.ext).mono ?_; rintro e wE ⟨rfl, eE⟩; have HHn := Lib.hid (HH.out.later eE); have EXn := Lib.hid (EX.out.trans eE); clear HH EX eE; have HH := HHn; have EX := EXn; clear HHn EXn; go_wp2_with fail; refine hK.out _ _ HH.out (fun hHeld => ?_); clear hK K; (try simp only [Act.put, List.setIfInBounds_toArray, List.set_cons_zero, List.set_cons_succ]); refine takeL 30 (v := ?_) rfl (by kernel_rfl) (by kernel_rfl) (by kernel_rfl) (fun _ _ _ h => h) (by kernel_rfl) ?_ (by assumption) ?_; rotate_left; (focus (intro w hSw; (try dsimp only at hSw); go_simp <;> with_reducible rfl)); (try simp only [Act.put, List.setIfInBounds_toArray, List.set_cons_zero, List.set_cons_succ]); refine takeL 31 (v := ?_) rfl (by kernel_rfl) (by kernel_rfl) (by kernel_rfl) (fun _ _ _ h => h) (by kernel_rfl) ?_ (by assumption) ?_; rotate_left; (focus (intro w hSw; (try dsimp only at hSw); go_simp <;> with_reducible rfl)); (try simp only [Act.put, List.setIfInBounds_toArray, List.set_cons_zero, List.set_cons_succ]); refine wpAnyH_done (by kernel_rfl) ?_ _; go_wp2_with fail; go_ret; exact ⟨rfl, HH.out.ext⟩
  | false => have HHd := Lib.hid HH.out.drew; have EX := Lib.hid (Ext.drew (Ext.refl wD)); clear HH; have HH := HHd; clear HHd; refine wp_region_held_drew (S := Heap w _) (by kernel_rfl) HH.out (fun hHeld => ?_); refine takeL 0 rfl (by kernel_rfl) (by kernel_rfl) (by kernel_rfl) (fun _ _ _ h => h) (by kernel_rfl) (fun wT hST => sh_run_load hST sizeStg (by kernel_rfl) rfl rfl 5 rfl (Nat.le_of_ble_eq_true rfl)) hHeld ?_; (try simp only [Act.put, List.setIfInBounds_toArray, List.set_cons_zero, List.set_cons_succ]); refine takeL 3 rfl (by kernel_rfl) (by kernel_rfl) (by kernel_rfl) (fun _ _ _ h => h) (by kernel_rfl) (fun wT hST => sh_run_load hST sizeStg (by kernel_rfl) rfl rfl 5 rfl (Nat.le_of_ble_eq_true rfl)) hHeld ?_; (try simp only [Act.put, List.setIfInBounds_toArray, List.set_cons_zero, List.set_cons_succ]); clear hHeld; refine oneL 1 rfl (by kernel_rfl) (by kernel_rfl) (fun K hK => ?_); go_simp; refine (HC1.out _ HH.out.ext).mono ?_; rintro e wE ⟨rfl, eE⟩; have HHn := Lib.hid (HH.out.later eE); have EXn := Lib.hid (EX.out.trans eE); clear HH EX eE; have HH := HHn; have EX := EXn; clear HHn EXn; go_wp2_with fail; refine hK.out _ _ HH.out (fun hHeld => ?_); clear hK K; (try simp only [Act.put, List.setIfInBounds_toArray, List.set_cons_zero, List.set_cons_succ]); refine takeL 2 (v := ?_) rfl (by kernel_rfl) (by kernel_rfl) (by kernel_rfl) (fun _ _ _ h => h) (by kernel_rfl) ?_ (by assumption) ?_; rotate_left; (focus (intro w hSw; (try dsimp only at hSw); go_simp <;> with_reducible rfl)); (try simp only [Act.put, List.setIfInBounds_toArray, List.set_cons_zero, List.set_cons_succ]); clear hHeld; refine oneL 4 rfl (by kernel_rfl) (by kernel_rfl) (fun K hK => ?_); go_simp; refine (HC2.out _ HH.out.ext).mono ?_; rintro e wE ⟨rfl, eE⟩; have HHn := Lib.hid (HH.out.later eE); have EXn := Lib.hid (EX.out.trans eE); clear HH EX eE; have HH := HHn; have EX := EXn; clear HHn EXn; go_wp2_with fail; refine hK.out _ _ HH.out (fun hHeld => ?_); clear hK K; (try simp only [Act.put, List.setIfInBounds_toArray, List.set_cons_zero, List.set_cons_succ]); refine takeL 5 (v := ?_) rfl (by kernel_rfl) (by kernel_rfl) (by kernel_rfl) (fun _ _ _ h => h) (by kernel_rfl) ?_ (by assumption) ?_; rotate_left; (focus (intro w hSw; (try dsimp only at hSw); go_simp <;> with_reducible rfl)); (try simp only [Act.put, List.setIfInBounds_toArray, List.set_cons_zero, List.set_cons_succ]); refine takeL 6 (v := ?_) rfl (by kernel_rfl) (by kernel_rfl) (by kernel_rfl) (fun _ _ _ h => h) (by kernel_rfl) ?_ (by assumption) ?_; rotate_left; (focus (intro w hSw; (try dsimp only at hSw); go_simp <;> with_reducible rfl)); (try simp only [Act.put, List.setIfInBounds_toArray, List.set_cons_zero, List.set_cons_succ]); refine takeL 7 rfl (by kernel_rfl) (by kernel_rfl) (by kernel_rfl) (fun _ _ _ h => h) (by kernel_rfl) (fun wT hST => sh_run_load hST sizeStg (by kernel_rfl) rfl rfl 3 rfl (Nat.le_of_ble_eq_true rfl)) hHeld ?_; (try simp only [Act.put, List.setIfInBounds_toArray, List.set_cons_zero, List.set_cons_succ]); refine takeL 8 rfl (by kernel_rfl) (by kernel_rfl) (by kernel_rfl) (fun _ _ _ h => h) (by kernel_rfl) (fun wT hST => sh_run_load hST sizeStg (by kernel_rfl) rfl rfl 2 rfl (Nat.le_of_ble_eq_true rfl)) hHeld ?_; (try simp only [Act.put, List.setIfInBounds_toArray, List.set_cons_zero, List.set_cons_succ]); clear hHeld; refine oneL 9 rfl (by kernel_rfl) (by kernel_rfl) (fun K hK => ?_); go_simp; refine (HQ1.out _ EX.out).mono ?_; rintro e wE ⟨rfl, eE⟩; have HHn := Lib.hid (HH.out.later eE); have EXn := Lib.hid (EX.out.trans eE); clear HH EX eE; have HH := HHn; have EX := EXn; clear HHn EXn; go_wp2_with fail; refine hK.out _ _ HH.out (fun hHeld => ?_); clear hK K; (try simp only [Act.put, List.setIfInBounds_toArray, List.set_cons_zero, List.set_cons_succ]); refine takeL 10 (v := ?_) rfl (by kernel_rfl) (by kernel_rfl) (by kernel_rfl) (fun _ _ _ h => h) (by kernel_rfl) ?_ (by assumption) ?_; rotate_left; (focus (intro w hSw; (try dsimp only at hSw); go_simp <;> with_reducible rfl)); (try simp only [Act.put, List.setIfInBounds_toArray, List.set_cons_zero, List.set_cons_succ]); refine takeL 11 (v := ?_) rfl (by kernel_rfl) (by kernel_rfl) (by kernel_rfl) (fun _ _ _ h => h) (by kernel_rfl) ?_ (by assumption) ?_; rotate_left; (focus (intro w hSw; (try dsimp only at hSw); go_simp <;> with_reducible rfl)); (try simp only [Act.put, List.setIfInBounds_toArray, List.set_cons_zero, List.set_cons_succ]); refine takeL 12 (v := ?_) rfl (by kernel_rfl) (by kernel_rfl) (by kernel_rfl) (fun _ _ _ h => h) (by kernel_rfl) ?_ (by assumption) ?_; rotate_left; (focus (intro w hSw; (try dsimp only at hSw); go_simp <;> with_reducible rfl)); (try simp only [Act.put, List.setIfInBounds_toArray, List.set_cons_zero, List.set_cons_succ]); refine takeL 14 (v := ?_) rfl (by kernel_rfl) (by kernel_rfl) (by kernel_rfl) (fun _ _ _ h => h) (by kernel_rfl) ?_ (by assumption) ?_; rotate_left; (focus (intro w hSw; (try dsimp only at hSw); go_simp <;> with_reducible rfl)); (try simp only [Act.put, List.setIfInBounds_toArray, List.set_cons_zero, List.set_cons_succ]); clear hHeld; refine oneL 13 rfl (by kernel_rfl) (by kernel_rfl) (fun K hK => ?_); go_simp; refine (HNu.out _ _).mono ?_; rintro e wE ⟨rfl, eE⟩; have HHn := Lib.hid (HH.out.later eE); have EXn := Lib.hid (EX.out.trans eE); clear HH EX eE; have HH := HHn; have EX := EXn; clear HHn EXn; go_wp2_with fail; refine hK.out _ _ HH.out (fun hHeld => ?_); clear hK K; (try simp only [Act.put, List.setIfInBounds_toArray, List.set_cons_zero, List.set_cons_succ]); refine takeL 15 (v := ?_) rfl (by kernel_rfl) (by kernel_rfl) (by kernel_rfl) (fun _ _ _ h => h) (by kernel_rfl) ?_ (by assumption) ?_; rotate_left; (focus (intro w hSw; (try dsimp only at hSw); go_simp <;> with_reducible rfl)); (try simp only [Act.put, List.setIfInBounds_toArray, List.set_cons_zero, List.set_cons_succ]); refine takeL 16 (v := ?_) rfl (by kernel_rfl) (by kernel_rfl) (by kernel_rfl) (fun _ _ _ h => h) (by kernel_rfl) ?_ (by assumption) ?_; rotate_left; (focus (intro w hSw; (try dsimp only at hSw); go_simp <;> with_reducible rfl)); (try simp only [Act.put, List.setIfInBounds_toArray, List.set_cons_zero, List.set_cons_succ]); refine takeL 17 (v := ?_) rfl (by kernel_rfl) (by kernel_rfl) (by kernel_rfl) (fun _ _ _ h => h) (by kernel_rfl) ?_ (by assumption) ?_; rotate_left; (focus (intro w hSw; (try dsimp only at hSw); go_simp <;> with_reducible rfl)); (try simp only [Act.put, List.setIfInBounds_toArray, List.set_cons_zero, List.set_cons_succ]); refine takeL 18 rfl (by kernel_rfl) (by kernel_rfl) (by kernel_rfl) (fun _ _ _ h => h) (by kernel_rfl) (fun wT hST => sh_run_load hST sizeStg (by kernel_rfl) rfl rfl 1 rfl (Nat.le_of_ble_eq_true rfl)) hHeld ?_; (try simp only [Act.put, List.setIfInBounds_toArray, List.set_cons_zero, List.set_cons_succ]); refine takeL 19 rfl (by kernel_rfl) (by kernel_rfl) (by kernel_rfl) (fun _ _ _ h => h) (by kernel_rfl) (fun wT hST => sh_run_load hST sizeStg (by kernel_rfl) rfl rfl 0 rfl (Nat.le_of_ble_eq_true rfl)) hHeld ?_; (try simp only [Act.put, List.setIfInBounds_toArray, List.set_cons_zero, List.set_cons_succ]); clear hHeld; refine oneL 20 rfl (by kernel_rfl) (by kernel_rfl) (fun K hK => ?_); go_simp; refine (HQ2.out _ EX.out).mono ?_; rintro e wE ⟨rfl, eE⟩; have HHn := Lib.hid (HH.out.later eE); have EXn := Lib.hid (EX.out.trans eE); clear HH EX eE; have HH := HHn; have EX := EXn; clear HHn EXn; go_wp2_with fail; refine hK.out _ _ HH.out (fun hHeld => ?_); clear hK K; (try simp only [Act.put, List.setIfInBounds_toArray, List.set_cons_zero, List.set_cons_succ]); refine takeL 21 (v := ?_) rfl (by kernel_rfl) (by kernel_rfl) (by kernel_rfl) (fun _ _ _ h => h) (by kernel_rfl) ?_ (by assumption) ?_; rotate_left; (focus (intro w hSw; (try dsimp only at hSw); go_simp <;> with_reducible rfl)); (try simp only [Act.put, List.setIfInBounds_toArray, List.set_cons_zero, List.set_cons_succ]); refine takeL 22 (v := ?_) rfl (by kernel_rfl) (by kernel_rfl) (by kernel_rfl) (fun _ _ _ h => h) (by kernel_rfl) ?_ (by assumption) ?_; rotate_left; (focus (intro w hSw; (try dsimp only at hSw); go_simp <;> with_reducible rfl)); (try simp only [Act.put, List.setIfInBounds_toArray, List.set_cons_zero, List.set_cons_succ]); refine takeL 23 (v := ?_) rfl (by kernel_rfl) (by kernel_rfl) (by kernel_rfl) (fun _ _ _ h => h) (by kernel_rfl) ?_ (by assumption) ?_; rotate_left; (focus (intro w hSw; (try dsimp only at hSw); go_simp <;> with_reducible rfl)); (try simp only [Act.put, List.setIfInBounds_toArray, List.set_cons_zero, List.set_cons_succ]); refine takeL 25 (v := ?_) rfl (by kernel_rfl) (by kernel_rfl) (by kernel_rfl) (fun _ _ _ h => h) (by kernel_rfl) ?_ (by assumption) ?_; rotate_left; (focus (intro w hSw; (try dsimp only at hSw); go_simp <;> with_reducible rfl)); (try simp only [Act.put, List.setIfInBounds_toArray, List.set_cons_zero, List.set_cons_succ]); clear hHeld; refine oneL 24 rfl (by kernel_rfl) (by kernel_rfl) (fun K hK => ?_); go_simp; refine (HNu.out _ _).mono ?_; rintro e wE ⟨rfl, eE⟩; have HHn := Lib.hid (HH.out.later eE); have EXn := Lib.hid (EX.out.trans eE); clear HH EX eE; have HH := HHn; have EX := EXn; clear HHn EXn; go_wp2_with fail; refine hK.out _ _ HH.out (fun hHeld => ?_); clear hK K; (try simp only [Act.put, List.setIfInBounds_toArray, List.set_cons_zero, List.set_cons_succ]); refine takeL 26 (v := ?_) rfl (by kernel_rfl) (by kernel_rfl) (by kernel_rfl) (fun _ _ _ h => h) (by kernel_rfl) ?_ (by assumption) ?_; rotate_left; (focus (intro w hSw; (try dsimp only at hSw); go_simp <;> with_reducible rfl)); (try simp only [Act.put, List.setIfInBounds_toArray, List.set_cons_zero, List.set_cons_succ]); refine takeL 27 (v := ?_) rfl (by kernel_rfl) (by kernel_rfl) (by kernel_rfl) (fun _ _ _ h => h) (by kernel_rfl) ?_ (by assumption) ?_; rotate_left; (focus (intro w hSw; (try dsimp only at hSw); go_simp <;> with_reducible rfl)); (try simp only [Act.put, List.setIfInBounds_toArray, List.set_cons_zero, List.set_cons_succ]); refine takeL 28 (v := ?_) rfl (by kernel_rfl) (by kernel_rfl) (by kernel_rfl) (fun _ _ _ h => h) (by kernel_rfl) ?_ (by assumption) ?_; rotate_left; (focus (intro w hSw; (try dsimp only at hSw); go_simp <;> with_reducible rfl)); (try simp only [Act.put, List.setIfInBounds_toArray, List.set_cons_zero, List.set_cons_succ]); clear hHeld; refine oneL 29 rfl (by kernel_rfl) (by kernel_rfl) (fun K hK => ?_); go_simp; refine (HAl.out _ HH.out.ext).mono ?_; rintro e wE ⟨rfl, eE⟩; have HHn := Lib.hid (HH.out.later eE); have EXn := Lib.hid (EX.out.trans eE); clear HH EX eE; have HH := HHn; have EX := EXn; clear HHn EXn; go_wp2_with fail; refine hK.out _ _ HH.out (fun hHeld => ?_); clear hK K; (try simp only [Act.put, List.setIfInBounds_toArray, List.set_cons_zero, List.set_cons_succ]); refine takeL 30 (v := ?_) rfl (by kernel_rfl) (by kernel_rfl) (by kernel_rfl) (fun _ _ _ h => h) (by kernel_rfl) ?_ (by assumption) ?_; rotate_left; (focus (intro w hSw; (try dsimp only at hSw); go_simp <;> with_reducible rfl)); (try simp only [Act.put, List.setIfInBounds_toArray, List.set_cons_zero, List.set_cons_succ]); refine takeL 31 (v := ?_) rfl (by kernel_rfl) (by kernel_rfl) (by kernel_rfl) (fun _ _ _ h => h) (by kernel_rfl) ?_ (by assumption) ?_; rotate_left; (focus (intro w hSw; (try dsimp only at hSw); go_simp <;> with_reducible rfl)); (try simp only [Act.put, List.setIfInBounds_toArray, List.set_cons_zero, List.set_cons_succ]); refine wpAnyH_done (by kernel_rfl) ?_ _; go_wp2_with fail; go_ret; exact ⟨rfl, HH.out.ext⟩
end Go.Proofs.YtmecjjmlccdppaaGreatDoor
/- StagingTells for every world (joined with the contracts). -/
namespace Go.Proofs.YtmecjjmlccdppaaGreatDoor
open Go.RowKit
set_option linter.unusedVariables false

theorem stells_any (w : World) (hM : MaxV w) (x : Stg) (hx : x.ok w) (into : ByteArray) (hin : into.size ≤ 100000000) (r : Rec) (hr : Rd w 0 w.heap.size r.oA (prps r.own)) (hrx : r.wf) (hron : r.on ≤ 100000000) (hrs : (sumR r).wf)
    (bA : Option Addr) (bn bc : Nat) (base : List Blk) (hbn : bn = base.length) (hbm : bn ≤ 100000000) (hbr : Rd w 0 w.heap.size bA (blks base)) (hbw : ∀ y ∈ base, y.wf) (raw : Int) (hw1 : -9223372036854775808 ≤ raw) (hw2 : raw ≤ 9223372036854775807) :
    Calls Tryz.prog 3 #[.agg x.cells.toArray, .string into, .agg r.cells.toArray, .slice bA bn bc, .int .i64 raw] w fun e w' => e = .returned (.bool true) ∧ Ext w w' :=
  stells_core w x into r bA bn bc raw (startA into r base raw) (stakeA x r) (startE into r base raw) (stakeE x r)
    (fun W hW => start_any W (hM.ext hW) into hin r (Rd.at hr hW (Nat.le_refl _)) hrx hron hrs bA bn bc base hbn hbm (Rd.at hbr hW (Nat.le_refl _)) hbw raw hw1 hw2)
    (fun W hW => rstart_any W into hin r (Rd.at hr hW (Nat.le_refl _)) hrx hron hrs bA bn bc base hbn hbm (Rd.at hbr hW (Nat.le_refl _)) hbw raw hw1 hw2)
    (fun W hW => take_any W (hM.ext hW) x (hx.ext hW) r (Rd.at hr hW (Nat.le_refl _)) hrx hron hrs)
    (fun W hW => rtake_any W x (hx.ext hW) r (Rd.at hr hW (Nat.le_refl _)) hrx hron hrs)
    (stB x) (fun W hW => scheck_any W x (hx.ext hW) (hM.ext hW))
    (fun W hW => rstage_any W x (hx.ext hW))
    (fun W hW => alive_any W (hM.ext hW))
    (fun W a => (num_any W a).mono fun e w' h => ⟨h.1, by rw [h.2]; exact Ext.refl _⟩)
end Go.Proofs.YtmecjjmlccdppaaGreatDoor
/- What the rows of this seat share: the library's variable MaxLen holds some integer (out of the world's shape); a world in which the listed variables are laid. -/
namespace Go.Proofs.YtmecjjmlccdppaaGreatDoor
open Go.RowKit Go.ChangeShapes Go.WideShapes Go.ChangeAt
set_option linter.unusedVariables false
set_option maxRecDepth 100000
theorem maxv_shaped {W : World} (h : W.ShapedOpen Tryz.prog) : MaxV W :=
  Go.Proofs.cell_of_shapedOpen_int (P := Tryz.prog) (g := 0) (t := 3) (zero := #[.int .i64 0]) h (of_decide_eq_true (by kernel_rfl)) (by kernel_rfl) rfl (by kernel_rfl) (by kernel_rfl) Tryz.underlying3
abbrev laidL : List (String × DataW Unit) := [("unicode/utf8.acceptRanges", Rows.laid_unicode_utf8_acceptRanges), ("unicode/utf8.first", Rows.laid_unicode_utf8_first)]
noncomputable def witW (os : Os) : World := World.laidAll Tryz.prog os laidL
theorem laid_met (os : Os) (args : Array Value) : laidMet Tryz.prog laidL ((witW os).forCall (fun _ _ => 0) ⟨#[], args, []⟩).memory :=
  laidMet_laidAll args (by kernel_rfl) (by kernel_rfl)
theorem ownKnobs : ownKnob Tryz.prog.godebug = none := by kernel_rfl
theorem laidOut : laidOutB Tryz.prog = true := by kernel_rfl
section
variable {H : Type} {enc : TypeId × Value → H} {P : Program} {w : World} {base : Nat} {spare : Nat → Bool} {held : Bool}
theorem trodAll_five {t t' t'' t3 t4 : TypeId} {args : Array Value} {ds : List (DataW H)} {ps : List MemPlace} (h : DataW.TrodAll enc P w base spare held [t, t', t'', t3, t4] args.toList ds ps) :
    ∃ v v' v'' v3 v4 d d' d'' d3 d4 p p' p'' p3 p4, args = #[v, v', v'', v3, v4] ∧ ds = [d, d', d'', d3, d4] ∧ ps = p ++ p' ++ p'' ++ p3 ++ p4 ∧ DataW.Trod enc P w base spare held t v d p ∧ DataW.Trod enc P w base spare held t' v' d' p' ∧ DataW.Trod enc P w base spare held t'' v'' d'' p'' ∧ DataW.Trod enc P w base spare held t3 v3 d3 p3 ∧ DataW.Trod enc P w base spare held t4 v4 d4 p4 := by
  obtain ⟨v, vs, d, ds', p, q, hargs, rfl, rfl, hd, hrest⟩ := trodAll_cons h
  obtain ⟨v', vs', d', ds'', p', q', rfl, rfl, rfl, hd', hrest'⟩ := trodAll_cons hrest
  obtain ⟨v'', vs'', d'', ds''', p'', q'', rfl, rfl, rfl, hd'', hrest''⟩ := trodAll_cons hrest'
  obtain ⟨v3, vs3, d3, ds3, p3, q3, rfl, rfl, rfl, hd3, hrest3⟩ := trodAll_cons hrest''
  obtain ⟨v4, vs4, d4, ds4, p4, q4, rfl, rfl, rfl, hd4, hrest4⟩ := trodAll_cons hrest3
  obtain ⟨rfl, rfl, rfl⟩ := trodAll_nil hrest4
  refine ⟨v, v', v'', v3, v4, d, d', d'', d3, d4, p, p', p'', p3, p4, ?_, rfl, by simp [List.append_assoc], hd, hd', hd'', hd3, hd4⟩
  rw [← Array.toList_inj, hargs]
end
end Go.Proofs.YtmecjjmlccdppaaGreatDoor
/-
  FOR A PROOF OF AN '..UptoSaid': WHAT THE BOUND GIVES. Copy it as <Name>Bulk.lean (put your seat's Name for YtmecjjmlccdppaaGreatDoor, the bound of 'uptoSmall' for 1048576), name it in GOCLAIM.json's 'order' behind <Name>Rows. By an AI agent, Sun Nov 15 2026. No person has read it. No macro, syntax, notation, axiom, sorry.
-/
namespace Go.Proofs.YtmecjjmlccdppaaGreatDoor.bulks

theorem one_le {H : Type} (d : DataW H) : 1 ≤ Rows.uptoBulk d := by
  cases d with
  | lit l => cases l <;> simp [Rows.uptoBulk]
  | nil => simp [Rows.uptoBulk]
  | ptr d => simp [Rows.uptoBulk]
  | slice elems spare => simp [Rows.uptoBulk]
  | agg parts => simp [Rows.uptoBulk]
  | iface t d => simp [Rows.uptoBulk]
  | map entries => simp [Rows.uptoBulk]
  | held h => simp [Rows.uptoBulk]

/-- a part's bulk is at most the whole's -/
theorem part_le {H : Type} {d : DataW H} {l : List (DataW H)} (h : d ∈ l) : Rows.uptoBulk d ≤ Rows.uptoBulkAll l := by
  induction l with
  | nil => cases h
  | cons x r ih =>
    simp only [Rows.uptoBulkAll]
    cases List.mem_cons.1 h with
    | inl e => subst e; omega
    | inr e => have := ih e; omega

theorem append {H : Type} (l r : List (DataW H)) : Rows.uptoBulkAll (l ++ r) = Rows.uptoBulkAll l + Rows.uptoBulkAll r := by
  induction l with
  | nil => simp [Rows.uptoBulkAll]
  | cons x l ih => simp only [List.cons_append, Rows.uptoBulkAll, ih]; omega

/-- so many values at the most -/
theorem length_le {H : Type} (l : List (DataW H)) : l.length ≤ Rows.uptoBulkAll l := by
  induction l with
  | nil => simp [Rows.uptoBulkAll]
  | cons x r ih => have := one_le x; simp only [Rows.uptoBulkAll, List.length_cons]; omega

/-- a slice's places, and what they hold -/
theorem slice_le {H : Type} (elems spare : List (DataW H)) : elems.length + spare.length + 1 ≤ Rows.uptoBulk (.slice elems spare) := by
  have h1 := length_le elems
  have h2 := length_le spare
  simp only [Rows.uptoBulk]
  omega
theorem slice_elems {H : Type} (elems spare : List (DataW H)) : Rows.uptoBulkAll elems + 1 ≤ Rows.uptoBulk (.slice elems spare) := by
  simp only [Rows.uptoBulk]
  omega

/-- a string's letters -/
theorem string_eq {H : Type} (bytes : List UInt8) : Rows.uptoBulk (DataW.lit (H := H) (.string bytes)) = bytes.length + 1 := by
  simp [Rows.uptoBulk]

/-- THE BOUND, as the builder hands it over ('hk') -/
theorem bound {H : Type} {l : List (DataW H)} (hk : Rows.uptoSmall H l = true) : Rows.uptoBulkAll l ≤ 1048576 := by
  simpa [Rows.uptoSmall] using hk

/-- ROOM: a slice of n elements of b bytes, grown by append: below the 2^48 bytes that append, make and a Builder bear. Here n up to 2^21, b up to 4,096: put your own numbers. -/
theorem room {n b : Nat} (hn : n ≤ 2097152) (hb : b ≤ 4096) : (n + n / 4 + 192) * b ≤ 281474976710656 := by
  have h : (n + n / 4 + 192) * b ≤ 2621632 * 4096 := Nat.mul_le_mul (by omega) hb
  omega

end Go.Proofs.YtmecjjmlccdppaaGreatDoor.bulks
/- Arguments that come in, where the whole is of bulk at most 1048576: openers that are put together. -/
namespace Go.Proofs.YtmecjjmlccdppaaGreatDoor.opb
open Go.RowKit Go.ChangeShapes Go.WideShapes Go.Deep Go.Joins
set_option linter.unusedVariables false

/-- what is said of a slice that came in -/
structure In {α : Type} (w : World) (cells : α → List Value) (I : α → Prop) (s : Sl α) : Prop where
  len : s.n = s.xs.length
  le : s.n ≤ s.c
  cap : s.c ≤ maxLen
  small : s.n ≤ 1048576
  rd : Rd w 0 w.heap.size s.A (s.xs.flatMap cells)
  all : ∀ x ∈ s.xs, I x
section
variable {H : Type} {enc : TypeId × Value → H} {P : Program} {w : World} {t e : TypeId} {α β : Type}
def Opens (enc : TypeId × Value → H) (P : Program) (w : World) (t : TypeId) (cells : α → List Value) (I : α → Prop) : Prop :=
  ∀ (spare : Nat → Bool) (held : Bool) (fuel : Nat) (cs : List Value) (x : DataW H × List MemPlace), DataW.trod enc P w 0 spare held fuel t cs = some x → Rows.uptoBulk x.1 ≤ 1048576 → ∃ a, cs = cells a ∧ I a
theorem opens_int {k : IntKind} (ht : P.underlying t = some (.int k)) : Opens enc P w t (fun z : Int => [.int k z]) (fun z => k.min ≤ z ∧ z ≤ k.max) := fun _ _ _ _ _ h _ => by
  obtain ⟨n, rfl, _, hw⟩ := DataW.trod_int ht h
  simp only [Lit.wf, Bool.and_eq_true, decide_eq_true_eq] at hw
  exact ⟨n, rfl, hw⟩
theorem opens_bool (ht : P.underlying t = some .bool) : Opens enc P w t (fun z : Bool => [.bool z]) (fun _ => True) := fun _ _ _ _ _ h _ => by
  obtain ⟨n, rfl, _⟩ := DataW.trod_bool ht h
  exact ⟨n, rfl, trivial⟩
theorem opens_str (ht : P.underlying t = some .string) : Opens enc P w t (fun s : ByteArray => [.string s]) (fun s => s.size ≤ 1048576) := fun _ _ _ _ _ h hw => by
  obtain ⟨s, rfl, rfl, _⟩ := DataW.trod_string ht h
  refine ⟨s, rfl, ?_⟩
  rw [bulks.string_eq, Array.length_toList] at hw
  exact Nat.le_trans (Nat.le_succ _) hw
theorem Opens.map {cells : α → List Value} {I : α → Prop} {cells' : β → List Value} {I' : β → Prop} (h : Opens enc P w t cells I) (f : α → β) (hc : ∀ a, I a → cells a = cells' (f a)) (hi : ∀ a, I a → I' (f a)) : Opens enc P w t cells' I' := fun _ _ _ _ _ h1 h2 => by
  obtain ⟨a, rfl, ha⟩ := h _ _ _ _ _ h1 h2
  exact ⟨f a, hc a ha, hi a ha⟩
theorem opens_slice (size : Nat) {cells : α → List Value} {I : α → Prop} (ht : P.underlying t = some (.slice e)) (hC : P.cellsOf e = size) (h0 : 0 < size) (hs : ∀ a, (cells a).length = size) (el : Opens enc P w e cells I) :
    Opens enc P w t (fun s : Sl α => [s.val]) (In w cells I) := fun spare held fuel cs x h hw => by
  subst hC
  rcases open_slice ht h with ⟨rfl, rfl⟩ | ⟨a, len, cap, m, n, D, Pl, rfl, _, hl, hm, hmm, rfl, hi⟩
  · exact ⟨⟨none, 0, 0, []⟩, rfl, ⟨rfl, Nat.le_refl _, Nat.zero_le _, Nat.zero_le _, Rd.nil, fun _ h => by simp at h⟩⟩
  · have hb := bulks.slice_le ((List.range len).map D) ((List.range (m - len)).map fun j => D (len + j))
    have hb2 := bulks.slice_elems ((List.range len).map D) ((List.range (m - len)).map fun j => D (len + j))
    have hw' : Rows.uptoBulk (.slice ((List.range len).map D) ((List.range (m - len)).map fun j => D (len + j))) ≤ 1048576 := hw
    have hsm : len ≤ 1048576 := by
      simp only [List.length_map, List.length_range] at hb
      omega
    rcases Nat.eq_zero_or_pos len with hlen | hlen
    · subst hlen
      exact ⟨⟨some a, 0, cap, []⟩, rfl, ⟨rfl, hl, hm, Nat.zero_le _, Rd.nil, fun _ h => by simp at h⟩⟩
    · have hml : len ≤ m := by rw [hmm]; split <;> omega
      have one : ∀ i, i < len → ∃ y : α, I y ∧ ∀ j u, (cells y)[j]? = some u → w.cell? (a.add (i * P.cellsOf e + j)) = some u := by
        intro i hil
        obtain ⟨cs', hc, ht'⟩ := hi i (by omega)
        obtain ⟨y, rfl, hy⟩ := el _ _ _ _ _ ht' (by
          have h1 := bulks.part_le (d := D i) (l := (List.range len).map D) (List.mem_map_of_mem (List.mem_range.2 hil))
          show Rows.uptoBulk (D i) ≤ _
          omega)
        obtain ⟨_, _, hat⟩ := World.cells?_some hc
        refine ⟨y, hy, fun j u hu => ?_⟩
        have hj : j < P.cellsOf e := by
          have := (List.getElem?_eq_some_iff.1 hu).1
          rwa [hs] at this
        rw [← Go.Deep.add_add, hat j hj, hu]
      have key : ∀ i, ∃ y : α, i < len → I y ∧ ∀ j u, (cells y)[j]? = some u → w.cell? (a.add (i * P.cellsOf e + j)) = some u := by
        intro i
        by_cases hil : i < len
        · obtain ⟨y, h1, h2⟩ := one i hil
          exact ⟨y, fun _ => ⟨h1, h2⟩⟩
        · obtain ⟨y, _⟩ := one 0 hlen
          exact ⟨y, fun h => absurd h hil⟩
      obtain ⟨g, hg⟩ := Classical.axiomOfChoice key
      refine ⟨⟨some a, len, cap, (List.range len).map g⟩, rfl, ⟨by simp, hl, hm, hsm, plain_of_cells fun i u hu => ?_, fun x hx => ?_⟩⟩
      · have hil : i < len * P.cellsOf e := by
          have := (List.getElem?_eq_some_iff.1 hu).1
          rw [flat_length hs] at this
          simpa using this
        have hk : i / P.cellsOf e < len := Nat.div_lt_of_lt_mul (by rw [Nat.mul_comm]; exact hil)
        have hij : i / P.cellsOf e * P.cellsOf e + i % P.cellsOf e = i := Nat.div_add_mod' i (P.cellsOf e)
        rw [← hij, flat_get hs _ _ _ (Nat.mod_lt _ h0) (by simpa using hk)] at hu
        simp only [List.getElem_map, List.getElem_range] at hu
        rw [← hij]
        exact (hg _ hk).2 _ u hu
      · simp only [List.mem_map, List.mem_range] at hx
        obtain ⟨i, hil, rfl⟩ := hx
        exact (hg i hil).1
def OpensF (enc : TypeId × Value → H) (P : Program) (w : World) (L : Nat) (fs : List Field) (off : Nat) (cells : α → List Value) (I : α → Prop) : Prop :=
  ∀ (spare : Nat → Bool) (held : Bool) (fuel : Nat) (cs : List Value) (ys : List (DataW H × List MemPlace)), cs.length = L → ys.length = fs.length →
    (∀ (i : Nat) (f : Field), fs[i]? = some f → DataW.trod enc P w 0 spare held fuel f.type ((cs.drop f.offset).take (P.cellsOf f.type)) = ys[i]?) →
    Rows.uptoBulkAll (ys.map (·.1)) ≤ 1048576 → ∃ a, cs.drop off = cells a ∧ I a
theorem OpensF.nil {L : Nat} : OpensF enc P w L [] L (fun _ : Unit => []) (fun _ => True) := fun _ _ _ cs _ hl _ _ _ => ⟨(), List.drop_eq_nil_of_le (by omega), trivial⟩
theorem OpensF.cons (size : Nat) {L off : Nat} {f : Field} {fs : List Field} {cells : α → List Value} {I : α → Prop} {cells' : β → List Value} {I' : β → Prop} (h : Opens enc P w f.type cells I) (ho : f.offset = off) (hc : P.cellsOf f.type = size)
    (r : OpensF enc P w L fs (off + size) cells' I') : OpensF enc P w L (f :: fs) off (fun x : α × β => cells x.1 ++ cells' x.2) (fun x => I x.1 ∧ I' x.2) := fun spare held fuel cs ys hl hy hf hw => by
  subst ho hc
  cases ys with
  | nil => simp at hy
  | cons y ys =>
    simp only [List.map_cons, Rows.uptoBulkAll] at hw
    obtain ⟨a, ha, hi⟩ := h _ _ _ _ y (hf 0 f rfl) (by omega)
    obtain ⟨b, hb, hj⟩ := r spare held fuel cs ys hl (by simpa using hy) (fun i g hg => hf (i + 1) g hg) (by omega)
    refine ⟨(a, b), ?_, hi, hj⟩
    show _ = cells a ++ cells' b
    rw [← ha, ← hb, ← List.drop_drop, List.take_append_drop]
theorem opens_struct {L : Nat} {fs : Array Field} {cells : α → List Value} {I : α → Prop} (hu : P.underlying t = some (.struct fs)) (hL : P.cellsOf t = L) (hF : OpensF enc P w L fs.toList 0 cells I) : Opens enc P w t cells I := fun spare held fuel cs x h hw => by
  obtain ⟨ys, n, _, rfl, hlen, hyl, hf⟩ := DataW.trod_struct hu h
  obtain ⟨a, ha, hi⟩ := hF spare held n cs ys (hlen.trans hL) (by simpa using hyl) (fun i f hif => hf i f (by simpa using hif)) (by
    have h1 : Rows.uptoBulk (DataW.agg (ys.map (·.1))) ≤ 1048576 := hw
    simp only [Rows.uptoBulk] at h1
    omega)
  exact ⟨a, by simpa using ha, hi⟩
/-- a parameter that is a struct -/
theorem Opens.param_struct {fs : Array Field} {cells : α → List Value} {I : α → Prop} (h : Opens enc P w t cells I) (hu : P.underlying t = some (.struct fs)) {r : Reach} {b0 : Nat} {spare : Nat → Bool} {held : Bool} {v : Value} {d : DataW H} {p : List MemPlace}
    (hv : Value.okWide P w r b0 t v) (ht : DataW.Trod enc P w 0 spare held t v d p) (hw : Rows.uptoBulk d ≤ 1048576) : ∃ a, v = .agg (cells a).toArray ∧ I a := by
  obtain ⟨cs, rfl, _⟩ := okWide_struct hu hv
  obtain ⟨fuel, hf⟩ := ht
  obtain ⟨a, ha, hi⟩ := h _ _ _ _ _ hf hw
  exact ⟨a, by rw [← ha]; rfl, hi⟩
/-- a parameter that is a slice -/
theorem Opens.param_slice {I : Sl α → Prop} (h : Opens enc P w t (fun s : Sl α => [s.val]) I) (ht : P.underlying t = some (.slice e)) {r : Reach} {b0 : Nat} {spare : Nat → Bool} {held : Bool} {v : Value} {d : DataW H} {p : List MemPlace}
    (hv : Value.okWide P w r b0 t v) (htr : DataW.Trod enc P w 0 spare held t v d p) (hw : Rows.uptoBulk d ≤ 1048576) : ∃ s : Sl α, v = s.val ∧ I s := by
  obtain ⟨A, n, c, rfl⟩ := okWide_slice ht hv
  obtain ⟨fuel, hf⟩ := htr
  obtain ⟨a, ha, hi⟩ := h _ _ _ _ _ hf hw
  exact ⟨a, by simpa [Value.cells] using ha, hi⟩
/-- a parameter that is a string -/
theorem param_string (ht : P.underlying t = some .string) {r : Reach} {b0 : Nat} {spare : Nat → Bool} {held : Bool} {v : Value} {d : DataW H} {p : List MemPlace}
    (hv : Value.okWide P w r b0 t v) (htr : DataW.Trod enc P w 0 spare held t v d p) (hw : Rows.uptoBulk d ≤ 1048576) : ∃ s : ByteArray, v = .string s ∧ s.size ≤ 1048576 := by
  obtain ⟨s, rfl, rfl, rfl, hmax⟩ := Go.ChangeMaps.open_string ht hv htr
  rw [bulks.string_eq, Array.length_toList] at hw
  exact ⟨s, rfl, Nat.le_trans (Nat.le_succ _) hw⟩
theorem arg_le {ds : List (DataW H)} {d : DataW H} (h : Rows.uptoBulkAll ds ≤ 1048576) (hd : d ∈ ds) : Rows.uptoBulk d ≤ 1048576 := Nat.le_trans (bulks.part_le hd) h
end
end Go.Proofs.YtmecjjmlccdppaaGreatDoor.opb
