/- The texts Rstg, Sgo in one file. -/
import Derived.Test.YtmecjjmlccdppaaGreatDoorM14
import Derived.Test.YtmecjjmlccdppaaGreatDoorM17
/- The reference's Stage, SameRecord, SameStage. -/
namespace Go.Proofs.YtmecjjmlccdppaaGreatDoor
open Go.RowKit
set_option linter.unusedVariables false
set_option linter.unusedSimpArgs false

def begB (x : Rec) : Bool := x.kind == 1 && mayB x
theorem beg_rec (x : Rec) : begB x = (x.kind == 1 && decide (recE x = 0)) := by
  unfold begB recE
  by_cases h : x.kind = 1
  · rw [if_neg (by omega), h]
    cases mayB x <;> rfl
  · have : (x.kind == 1) = false := by simpa using h
    rw [this]
    rfl
set_option maxRecDepth 100000 in
set_option maxHeartbeats 1000000 in
theorem beginb_any (w : World) (x : Rec) (hr : Rd w 0 w.heap.size x.oA (prps x.own)) (hx : x.wf) :
    Calls Tryz.prog 40 #[.agg x.cells.toArray] w fun e w' => e = .returned (.bool (begB x)) ∧ Ext w w' := by
  by_cases hk : x.kind = 1
  · have h := begin_any w x hr hx hk
    rw [begB, hk]
    exact h
  · have HF := Lib.hid (show begB x = false by rw [begB]; simp [hk])
    obtain ⟨k, n, f, g, oA, on, oc, own, i, c, d, s0, s1, s2, s3⟩ := x
    have d1 : (k == 1) = false := by simpa using hk
    clear hr hx hk
    simp only [Rec.cells]
    go_enter Tryz.func40, Tryz.ntmps40
    go_upto_region 1 with fail
    generalize hwH : World.alloc w _ = w1; have HH := Lib.hid (Heap.one hwH); clear hwH
    go_wp2_with (refine shl_load1 HH.out rfl rfl rfl 0 rfl rfl (by decide +kernel) ?_)
    go_ret
    exact ⟨by rw [HF.out]; rfl, HH.out.ext⟩

set_option maxRecDepth 100000 in
set_option maxHeartbeats 8000000 in
theorem rstage_any (w : World) (x : Stg) (hx : x.ok w) :
    Calls Tryz.prog 12 #[.agg x.cells.toArray] w fun e w' => e = .returned (.bool (stB x)) ∧ Ext w w' := by
  have HPa := Lib.hid (fun W => rpath_any x.into W (by have := hx.into; omega))
  have HRe := Lib.hid (fun W (hW : Ext w W) => beginb_any W x.beg (Rd.at hx.begR hW (Nat.le_refl _)) hx.beg)
  have HBk := Lib.hid (fun W (hW : Ext w W) => rbcheck_any W x.bA x.bn x.bc x.body hx.bodyN (by have := hx.bodyM; omega) (Rd.at hx.bodyR hW (Nat.le_refl _)) hx.bodyW)
  have HA1 := Lib.hid (fun W => show Calls Tryz.prog 41 #[.int .i64 x.pos, .int .i64 0] W fun e w' => e = .returned (.bool (amt x.pos)) ∧ Ext W w' from ramount_any W x.pos 0 hx.pos.1 hx.pos.2)
  have HA2 := Lib.hid (fun W => show Calls Tryz.prog 41 #[.int .i64 x.next, .int .i64 0] W fun e w' => e = .returned (.bool (amt x.next)) ∧ Ext W w' from ramount_any W x.next 0 hx.next.1 hx.next.2)
  have HS := Lib.hid (show stB x = (!x.into.toList.isEmpty && (pathB x.into && (begB x.beg && (decide (bkE x.body = 0) && (amt x.pos && amt x.next))))) by rw [beg_rec, stB, Bool.and_assoc])
  clear hx
  generalize stB x = V at *
  generalize begB x.beg = BG at *
  obtain ⟨into, ⟨kind, name, frm, guid, oA, on, oc, own, index, count, data, s0, s1, s2, s3⟩, bA, bn, bc, body, pos, next, ⟨ua, ub, uc, ud⟩, dn⟩ := x
  dsimp only at HPa HBk HA1 HA2 HS
  simp only [Rec.cells] at HRe
  generalize hbE : bkE body = BE at HBk HS
  clear hbE
  by_cases c1 : into.size = 0
  · obtain rfl := empty_of into c1
    have e0 : (⟨#[]⟩ : ByteArray).toList.isEmpty = true := by rw [ByteArray.toList_eq]; rfl
    have HF := Lib.hid (show V = false by rw [HS.out, e0]; rfl)
    clear c1 e0
    simp only [Stg.cells, Rec.cells, Su.cells, List.cons_append, List.nil_append]; go_enter Tryz.func12, Tryz.ntmps12; go_upto_region 1 with fail; generalize hwH : World.alloc w _ = w1; have HH := Lib.hid (Heap.one hwH); clear hwH; go_wp2_with (first | (go_big_want; refine sh_load HH.out sizeRec (by kernel_rfl) rfl rfl 0 rfl (Nat.le_of_ble_eq_true rfl) ?_) | (go_big_want; refine sh_load1 HH.out rfl rfl 0 rfl rfl (by decide +kernel) ?_) | (refine shl_load1 HH.out rfl rfl rfl 0 rfl rfl (by decide +kernel) ?_) | (go_at_call 32; (with_reducible refine (HPa.out _).mono ?_); rintro e wC ⟨rfl, eC⟩; have HHn := Lib.hid (HH.out.later eC); clear HH eC; have HH := HHn; clear HHn) | (go_at_call 40; (with_reducible refine (HRe.out _ HH.out.ext).mono ?_); rintro e wC ⟨rfl, eC⟩; have HHn := Lib.hid (HH.out.later eC); clear HH eC; have HH := HHn; clear HHn) | (go_at_call 34; (with_reducible refine (HBk.out _ HH.out.ext).mono ?_); rintro e wC ⟨rfl, eC⟩; have HHn := Lib.hid (HH.out.later eC); clear HH eC; have HH := HHn; clear HHn) | (go_at_call 41; (with_reducible refine (HA1.out _).mono ?_); rintro e wC ⟨rfl, eC⟩; have HHn := Lib.hid (HH.out.later eC); clear HH eC; have HH := HHn; clear HHn) | (go_at_call 41; (with_reducible refine (HA2.out _).mono ?_); rintro e wC ⟨rfl, eC⟩; have HHn := Lib.hid (HH.out.later eC); clear HH eC; have HH := HHn; clear HHn)); go_ret; exact ⟨by rw [HF.out]; rfl, HH.out.ext⟩
  · have b0 : into.toList.isEmpty = false := by
      rw [ByteArray.toList_eq, List.isEmpty_eq_false_iff]
      intro e
      have := len_data into
      rw [e] at this
      exact c1 this.symm
    clear c1
    rw [b0, Bool.not_false, Bool.true_and] at HS
    by_cases c2 : pathB into = true
    · rw [c2, Bool.true_and] at HS
      cases BG with
      | true =>
        rw [Bool.true_and] at HS
        by_cases c5 : BE = 0
        · subst c5
          rw [decide_eq_true (rfl : (0 : Int) = 0), Bool.true_and] at HS
          by_cases c6 : amt pos = true
          · rw [c6, Bool.true_and] at HS
            by_cases c7 : amt next = true
            · have HF := Lib.hid (show V = true by rw [HS.out, c7])
              simp only [Stg.cells, Rec.cells, Su.cells, List.cons_append, List.nil_append]; go_enter Tryz.func12, Tryz.ntmps12; go_upto_region 1 with fail; generalize hwH : World.alloc w _ = w1; have HH := Lib.hid (Heap.one hwH); clear hwH; go_wp2_with (first | (go_big_want; refine sh_load HH.out sizeRec (by kernel_rfl) rfl rfl 0 rfl (Nat.le_of_ble_eq_true rfl) ?_) | (go_big_want; refine sh_load1 HH.out rfl rfl 0 rfl rfl (by decide +kernel) ?_) | (refine shl_load1 HH.out rfl rfl rfl 0 rfl rfl (by decide +kernel) ?_) | (go_at_call 32; (with_reducible refine (HPa.out _).mono ?_); rintro e wC ⟨rfl, eC⟩; have HHn := Lib.hid (HH.out.later eC); clear HH eC; have HH := HHn; clear HHn) | (go_at_call 40; (with_reducible refine (HRe.out _ HH.out.ext).mono ?_); rintro e wC ⟨rfl, eC⟩; have HHn := Lib.hid (HH.out.later eC); clear HH eC; have HH := HHn; clear HHn) | (go_at_call 34; (with_reducible refine (HBk.out _ HH.out.ext).mono ?_); rintro e wC ⟨rfl, eC⟩; have HHn := Lib.hid (HH.out.later eC); clear HH eC; have HH := HHn; clear HHn) | (go_at_call 41; (with_reducible refine (HA1.out _).mono ?_); rintro e wC ⟨rfl, eC⟩; have HHn := Lib.hid (HH.out.later eC); clear HH eC; have HH := HHn; clear HHn) | (go_at_call 41; (with_reducible refine (HA2.out _).mono ?_); rintro e wC ⟨rfl, eC⟩; have HHn := Lib.hid (HH.out.later eC); clear HH eC; have HH := HHn; clear HHn)); go_ret; exact ⟨by rw [HF.out]; rfl, HH.out.ext⟩
            · rw [Bool.not_eq_true] at c7
              have HF := Lib.hid (show V = false by rw [HS.out, c7])
              simp only [Stg.cells, Rec.cells, Su.cells, List.cons_append, List.nil_append]; go_enter Tryz.func12, Tryz.ntmps12; go_upto_region 1 with fail; generalize hwH : World.alloc w _ = w1; have HH := Lib.hid (Heap.one hwH); clear hwH; go_wp2_with (first | (go_big_want; refine sh_load HH.out sizeRec (by kernel_rfl) rfl rfl 0 rfl (Nat.le_of_ble_eq_true rfl) ?_) | (go_big_want; refine sh_load1 HH.out rfl rfl 0 rfl rfl (by decide +kernel) ?_) | (refine shl_load1 HH.out rfl rfl rfl 0 rfl rfl (by decide +kernel) ?_) | (go_at_call 32; (with_reducible refine (HPa.out _).mono ?_); rintro e wC ⟨rfl, eC⟩; have HHn := Lib.hid (HH.out.later eC); clear HH eC; have HH := HHn; clear HHn) | (go_at_call 40; (with_reducible refine (HRe.out _ HH.out.ext).mono ?_); rintro e wC ⟨rfl, eC⟩; have HHn := Lib.hid (HH.out.later eC); clear HH eC; have HH := HHn; clear HHn) | (go_at_call 34; (with_reducible refine (HBk.out _ HH.out.ext).mono ?_); rintro e wC ⟨rfl, eC⟩; have HHn := Lib.hid (HH.out.later eC); clear HH eC; have HH := HHn; clear HHn) | (go_at_call 41; (with_reducible refine (HA1.out _).mono ?_); rintro e wC ⟨rfl, eC⟩; have HHn := Lib.hid (HH.out.later eC); clear HH eC; have HH := HHn; clear HHn) | (go_at_call 41; (with_reducible refine (HA2.out _).mono ?_); rintro e wC ⟨rfl, eC⟩; have HHn := Lib.hid (HH.out.later eC); clear HH eC; have HH := HHn; clear HHn)); go_ret; exact ⟨by rw [HF.out]; rfl, HH.out.ext⟩
          · rw [Bool.not_eq_true] at c6
            have HF := Lib.hid (show V = false by rw [HS.out, c6]; rfl)
            simp only [Stg.cells, Rec.cells, Su.cells, List.cons_append, List.nil_append]; go_enter Tryz.func12, Tryz.ntmps12; go_upto_region 1 with fail; generalize hwH : World.alloc w _ = w1; have HH := Lib.hid (Heap.one hwH); clear hwH; go_wp2_with (first | (go_big_want; refine sh_load HH.out sizeRec (by kernel_rfl) rfl rfl 0 rfl (Nat.le_of_ble_eq_true rfl) ?_) | (go_big_want; refine sh_load1 HH.out rfl rfl 0 rfl rfl (by decide +kernel) ?_) | (refine shl_load1 HH.out rfl rfl rfl 0 rfl rfl (by decide +kernel) ?_) | (go_at_call 32; (with_reducible refine (HPa.out _).mono ?_); rintro e wC ⟨rfl, eC⟩; have HHn := Lib.hid (HH.out.later eC); clear HH eC; have HH := HHn; clear HHn) | (go_at_call 40; (with_reducible refine (HRe.out _ HH.out.ext).mono ?_); rintro e wC ⟨rfl, eC⟩; have HHn := Lib.hid (HH.out.later eC); clear HH eC; have HH := HHn; clear HHn) | (go_at_call 34; (with_reducible refine (HBk.out _ HH.out.ext).mono ?_); rintro e wC ⟨rfl, eC⟩; have HHn := Lib.hid (HH.out.later eC); clear HH eC; have HH := HHn; clear HHn) | (go_at_call 41; (with_reducible refine (HA1.out _).mono ?_); rintro e wC ⟨rfl, eC⟩; have HHn := Lib.hid (HH.out.later eC); clear HH eC; have HH := HHn; clear HHn) | (go_at_call 41; (with_reducible refine (HA2.out _).mono ?_); rintro e wC ⟨rfl, eC⟩; have HHn := Lib.hid (HH.out.later eC); clear HH eC; have HH := HHn; clear HHn)); go_ret; exact ⟨by rw [HF.out]; rfl, HH.out.ext⟩
        · have d5 : (BE == 0) = false := by simpa using c5
          have HF := Lib.hid (show V = false by rw [HS.out, decide_eq_false c5]; rfl)
          clear c5
          simp only [Stg.cells, Rec.cells, Su.cells, List.cons_append, List.nil_append]; go_enter Tryz.func12, Tryz.ntmps12; go_upto_region 1 with fail; generalize hwH : World.alloc w _ = w1; have HH := Lib.hid (Heap.one hwH); clear hwH; go_wp2_with (first | (go_big_want; refine sh_load HH.out sizeRec (by kernel_rfl) rfl rfl 0 rfl (Nat.le_of_ble_eq_true rfl) ?_) | (go_big_want; refine sh_load1 HH.out rfl rfl 0 rfl rfl (by decide +kernel) ?_) | (refine shl_load1 HH.out rfl rfl rfl 0 rfl rfl (by decide +kernel) ?_) | (go_at_call 32; (with_reducible refine (HPa.out _).mono ?_); rintro e wC ⟨rfl, eC⟩; have HHn := Lib.hid (HH.out.later eC); clear HH eC; have HH := HHn; clear HHn) | (go_at_call 40; (with_reducible refine (HRe.out _ HH.out.ext).mono ?_); rintro e wC ⟨rfl, eC⟩; have HHn := Lib.hid (HH.out.later eC); clear HH eC; have HH := HHn; clear HHn) | (go_at_call 34; (with_reducible refine (HBk.out _ HH.out.ext).mono ?_); rintro e wC ⟨rfl, eC⟩; have HHn := Lib.hid (HH.out.later eC); clear HH eC; have HH := HHn; clear HHn) | (go_at_call 41; (with_reducible refine (HA1.out _).mono ?_); rintro e wC ⟨rfl, eC⟩; have HHn := Lib.hid (HH.out.later eC); clear HH eC; have HH := HHn; clear HHn) | (go_at_call 41; (with_reducible refine (HA2.out _).mono ?_); rintro e wC ⟨rfl, eC⟩; have HHn := Lib.hid (HH.out.later eC); clear HH eC; have HH := HHn; clear HHn)); go_ret; exact ⟨by rw [HF.out]; rfl, HH.out.ext⟩
      | false =>
        have HF := Lib.hid (show V = false by rw [HS.out]; rfl)
        simp only [Stg.cells, Rec.cells, Su.cells, List.cons_append, List.nil_append]; go_enter Tryz.func12, Tryz.ntmps12; go_upto_region 1 with fail; generalize hwH : World.alloc w _ = w1; have HH := Lib.hid (Heap.one hwH); clear hwH; go_wp2_with (first | (go_big_want; refine sh_load HH.out sizeRec (by kernel_rfl) rfl rfl 0 rfl (Nat.le_of_ble_eq_true rfl) ?_) | (go_big_want; refine sh_load1 HH.out rfl rfl 0 rfl rfl (by decide +kernel) ?_) | (refine shl_load1 HH.out rfl rfl rfl 0 rfl rfl (by decide +kernel) ?_) | (go_at_call 32; (with_reducible refine (HPa.out _).mono ?_); rintro e wC ⟨rfl, eC⟩; have HHn := Lib.hid (HH.out.later eC); clear HH eC; have HH := HHn; clear HHn) | (go_at_call 40; (with_reducible refine (HRe.out _ HH.out.ext).mono ?_); rintro e wC ⟨rfl, eC⟩; have HHn := Lib.hid (HH.out.later eC); clear HH eC; have HH := HHn; clear HHn) | (go_at_call 34; (with_reducible refine (HBk.out _ HH.out.ext).mono ?_); rintro e wC ⟨rfl, eC⟩; have HHn := Lib.hid (HH.out.later eC); clear HH eC; have HH := HHn; clear HHn) | (go_at_call 41; (with_reducible refine (HA1.out _).mono ?_); rintro e wC ⟨rfl, eC⟩; have HHn := Lib.hid (HH.out.later eC); clear HH eC; have HH := HHn; clear HHn) | (go_at_call 41; (with_reducible refine (HA2.out _).mono ?_); rintro e wC ⟨rfl, eC⟩; have HHn := Lib.hid (HH.out.later eC); clear HH eC; have HH := HHn; clear HHn)); go_ret; exact ⟨by rw [HF.out]; rfl, HH.out.ext⟩
    · rw [Bool.not_eq_true] at c2
      have HF := Lib.hid (show V = false by rw [HS.out, c2]; rfl)
      simp only [Stg.cells, Rec.cells, Su.cells, List.cons_append, List.nil_append]; go_enter Tryz.func12, Tryz.ntmps12; go_upto_region 1 with fail; generalize hwH : World.alloc w _ = w1; have HH := Lib.hid (Heap.one hwH); clear hwH; go_wp2_with (first | (go_big_want; refine sh_load HH.out sizeRec (by kernel_rfl) rfl rfl 0 rfl (Nat.le_of_ble_eq_true rfl) ?_) | (go_big_want; refine sh_load1 HH.out rfl rfl 0 rfl rfl (by decide +kernel) ?_) | (refine shl_load1 HH.out rfl rfl rfl 0 rfl rfl (by decide +kernel) ?_) | (go_at_call 32; (with_reducible refine (HPa.out _).mono ?_); rintro e wC ⟨rfl, eC⟩; have HHn := Lib.hid (HH.out.later eC); clear HH eC; have HH := HHn; clear HHn) | (go_at_call 40; (with_reducible refine (HRe.out _ HH.out.ext).mono ?_); rintro e wC ⟨rfl, eC⟩; have HHn := Lib.hid (HH.out.later eC); clear HH eC; have HH := HHn; clear HHn) | (go_at_call 34; (with_reducible refine (HBk.out _ HH.out.ext).mono ?_); rintro e wC ⟨rfl, eC⟩; have HHn := Lib.hid (HH.out.later eC); clear HH eC; have HH := HHn; clear HHn) | (go_at_call 41; (with_reducible refine (HA1.out _).mono ?_); rintro e wC ⟨rfl, eC⟩; have HHn := Lib.hid (HH.out.later eC); clear HH eC; have HH := HHn; clear HHn) | (go_at_call 41; (with_reducible refine (HA2.out _).mono ?_); rintro e wC ⟨rfl, eC⟩; have HHn := Lib.hid (HH.out.later eC); clear HH eC; have HH := HHn; clear HHn)); go_ret; exact ⟨by rw [HF.out]; rfl, HH.out.ext⟩

def sumEq (x y : Su) : Bool := x.a == y.a && (x.b == y.b && (x.c == y.c && x.d == y.d))
def sameR (x y : Rec) : Bool :=
  x.kind == y.kind && (x.name.toList == y.name.toList && (x.frm == y.frm && (x.guid == y.guid && (x.index == y.index && (x.count == y.count && (x.data.toList == y.data.toList && (sumEq (sumR x) (sumR y) && decide (x.own = y.own))))))))
set_option maxRecDepth 100000 in
set_option maxHeartbeats 8000000 in
theorem samerec_any (w : World) (x y : Rec) (hx : Rd w 0 w.heap.size x.oA (prps x.own)) (hxn : x.on = x.own.length) (hxm : x.on ≤ 100000000) (hy : Rd w 0 w.heap.size y.oA (prps y.own)) (hyn : y.on = y.own.length) (hym : y.on ≤ 100000000) :
    Calls Tryz.prog 42 #[.agg x.cells.toArray, .agg y.cells.toArray] w fun e w' => e = .returned (.bool (sameR x y)) ∧ Ext w w' := by
  have HP := Lib.hid (fun W (hW : Ext w W) => rpsame_any W x.oA y.oA x.on y.on x.oc y.oc x.own y.own hxn hyn (by omega) (by omega) (Rd.at hx hW (Nat.le_refl _)) (Rd.at hy hW (Nat.le_refl _)))
  have HS := Lib.hid (show sameR x y = (x.kind == y.kind && (x.name.toList == y.name.toList && (x.frm == y.frm && (x.guid == y.guid && (x.index == y.index && (x.count == y.count && (x.data.toList == y.data.toList && (sumEq (sumR x) (sumR y) && decide (x.own = y.own))))))))) from rfl)
  clear hx hxn hxm hy hyn hym
  generalize sameR x y = V at *
  obtain ⟨kind, name, frm, guid, oA, on, oc, own, index, count, data, s0, s1, s2, s3⟩ := x
  obtain ⟨kind', name', frm', guid', oA', on', oc', own', index', count', data', t0, t1, t2, t3⟩ := y
  dsimp only at HP
  simp only [sumEq, sumR] at HS
  generalize decide (own = own') = D at HP HS
  simp only [Rec.cells]
  go_enter Tryz.func42, Tryz.ntmps42
  go_upto_region 1 with fail
  generalize hwH : World.alloc (World.alloc w _) _ = w1; have HH := Lib.hid (Heap.two hwH); clear hwH
  obtain ⟨g0, g1, g2, g3, g4, g5, g6, g7, g8, g9, g10, g11⟩ := bx12 (HH.out.boxAt 1 rfl) w1 (Ext.refl _)
  obtain ⟨k0, k1, k2, k3, k4, k5, k6, k7, k8, k9, k10, k11⟩ := bx12 (HH.out.boxAt 0 rfl) w1 (Ext.refl _)
  go_wp2_with (go_at_call 24; refine (HP.out w1 HH.out.ext).mono ?_; rintro e wC ⟨rfl, eC⟩)
  all_goals (go_ret; refine ⟨retB ?_, (by first | exact HH.out.ext | exact HH.out.ext.trans eC)⟩; rw [HS.out]; (first | (simp [*]; done) | trace_state))

/-- a stage whose rows read -/
structure Stg.rd (w : World) (x : Stg) : Prop where
  begR : Rd w 0 w.heap.size x.beg.oA (prps x.beg.own)
  begL : x.beg.on = x.beg.own.length
  begN : x.beg.on ≤ 100000000
  bodyN : x.bn = x.body.length
  bodyM : x.bn ≤ 200000000
  bodyR : Rd w 0 w.heap.size x.bA (blks x.body)
theorem Stg.ok.rd {w : World} {x : Stg} (h : x.ok w) : x.rd w := ⟨h.begR, h.beg.own, h.begN, h.bodyN, by have := h.bodyM; omega, h.bodyR⟩
theorem Stg.rd.ext {w w' : World} {x : Stg} (h : x.rd w) (e : Ext w w') : x.rd w' := ⟨Rd.at h.begR e (Nat.le_refl _), h.begL, h.begN, h.bodyN, h.bodyM, Rd.at h.bodyR e (Nat.le_refl _)⟩
def sameS (x y : Stg) : Bool :=
  x.into.toList == y.into.toList && (sameR x.beg y.beg && (decide (x.body = y.body) && (x.pos == y.pos && (x.next == y.next && (sumEq x.su y.su && x.done == y.done)))))
set_option maxRecDepth 100000 in
set_option maxHeartbeats 8000000 in
theorem samestage_any (w : World) (x y : Stg) (hx : x.rd w) (hy : y.rd w) :
    Calls Tryz.prog 13 #[.agg x.cells.toArray, .agg y.cells.toArray] w fun e w' => e = .returned (.bool (sameS x y)) ∧ Ext w w' := by
  have HR := Lib.hid (fun W (hW : Ext w W) => samerec_any W x.beg y.beg (Rd.at hx.begR hW (Nat.le_refl _)) hx.begL hx.begN (Rd.at hy.begR hW (Nat.le_refl _)) hy.begL hy.begN)
  have HB := Lib.hid (fun W (hW : Ext w W) => rsame_any W x.bA y.bA x.bn y.bn x.bc y.bc x.body y.body hx.bodyN hy.bodyN (by have := hx.bodyM; omega) (by have := hy.bodyM; omega) (Rd.at hx.bodyR hW (Nat.le_refl _)) (Rd.at hy.bodyR hW (Nat.le_refl _)))
  have HS := Lib.hid (show sameS x y = (x.into.toList == y.into.toList && (sameR x.beg y.beg && (decide (x.body = y.body) && (x.pos == y.pos && (x.next == y.next && (sumEq x.su y.su && x.done == y.done)))))) from rfl)
  clear hx hy
  generalize sameS x y = V at *
  generalize sameR x.beg y.beg = RB at *
  generalize decide (x.body = y.body) = DB at *
  obtain ⟨into, ⟨kind, name, frm, guid, oA, on, oc, own, index, count, data, s0, s1, s2, s3⟩, bA, bn, bc, body, pos, next, ⟨ua, ub, uc, ud⟩, dn⟩ := x
  obtain ⟨into', ⟨kind', name', frm', guid', oA', on', oc', own', index', count', data', t0, t1, t2, t3⟩, bA', bn', bc', body', pos', next', ⟨ua', ub', uc', ud'⟩, dn'⟩ := y
  dsimp only at HB
  simp only [Rec.cells] at HR
  simp only [sumEq] at HS
  simp only [Stg.cells, Rec.cells, Su.cells, List.cons_append, List.nil_append]
  go_enter Tryz.func13, Tryz.ntmps13
  go_upto_region 1 with fail
  generalize hwH : World.alloc (World.alloc w _) _ = w1; have HH := Lib.hid (Heap.two hwH); clear hwH
  obtain ⟨g0, g1, g2, g3, g4, g5, g6, g7, g8, g9, g10, g11, g12, g13, g14, g15, g16, g17, g18, g19, g20⟩ := bx21 (HH.out.boxAt 1 rfl) w1 (Ext.refl _)
  obtain ⟨k0, k1, k2, k3, k4, k5, k6, k7, k8, k9, k10, k11, k12, k13, k14, k15, k16, k17, k18, k19, k20⟩ := bx21 (HH.out.boxAt 0 rfl) w1 (Ext.refl _)
  go_wp2_with (first
    | (go_at_call 42; (with_reducible refine (HR.out w1 HH.out.ext).mono ?_); rintro e wa ⟨rfl, ea⟩; clear g0 g1 g2 g3 g4 g5 g6 g7 g8 g9 g10 g11 g12 g13 g14 g15 g16 g17 g18 g19 g20 k0 k1 k2 k3 k4 k5 k6 k7 k8 k9 k10 k11 k12 k13 k14 k15 k16 k17 k18 k19 k20; obtain ⟨g0, g1, g2, g3, g4, g5, g6, g7, g8, g9, g10, g11, g12, g13, g14, g15, g16, g17, g18, g19, g20⟩ := bx21 (HH.out.boxAt 1 rfl) wa ea; obtain ⟨k0, k1, k2, k3, k4, k5, k6, k7, k8, k9, k10, k11, k12, k13, k14, k15, k16, k17, k18, k19, k20⟩ := bx21 (HH.out.boxAt 0 rfl) wa ea)
    | (go_at_call 22; (with_reducible refine (HB.out _ (HH.out.ext.trans ea)).mono ?_); rintro e wb ⟨rfl, eb⟩; clear g0 g1 g2 g3 g4 g5 g6 g7 g8 g9 g10 g11 g12 g13 g14 g15 g16 g17 g18 g19 g20 k0 k1 k2 k3 k4 k5 k6 k7 k8 k9 k10 k11 k12 k13 k14 k15 k16 k17 k18 k19 k20; obtain ⟨g0, g1, g2, g3, g4, g5, g6, g7, g8, g9, g10, g11, g12, g13, g14, g15, g16, g17, g18, g19, g20⟩ := bx21 (HH.out.boxAt 1 rfl) wb (ea.trans eb); obtain ⟨k0, k1, k2, k3, k4, k5, k6, k7, k8, k9, k10, k11, k12, k13, k14, k15, k16, k17, k18, k19, k20⟩ := bx21 (HH.out.boxAt 0 rfl) wb (ea.trans eb)))
  all_goals (go_ret; refine ⟨retB ?_, (by first | exact HH.out.ext | exact HH.out.ext.trans ea | exact HH.out.ext.trans (ea.trans eb))⟩; rw [HS.out]; (first | (simp [*]; done) | trace_state))
end Go.Proofs.YtmecjjmlccdppaaGreatDoor
/- staging.Start: the walk. -/
namespace Go.Proofs.YtmecjjmlccdppaaGreatDoor
open Go.RowKit
set_option linter.unusedVariables false
set_option linter.unusedSimpArgs false

def Rec.bare (x : Rec) : Rec := { x with oA := none, on := 0, oc := 0 }
def Stg.bare (x : Stg) : Stg := { x with bA := none, bn := 0, bc := 0, beg := x.beg.bare }
def zeroR' : Rec := ⟨0, ⟨#[]⟩, 0, 0, none, 0, 0, [], 0, 0, ⟨#[]⟩, 0, 0, 0, 0⟩
def zeroS : Stg := ⟨⟨#[]⟩, zeroR', none, 0, 0, [], 0, 0, Su.zero, false⟩
theorem same_bare (x y : Stg) (h : x.bare = y.bare) : sameS x y = true := by
  obtain ⟨into, ⟨kind, name, frm, guid, oA, on, oc, own, index, count, data, s0, s1, s2, s3⟩, bA, bn, bc, body, pos, next, ⟨ua, ub, uc, ud⟩, dn⟩ := x
  obtain ⟨into', ⟨kind', name', frm', guid', oA', on', oc', own', index', count', data', t0, t1, t2, t3⟩, bA', bn', bc', body', pos', next', ⟨ua', ub', uc', ud'⟩, dn'⟩ := y
  simp only [Stg.bare, Rec.bare, Stg.mk.injEq, Rec.mk.injEq, Su.mk.injEq] at h
  obtain ⟨rfl, ⟨rfl, rfl, rfl, rfl, -, -, -, rfl, rfl, rfl, rfl, rfl, rfl, rfl, rfl⟩, -, -, -, rfl, rfl, rfl, ⟨rfl, rfl, rfl, rfl⟩, rfl⟩ := h
  simp [sameS, sameR, sumEq, sumR]
/-- a stage and an error are told; the content's memory, if fr, is not the caller's -/
def StOut (w : World) (A : Stg) (E : Int) (fr : Bool) (e : Ending) (w' : World) : Prop :=
  ∃ y : Stg, e = .returned (.tuple #[.agg y.cells.toArray, .int .i64 E]) ∧ y.bare = A ∧ y.rd w' ∧ (fr = true → Rd w' w.heap.size w'.heap.size y.bA (blks y.body) ∧ Rd w' w.heap.size w'.heap.size y.beg.oA (prps y.beg.own)) ∧ Ext w w'
theorem stout_zero {w w' : World} {E : Int} {fr : Bool} (e : Ext w w') : StOut w zeroS E fr (.returned (.tuple #[.agg zeroS.cells.toArray, .int .i64 E])) w' :=
  ⟨zeroS, rfl, rfl, ⟨fun h => absurd rfl h, rfl, Nat.zero_le _, rfl, Nat.zero_le _, fun h => absurd rfl h⟩, fun _ => ⟨fun h => absurd rfl h, fun h => absurd rfl h⟩, e⟩
def startE (into : ByteArray) (r : Rec) (base : List Blk) (raw : Int) : Int :=
  if into.size = 0 then 31 else if pathB into = false then 31 else if recE r ≠ 0 then recE r else if r.kind ≠ 1 then 35 else if bkE base ≠ 0 then 9
  else if amt raw = false then 4 else if amt (raw + ((encB r).length : Int)) = false then 4 else 0
def startA (into : ByteArray) (r : Rec) (base : List Blk) (raw : Int) : Stg :=
  if startE into r base raw = 0 then ⟨into, r.bare, none, 0, 0, base, raw + ((encB r).length : Int), 0, feed Su.zero (encB r), false⟩ else zeroS
theorem zero_of_ne {A B : Stg} {V : Int} (h : A = if V = 0 then B else zeroS) (hV : V ≠ 0) : A = zeroS := by rw [h, if_neg hV]

set_option maxRecDepth 100000 in
set_option maxHeartbeats 8000000 in
theorem start_any (w : World) (hM : MaxV w) (into : ByteArray) (hin : into.size ≤ 100000000) (r : Rec) (hr : Rd w 0 w.heap.size r.oA (prps r.own)) (hx : r.wf) (hon : r.on ≤ 100000000) (hs : (sumR r).wf)
    (bA : Option Addr) (bn bc : Nat) (base : List Blk) (hbn : bn = base.length) (hbm : bn ≤ 100000000) (hbr : Rd w 0 w.heap.size bA (blks base)) (hbw : ∀ y ∈ base, y.wf) (raw : Int) (hw1 : -9223372036854775808 ≤ raw) (hw2 : raw ≤ 9223372036854775807) :
    Calls Tryz.prog 7 #[.string into, .agg r.cells.toArray, .slice bA bn bc, .int .i64 raw] w (StOut w (startA into r base raw) (startE into r base raw) true) := by
  have HPa := Lib.hid (fun W (hW : Ext w W) => path_any into W (hM.ext hW) (by omega))
  have HRe := Lib.hid (fun W (hW : Ext w W) => check_any W r (Rd.at hr hW (Nat.le_refl _)) hx)
  have HBk := Lib.hid (fun W (hW : Ext w W) => bcheck_any W bA bn bc base hbn (by omega) (Rd.at hbr hW (Nat.le_refl _)) hbw)
  have HAm := Lib.hid (fun W => amount_any W raw hw1 hw2)
  have HV := Lib.hid (show startE into r base raw = if into.size = 0 then 31 else if pathB into = false then 31 else if recE r ≠ 0 then recE r else if r.kind ≠ 1 then 35 else if bkE base ≠ 0 then 9
    else if amt raw = false then 4 else if amt (raw + ((encB r).length : Int)) = false then 4 else 0 from rfl)
  have HSA := Lib.hid (show startA into r base raw = if startE into r base raw = 0 then ⟨into, r.bare, none, 0, 0, base, raw + ((encB r).length : Int), 0, feed Su.zero (encB r), false⟩ else zeroS from rfl)
  have HRaw := Lib.hid (fun (its : List It) (W : World) (H : Heap w its W) (b : Nat) (y : Stg) (hi : its[0]? = some (.box b y.cells)) (hy1 : 0 ≤ y.pos) (hy2 : y.pos ≤ 1099511627776) => raw_any W H b 0 y hi hy1 hy2 r (Rd.at hr H.ext (Nat.le_refl _)) hx hon hs)
  have HPc := Lib.hid (fun W (hW : Ext w W) => pclone_any W r.oA r.on r.oc r.own hx.own (Rd.at hr hW (Nat.le_refl _)) (by omega))
  have HBc := Lib.hid (fun W (hW : Ext w W) => bclone_any W bA bn bc base hbn (Rd.at hbr hW (Nat.le_refl _)) (by omega))
  have HBE := Lib.hid (bkE_cases base)
  have HBn := Lib.hid hbn
  have HOn := Lib.hid hx.own
  have HLn := Lib.hid (encB_len r)
  have hon' := hon
  clear hr hx hs hbn hbr hbw hon
  generalize startE into r base raw = V at *
  generalize startA into r base raw = SA at *
  obtain ⟨q, hq⟩ : ∃ q, q = feed Su.zero (encB r) := ⟨_, rfl⟩
  rw [← hq] at HSA
  have HQ0 := Lib.hid hq
  clear hq
  generalize encB r = B at *
  generalize recE r = RE at *
  generalize bkE base = BE at *
  obtain ⟨kind, name, frm, guid, oA, on, oc, own, index, count, data, s0, s1, s2, s3⟩ := r
  dsimp only at HV HPc HOn hon'
  simp only [Rec.cells] at HRe ⊢
  by_cases c1 : into.size = 0
  · have HF := Lib.hid (show V = 31 by rw [HV.out, if_pos c1])
    obtain rfl := empty_of into c1
    clear c1
    have HG := Lib.hid (show SA = zeroS by rw [HSA.out, HF.out]; rfl); go_enter Tryz.func7, Tryz.ntmps7; go_upto_region 1 with fail; generalize hwH : World.alloc (World.alloc w _) _ = w1; have HH := Lib.hid (Heap.two hwH); clear hwH; go_wp2_with (first | (refine shl_load HH.out sizeRec (by kernel_rfl) rfl rfl rfl 1 rfl rfl ?_) | (refine shl_store HH.out sizeStg rfl rfl rfl rfl 0 rfl rfl rfl rfl ?_; clear HH; intro wS HHS; have HH := Lib.hid HHS; clear HHS) | (refine shl_load1 HH.out rfl rfl rfl 1 rfl rfl (by decide +kernel) ?_) | (go_at_call 25; (with_reducible refine (HPa.out _ HH.out.ext).mono ?_); rintro e wC ⟨rfl, eC⟩; have HHn := Lib.hid (HH.out.later eC); clear HH eC; have HH := HHn; clear HHn) | (go_at_call 26; (with_reducible refine (HRe.out _ HH.out.ext).mono ?_); rintro e wC ⟨rfl, eC⟩; have HHn := Lib.hid (HH.out.later eC); clear HH eC; have HH := HHn; clear HHn) | (go_at_call 27; (with_reducible refine (HBk.out _ HH.out.ext).mono ?_); rintro e wC ⟨rfl, eC⟩; have HHn := Lib.hid (HH.out.later eC); clear HH eC; have HH := HHn; clear HHn) | (go_at_call 28; (with_reducible refine (HAm.out _).mono ?_); rintro e wC ⟨rfl, eC⟩; have HHn := Lib.hid (HH.out.later eC); clear HH eC; have HH := HHn; clear HHn)); refine ret_cell2 sizeStg (by kernel_rfl) HH.out rfl rfl rfl 0 rfl rfl rfl ?_; rw [HF.out, HG.out]; exact stout_zero HH.out.ext
  · rw [if_neg c1] at HV
    have b0 : into.toList.isEmpty = false := by
      rw [ByteArray.toList_eq, List.isEmpty_eq_false_iff]
      intro e
      have := len_data into
      rw [e] at this
      exact c1 this.symm
    clear c1
    by_cases c2 : pathB into = false
    · have HF := Lib.hid (show V = 31 by rw [HV.out, if_pos c2])
      have HG := Lib.hid (show SA = zeroS by rw [HSA.out, HF.out]; rfl); go_enter Tryz.func7, Tryz.ntmps7; go_upto_region 1 with fail; generalize hwH : World.alloc (World.alloc w _) _ = w1; have HH := Lib.hid (Heap.two hwH); clear hwH; go_wp2_with (first | (refine shl_load HH.out sizeRec (by kernel_rfl) rfl rfl rfl 1 rfl rfl ?_) | (refine shl_store HH.out sizeStg rfl rfl rfl rfl 0 rfl rfl rfl rfl ?_; clear HH; intro wS HHS; have HH := Lib.hid HHS; clear HHS) | (refine shl_load1 HH.out rfl rfl rfl 1 rfl rfl (by decide +kernel) ?_) | (go_at_call 25; (with_reducible refine (HPa.out _ HH.out.ext).mono ?_); rintro e wC ⟨rfl, eC⟩; have HHn := Lib.hid (HH.out.later eC); clear HH eC; have HH := HHn; clear HHn) | (go_at_call 26; (with_reducible refine (HRe.out _ HH.out.ext).mono ?_); rintro e wC ⟨rfl, eC⟩; have HHn := Lib.hid (HH.out.later eC); clear HH eC; have HH := HHn; clear HHn) | (go_at_call 27; (with_reducible refine (HBk.out _ HH.out.ext).mono ?_); rintro e wC ⟨rfl, eC⟩; have HHn := Lib.hid (HH.out.later eC); clear HH eC; have HH := HHn; clear HHn) | (go_at_call 28; (with_reducible refine (HAm.out _).mono ?_); rintro e wC ⟨rfl, eC⟩; have HHn := Lib.hid (HH.out.later eC); clear HH eC; have HH := HHn; clear HHn)); refine ret_cell2 sizeStg (by kernel_rfl) HH.out rfl rfl rfl 0 rfl rfl rfl ?_; rw [HF.out, HG.out]; exact stout_zero HH.out.ext
    · rw [if_neg c2] at HV
      rw [Bool.not_eq_false] at c2
      by_cases c3 : RE = 0
      · rw [if_neg (by simpa using c3)] at HV
        subst c3
        by_cases c4 : kind = 1
        · rw [if_neg (by simpa using c4)] at HV
          subst c4
          by_cases c5 : BE = 0
          · rw [if_neg (by simpa using c5)] at HV
            subst c5
            by_cases c6 : amt raw = false
            · have HF := Lib.hid (show V = 4 by rw [HV.out, if_pos c6])
              have HG := Lib.hid (show SA = zeroS by rw [HSA.out, HF.out]; rfl); go_enter Tryz.func7, Tryz.ntmps7; go_upto_region 1 with fail; generalize hwH : World.alloc (World.alloc w _) _ = w1; have HH := Lib.hid (Heap.two hwH); clear hwH; go_wp2_with (first | (refine shl_load HH.out sizeRec (by kernel_rfl) rfl rfl rfl 1 rfl rfl ?_) | (refine shl_store HH.out sizeStg rfl rfl rfl rfl 0 rfl rfl rfl rfl ?_; clear HH; intro wS HHS; have HH := Lib.hid HHS; clear HHS) | (refine shl_load1 HH.out rfl rfl rfl 1 rfl rfl (by decide +kernel) ?_) | (go_at_call 25; (with_reducible refine (HPa.out _ HH.out.ext).mono ?_); rintro e wC ⟨rfl, eC⟩; have HHn := Lib.hid (HH.out.later eC); clear HH eC; have HH := HHn; clear HHn) | (go_at_call 26; (with_reducible refine (HRe.out _ HH.out.ext).mono ?_); rintro e wC ⟨rfl, eC⟩; have HHn := Lib.hid (HH.out.later eC); clear HH eC; have HH := HHn; clear HHn) | (go_at_call 27; (with_reducible refine (HBk.out _ HH.out.ext).mono ?_); rintro e wC ⟨rfl, eC⟩; have HHn := Lib.hid (HH.out.later eC); clear HH eC; have HH := HHn; clear HHn) | (go_at_call 28; (with_reducible refine (HAm.out _).mono ?_); rintro e wC ⟨rfl, eC⟩; have HHn := Lib.hid (HH.out.later eC); clear HH eC; have HH := HHn; clear HHn)); refine ret_cell2 sizeStg (by kernel_rfl) HH.out rfl rfl rfl 0 rfl rfl rfl ?_; rw [HF.out, HG.out]; exact stout_zero HH.out.ext
            · rw [if_neg c6] at HV
              rw [Bool.not_eq_false] at c6
              go_enter Tryz.func7, Tryz.ntmps7; go_upto_region 1 with fail; generalize hwH : World.alloc (World.alloc w _) _ = w1; have HH := Lib.hid (Heap.two hwH); clear hwH
              go_upto_region 13 with (first | (refine shl_load HH.out sizeRec (by kernel_rfl) rfl rfl rfl 1 rfl rfl ?_) | (refine shl_store HH.out sizeStg rfl rfl rfl rfl 0 rfl rfl rfl rfl ?_; clear HH; intro wS HHS; have HH := Lib.hid HHS; clear HHS) | (refine shl_load1 HH.out rfl rfl rfl 1 rfl rfl (by decide +kernel) ?_) | (go_at_call 25; (with_reducible refine (HPa.out _ HH.out.ext).mono ?_); rintro e wC ⟨rfl, eC⟩; have HHn := Lib.hid (HH.out.later eC); clear HH eC; have HH := HHn; clear HHn) | (go_at_call 26; (with_reducible refine (HRe.out _ HH.out.ext).mono ?_); rintro e wC ⟨rfl, eC⟩; have HHn := Lib.hid (HH.out.later eC); clear HH eC; have HH := HHn; clear HHn) | (go_at_call 27; (with_reducible refine (HBk.out _ HH.out.ext).mono ?_); rintro e wC ⟨rfl, eC⟩; have HHn := Lib.hid (HH.out.later eC); clear HH eC; have HH := HHn; clear HHn) | (go_at_call 28; (with_reducible refine (HAm.out _).mono ?_); rintro e wC ⟨rfl, eC⟩; have HHn := Lib.hid (HH.out.later eC); clear HH eC; have HH := HHn; clear HHn))
              go_wp2_with fail
              refine (HBc.out _ HH.out.ext).mono ?_
              rintro e w5 ⟨v5, rfl, hown5, e5⟩
              obtain ⟨A5, d5, rfl, k1, k2, _⟩ := own_form hown5
              have HH5 := Lib.hid (HH.out.addRow e5 hown5)
              clear HH hown5 e5
              go_upto_region 14 with fail
              generalize hwA : World.alloc _ _ = w6
              have HH := Lib.hid (HH5.out.allocE hwA)
              clear hwA HH5
              go_wp2_with (refine shl_load HH.out sizeRec (by kernel_rfl) rfl rfl rfl 3 rfl rfl ?_)
              have hb := c6
              simp only [amt, Bool.and_eq_true, decide_eq_true_eq] at hb
              refine (HRaw.out _ _ HH.out _ ⟨into, zeroR', A5, bn, d5, base, raw, 0, Su.zero, false⟩ rfl hb.1 hb.2).mono ?_
              rintro e w7 ⟨rfl, h7⟩
              obtain ⟨m, hm⟩ : ∃ m : Int, m = (B.length : Int) := ⟨_, rfl⟩
              rw [← hm] at h7 HV HSA
              have hm2 : 0 ≤ m ∧ m ≤ 1000 := by have := HLn.out; omega
              clear hm
              have HQ := Lib.hid (show q = feed Su.zero B from HQ0.out)
              have HH7 := Lib.hid (show Heap w [.box w5.heap.size [.string into, .int .i64 0, .string ⟨#[]⟩, .int .i64 0, .int .i64 0, .slice none 0 0, .int .i64 0, .int .i64 0, .string ⟨#[]⟩, .int .u64 0, .int .u64 0, .int .u64 0, .int .u64 0, .slice A5 bn d5, .int .i64 (raw + m), .int .i64 0, .int .u64 q.a, .int .u64 q.b, .int .u64 q.c, .int .u64 q.d, .bool false], _, _, _] w7 from by rw [HQ.out]; exact h7)
              clear HH h7
              have HH := HH7
              clear HH7
              have HA2 := Lib.hid (fun W => amount_any W (raw + m) (by omega) (by omega))
              by_cases c7 : amt (raw + m) = false
              · have HF := Lib.hid (show V = 4 by rw [HV.out, if_pos c7])
                have HG := Lib.hid (show SA = zeroS by rw [HSA.out, HF.out]; rfl)
                go_wp2_with (first | (refine shl_load1 HH.out rfl rfl rfl 0 rfl rfl (by decide +kernel) ?_) | (go_at_call 28; (with_reducible refine (HA2.out _).mono ?_); rintro e wC ⟨rfl, eC⟩; have HHn := Lib.hid (HH.out.later eC); clear HH eC; have HH := HHn; clear HHn) | (refine shl_store HH.out sizeStg rfl rfl rfl rfl 2 rfl rfl rfl rfl ?_; clear HH; intro wS HHS; have HH := Lib.hid HHS; clear HHS))
                refine ret_cell2 sizeStg (by kernel_rfl) HH.out rfl rfl rfl 2 rfl rfl rfl ?_
                rw [HF.out, HG.out]
                exact stout_zero HH.out.ext
              · rw [if_neg c7] at HV
                rw [Bool.not_eq_false] at c7
                go_upto_region 17 with (first | (refine shl_load1 HH.out rfl rfl rfl 0 rfl rfl (by decide +kernel) ?_) | (go_at_call 28; (with_reducible refine (HA2.out _).mono ?_); rintro e wC ⟨rfl, eC⟩; have HHn := Lib.hid (HH.out.later eC); clear HH eC; have HH := HHn; clear HHn))
                go_wp2_with (refine shl_load1 HH.out rfl rfl rfl 3 rfl rfl (by decide +kernel) ?_)
                refine (HPc.out _ HH.out.ext).mono ?_
                rintro e w9 ⟨v9, rfl, hown9, e9⟩
                obtain ⟨A9, d9, rfl, k3, k4, _⟩ := own_form hown9
                have HH9 := Lib.hid (HH.out.addRow e9 hown9)
                clear HH hown9 e9
                have HH := HH9
                clear HH9
                go_wp2_with (first | (refine shl_load HH.out sizeStg (by kernel_rfl) rfl rfl rfl 1 rfl rfl ?_) | (refine shl_load HH.out sizeRec (by kernel_rfl) rfl rfl rfl 4 rfl rfl ?_) | (refine shl_store HH.out sizeStg rfl rfl rfl rfl 3 rfl rfl rfl rfl ?_; clear HH; intro wS HHS; have HH := Lib.hid HHS; clear HHS) | (refine shl_store HH.out sizeRec rfl rfl rfl rfl 1 rfl rfl rfl rfl ?_; clear HH; intro wS HHS; have HH := Lib.hid HHS; clear HHS) | (refine shl_store1 HH.out rfl rfl rfl rfl 4 rfl rfl rfl (by kernel_rfl) ?_; clear HH; intro wS HHS; have HH := Lib.hid HHS; clear HHS))
                have HF := Lib.hid (show V = 0 by rw [HV.out])
                have HG := Lib.hid (HSA.out.trans (if_pos HF.out))
                refine ret_cell2 sizeStg (by kernel_rfl) HH.out rfl rfl rfl 3 rfl rfl rfl ?_
                rw [HF.out, HG.out]
                exact ⟨⟨into, ⟨1, name, frm, guid, A9, on, d9, own, index, count, data, s0, s1, s2, s3⟩, A5, bn, d5, base, raw + m, 0, q, false⟩, rfl, rfl, ⟨(Rd.of_own (HH.out.rowAt 0 rfl)).more (Nat.zero_le _) (Nat.le_refl _), HOn.out, hon', HBn.out, (by show bn ≤ 200000000; omega), (Rd.of_own (HH.out.rowAt 2 rfl)).more (Nat.zero_le _) (Nat.le_refl _)⟩, fun _ => ⟨Rd.of_own (HH.out.rowAt 2 rfl), Rd.of_own (HH.out.rowAt 0 rfl)⟩, HH.out.ext⟩
          · have HF := Lib.hid (show V = 9 by rw [HV.out, if_pos c5])
            rcases HBE.out with h9 | h9
            · exact absurd h9 c5
            subst h9
            clear c5
            have HG := Lib.hid (show SA = zeroS by rw [HSA.out, HF.out]; rfl); go_enter Tryz.func7, Tryz.ntmps7; go_upto_region 1 with fail; generalize hwH : World.alloc (World.alloc w _) _ = w1; have HH := Lib.hid (Heap.two hwH); clear hwH; go_wp2_with (first | (refine shl_load HH.out sizeRec (by kernel_rfl) rfl rfl rfl 1 rfl rfl ?_) | (refine shl_store HH.out sizeStg rfl rfl rfl rfl 0 rfl rfl rfl rfl ?_; clear HH; intro wS HHS; have HH := Lib.hid HHS; clear HHS) | (refine shl_load1 HH.out rfl rfl rfl 1 rfl rfl (by decide +kernel) ?_) | (go_at_call 25; (with_reducible refine (HPa.out _ HH.out.ext).mono ?_); rintro e wC ⟨rfl, eC⟩; have HHn := Lib.hid (HH.out.later eC); clear HH eC; have HH := HHn; clear HHn) | (go_at_call 26; (with_reducible refine (HRe.out _ HH.out.ext).mono ?_); rintro e wC ⟨rfl, eC⟩; have HHn := Lib.hid (HH.out.later eC); clear HH eC; have HH := HHn; clear HHn) | (go_at_call 27; (with_reducible refine (HBk.out _ HH.out.ext).mono ?_); rintro e wC ⟨rfl, eC⟩; have HHn := Lib.hid (HH.out.later eC); clear HH eC; have HH := HHn; clear HHn) | (go_at_call 28; (with_reducible refine (HAm.out _).mono ?_); rintro e wC ⟨rfl, eC⟩; have HHn := Lib.hid (HH.out.later eC); clear HH eC; have HH := HHn; clear HHn)); refine ret_cell2 sizeStg (by kernel_rfl) HH.out rfl rfl rfl 0 rfl rfl rfl ?_; rw [HF.out, HG.out]; exact stout_zero HH.out.ext
        · have HF := Lib.hid (show V = 35 by rw [HV.out, if_pos c4])
          have d4 : (kind != 1) = true := by simpa using c4
          clear c4
          have HG := Lib.hid (show SA = zeroS by rw [HSA.out, HF.out]; rfl); go_enter Tryz.func7, Tryz.ntmps7; go_upto_region 1 with fail; generalize hwH : World.alloc (World.alloc w _) _ = w1; have HH := Lib.hid (Heap.two hwH); clear hwH; go_wp2_with (first | (refine shl_load HH.out sizeRec (by kernel_rfl) rfl rfl rfl 1 rfl rfl ?_) | (refine shl_store HH.out sizeStg rfl rfl rfl rfl 0 rfl rfl rfl rfl ?_; clear HH; intro wS HHS; have HH := Lib.hid HHS; clear HHS) | (refine shl_load1 HH.out rfl rfl rfl 1 rfl rfl (by decide +kernel) ?_) | (go_at_call 25; (with_reducible refine (HPa.out _ HH.out.ext).mono ?_); rintro e wC ⟨rfl, eC⟩; have HHn := Lib.hid (HH.out.later eC); clear HH eC; have HH := HHn; clear HHn) | (go_at_call 26; (with_reducible refine (HRe.out _ HH.out.ext).mono ?_); rintro e wC ⟨rfl, eC⟩; have HHn := Lib.hid (HH.out.later eC); clear HH eC; have HH := HHn; clear HHn) | (go_at_call 27; (with_reducible refine (HBk.out _ HH.out.ext).mono ?_); rintro e wC ⟨rfl, eC⟩; have HHn := Lib.hid (HH.out.later eC); clear HH eC; have HH := HHn; clear HHn) | (go_at_call 28; (with_reducible refine (HAm.out _).mono ?_); rintro e wC ⟨rfl, eC⟩; have HHn := Lib.hid (HH.out.later eC); clear HH eC; have HH := HHn; clear HHn)); refine ret_cell2 sizeStg (by kernel_rfl) HH.out rfl rfl rfl 0 rfl rfl rfl ?_; rw [HF.out, HG.out]; exact stout_zero HH.out.ext
      · have HF := Lib.hid (show V = RE by rw [HV.out, if_pos c3])
        have d3 : (RE != 0) = true := by simpa using c3
        have HG := Lib.hid (zero_of_ne HSA.out (by rw [HF.out]; exact c3))
        clear c3
        go_enter Tryz.func7, Tryz.ntmps7; go_upto_region 1 with fail; generalize hwH : World.alloc (World.alloc w _) _ = w1; have HH := Lib.hid (Heap.two hwH); clear hwH
        go_wp2_with (first | (refine shl_load HH.out sizeRec (by kernel_rfl) rfl rfl rfl 1 rfl rfl ?_) | (refine shl_store HH.out sizeStg rfl rfl rfl rfl 0 rfl rfl rfl rfl ?_; clear HH; intro wS HHS; have HH := Lib.hid HHS; clear HHS) | (refine shl_load1 HH.out rfl rfl rfl 1 rfl rfl (by decide +kernel) ?_) | (go_at_call 25; (with_reducible refine (HPa.out _ HH.out.ext).mono ?_); rintro e wC ⟨rfl, eC⟩; have HHn := Lib.hid (HH.out.later eC); clear HH eC; have HH := HHn; clear HHn) | (go_at_call 26; (with_reducible refine (HRe.out _ HH.out.ext).mono ?_); rintro e wC ⟨rfl, eC⟩; have HHn := Lib.hid (HH.out.later eC); clear HH eC; have HH := HHn; clear HHn) | (go_at_call 27; (with_reducible refine (HBk.out _ HH.out.ext).mono ?_); rintro e wC ⟨rfl, eC⟩; have HHn := Lib.hid (HH.out.later eC); clear HH eC; have HH := HHn; clear HHn) | (go_at_call 28; (with_reducible refine (HAm.out _).mono ?_); rintro e wC ⟨rfl, eC⟩; have HHn := Lib.hid (HH.out.later eC); clear HH eC; have HH := HHn; clear HHn))
        refine ret_cell2 sizeStg (by kernel_rfl) HH.out rfl rfl rfl 0 rfl rfl rfl ?_
        rw [HF.out, HG.out]
        exact stout_zero HH.out.ext
end Go.Proofs.YtmecjjmlccdppaaGreatDoor
