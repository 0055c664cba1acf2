/- The texts Rchk, PathL, Shelf, Pth in one file. -/
import Derived.Test.YtmecjjmlccdppaaGreatDoorM7
import Derived.Test.YtmecjjmlccdppaaGreatDoorM10
import Derived.Deep.DeepCutAuto
import Derived.Test.YtmecjjmlccdppaaGreatDoorM5
import Derived.Lib.SplitLaws
import Derived.Shelf.Strings.Split
import Derived.Test.YtmecjjmlccdppaaGreatDoorProg
import Derived.Test.YtmecjjmlccdppaaGreatDoorM1
/- The reference's Begin and Check. -/
namespace Go.Proofs.YtmecjjmlccdppaaGreatDoor
open Go.RowKit
set_option linter.unusedSimpArgs false
set_option linter.unusedVariables false

theorem ramount_any (w : World) (a b : Int) (h1 : -9223372036854775808 ≤ a) (h2 : a ≤ 9223372036854775807) :
    Calls Tryz.prog 41 #[.int .i64 a, .int .i64 b] w fun e w' => e = .returned (.bool (decide (b ≤ a) && decide (a ≤ 1099511627776))) ∧ Ext w w' := by
  go_enter Tryz.func41, Tryz.ntmps41
  go_wp2_with fail
  all_goals (go_ret; refine ⟨retB ?_, Ext.refl _⟩; (first | (simp [*]; done) | (simp [*]; omega)))
set_option maxHeartbeats 1000000 in
theorem begin_any (w : World) (x : Rec) (hr : Rd w 0 w.heap.size x.oA (prps x.own)) (hx : x.wf) (hk : x.kind = 1) :
    Calls Tryz.prog 40 #[.agg x.cells.toArray] w fun e w' => e = .returned (.bool (mayB x)) ∧ Ext w w' := by
  have HS := Lib.hid (show mayB x = (nameB x.name && decide (0 ≤ x.frm) && decide (x.frm ≤ 1099511627776) && decide (1 ≤ x.guid) && decide (x.guid ≤ 1099511627776) && decide (prE x.own = 0) && x.index == 0 && x.count == 0 && x.data.toList == [] && sumZ x) by rw [mayB, if_pos hk])
  obtain ⟨k, n, f, g, oA, on, oc, own, i, c, d, s0, s1, s2, s3⟩ := x
  obtain ⟨⟨h1, h2⟩, ⟨h3, h4⟩, ⟨h5, h6⟩, ⟨h7, h8⟩, ⟨h9, h10⟩, h11, h12, h13, h14, h15⟩ := hx
  simp only at hk h1 h2 h3 h4 h5 h6 h7 h8 h9 h10 h11 h12 h13 h14 h15 hr
  subst hk
  have H13 := Lib.hid h13
  have H15 := Lib.hid h15
  clear h13 h15
  generalize mayB _ = b at HS
  have hp : Hid (decide (prE own = 0) = (prE own == 0)) := Lib.hid (by rw [Bool.eq_iff_iff]; simp)
  have HP := Lib.hid (fun w1 (e1 : Ext w w1) => rprops_any w1 oA on oc own H13.out h14 (Rd.at hr e1 (Nat.le_refl _)) H15.out)
  generalize prE own = pe at *
  simp only [Rec.cells]
  go_enter Tryz.func40, Tryz.ntmps40
  go_upto_region 1 with (fail)
  generalize hw1 : World.alloc w _ = w1; obtain ⟨ew1, zw1, Gw1⟩ := box_cells hw1; have gw1_0 := Gw1 0 _ rfl; have gw1_1 := Gw1 1 _ rfl; have gw1_2 := Gw1 2 _ rfl; have gw1_3 := Gw1 3 _ rfl; have gw1_4 := Gw1 4 _ rfl; have gw1_5 := Gw1 5 _ rfl; have gw1_6 := Gw1 6 _ rfl; have gw1_7 := Gw1 7 _ rfl; have gw1_8 := Gw1 8 _ rfl; have gw1_9 := Gw1 9 _ rfl; have gw1_10 := Gw1 10 _ rfl; have gw1_11 := Gw1 11 _ rfl; have Zw1 := Lib.hid zw1; clear zw1 hw1 Gw1; have rw1 := Ext.refl w1
  go_wp2_with (first
    | (go_at_call 61; (with_reducible refine (rname_any n _ h11).mono ?_); rintro e wa ⟨rfl, ea⟩; have xa : Ext w1 wa := (by (repeat (first | exact Below.refl _ _ | exact Ext.refl _ | assumption | refine Below.drew ?_ | refine below_drewN ?_ _ | refine below_alloc ?_ (by first | exact Nat.le_refl _ | assumption | (simp; done) | omega | (simp; omega)) _ | refine below_ext ?_ (by assumption) (by first | exact Nat.le_refl _ | assumption | (simp; done) | omega | (simp; omega)) | refine Ext.drew ?_ | refine Ext.drewN ?_ _ | refine Ext.alloc ?_ _ | refine Ext.setCell ?_ (by first | assumption | (simp; done) | (simp; omega)) _ | refine Below.setCell ?_ (by first | assumption | (simp; done) | (simp; omega)) _ | refine Ext.trans ?_ (by assumption)))))
    | (go_at_call 41; (with_reducible refine (ramount_any _ f 0 h1 h2).mono ?_); rintro e wb ⟨rfl, eb⟩; have xb : Ext w1 wb := (by (repeat (first | exact Below.refl _ _ | exact Ext.refl _ | assumption | refine Below.drew ?_ | refine below_drewN ?_ _ | refine below_alloc ?_ (by first | exact Nat.le_refl _ | assumption | (simp; done) | omega | (simp; omega)) _ | refine below_ext ?_ (by assumption) (by first | exact Nat.le_refl _ | assumption | (simp; done) | omega | (simp; omega)) | refine Ext.drew ?_ | refine Ext.drewN ?_ _ | refine Ext.alloc ?_ _ | refine Ext.setCell ?_ (by first | assumption | (simp; done) | (simp; omega)) _ | refine Below.setCell ?_ (by first | assumption | (simp; done) | (simp; omega)) _ | refine Ext.trans ?_ (by assumption)))))
    | (go_at_call 41; (with_reducible refine (ramount_any _ g 1 h3 h4).mono ?_); rintro e wc ⟨rfl, ec⟩; have xc : Ext w1 wc := (by (repeat (first | exact Below.refl _ _ | exact Ext.refl _ | assumption | refine Below.drew ?_ | refine below_drewN ?_ _ | refine below_alloc ?_ (by first | exact Nat.le_refl _ | assumption | (simp; done) | omega | (simp; omega)) _ | refine below_ext ?_ (by assumption) (by first | exact Nat.le_refl _ | assumption | (simp; done) | omega | (simp; omega)) | refine Ext.drew ?_ | refine Ext.drewN ?_ _ | refine Ext.alloc ?_ _ | refine Ext.setCell ?_ (by first | assumption | (simp; done) | (simp; omega)) _ | refine Below.setCell ?_ (by first | assumption | (simp; done) | (simp; omega)) _ | refine Ext.trans ?_ (by assumption)))))
    | (go_at_call 52; refine (HP.out _ (by (repeat (first | exact Below.refl _ _ | exact Ext.refl _ | assumption | refine Below.drew ?_ | refine below_drewN ?_ _ | refine below_alloc ?_ (by first | exact Nat.le_refl _ | assumption | (simp; done) | omega | (simp; omega)) _ | refine below_ext ?_ (by assumption) (by first | exact Nat.le_refl _ | assumption | (simp; done) | omega | (simp; omega)) | refine Ext.drew ?_ | refine Ext.drewN ?_ _ | refine Ext.alloc ?_ _ | refine Ext.setCell ?_ (by first | assumption | (simp; done) | (simp; omega)) _ | refine Below.setCell ?_ (by first | assumption | (simp; done) | (simp; omega)) _ | refine Ext.trans ?_ (by assumption))))).mono ?_; rintro e wd ⟨rfl, ed⟩; have xd : Ext w1 wd := (by (repeat (first | exact Below.refl _ _ | exact Ext.refl _ | assumption | refine Below.drew ?_ | refine below_drewN ?_ _ | refine below_alloc ?_ (by first | exact Nat.le_refl _ | assumption | (simp; done) | omega | (simp; omega)) _ | refine below_ext ?_ (by assumption) (by first | exact Nat.le_refl _ | assumption | (simp; done) | omega | (simp; omega)) | refine Ext.drew ?_ | refine Ext.drewN ?_ _ | refine Ext.alloc ?_ _ | refine Ext.setCell ?_ (by first | assumption | (simp; done) | (simp; omega)) _ | refine Below.setCell ?_ (by first | assumption | (simp; done) | (simp; omega)) _ | refine Ext.trans ?_ (by assumption))))))
  all_goals (go_ret; refine ⟨retB ?_, by (repeat (first | exact Below.refl _ _ | exact Ext.refl _ | assumption | refine Below.drew ?_ | refine below_drewN ?_ _ | refine below_alloc ?_ (by first | exact Nat.le_refl _ | assumption | (simp; done) | omega | (simp; omega)) _ | refine below_ext ?_ (by assumption) (by first | exact Nat.le_refl _ | assumption | (simp; done) | omega | (simp; omega)) | refine Ext.drew ?_ | refine Ext.drewN ?_ _ | refine Ext.alloc ?_ _ | refine Ext.setCell ?_ (by first | assumption | (simp; done) | (simp; omega)) _ | refine Below.setCell ?_ (by first | assumption | (simp; done) | (simp; omega)) _ | refine Ext.trans ?_ (by assumption)))⟩; rw [HS.out]; (first | (simp [*, sumZ]; done) | (rw [hp.out]; simp [*, sumZ]; done) | trace_state))

def zeroR (x : Rec) : Bool := x.name.toList == [] && x.frm == 0 && x.guid == 0 && decide (x.on = 0)
def indR (x : Rec) : Bool := decide (0 ≤ x.index) && decide (x.index < 1024)
set_option maxRecDepth 100000 in
set_option maxHeartbeats 2000000 in
theorem rcheck_any (w : World) (x : Rec) (hr : Rd w 0 w.heap.size x.oA (prps x.own)) (hx : x.wf) :
    Calls Tryz.prog 62 #[.agg x.cells.toArray] w fun e w' => e = .returned (.int .i64 (recE x)) ∧ Ext w w' := by
  have HM := Lib.hid (fun (hk : x.kind = 1) w1 (e1 : Ext w w1) => begin_any w1 x (Rd.at hr e1 (Nat.le_refl _)) hx hk)
  obtain ⟨h5, h6⟩ := hx.index
  obtain ⟨h7, h8⟩ := hx.count
  obtain ⟨h9, h10⟩ := hx.kind
  have h14 := hx.on
  have hv : Hid (recE x = if x.kind < 1 ∨ 4 < x.kind then 23 else if mayB x = true then 0 else 9) := Lib.hid rfl
  have m2 : Hid (x.kind = 2 → mayB x = (zeroR x && indR x && x.count == 0 && decide ((x.data.size : Int) = 16) && sumZ x)) := Lib.hid fun h => by
    rw [mayB, if_neg (by omega), if_pos h, zeroR, indR, show decide (x.data.size = 16) = decide ((x.data.size : Int) = 16) by rw [decide_eq_decide]; omega]
    rw [Bool.eq_iff_iff]
    simp only [Bool.and_eq_true]
    simp only [and_assoc, and_comm, and_left_comm]
  have m3 : Hid (x.kind = 3 → mayB x = (zeroR x && indR x && decide (1 ≤ x.count) && decide (x.count ≤ 1024 - x.index) && x.data.toList == [] && sumZ x)) := Lib.hid fun h => by
    rw [mayB, if_neg (by omega), if_neg (by omega), if_pos h, zeroR, indR]
    rw [Bool.eq_iff_iff]
    simp only [Bool.and_eq_true]
    simp only [and_assoc, and_comm, and_left_comm]
  have m4 : Hid (x.kind = 4 → mayB x = (zeroR x && x.index == 0 && x.count == 0 && x.data.toList == [])) := Lib.hid fun h => by
    rw [mayB, if_neg (by omega), if_neg (by omega), if_neg (by omega), zeroR]
    rw [Bool.eq_iff_iff]
    simp only [Bool.and_eq_true]
    simp only [and_assoc, and_comm, and_left_comm]
  have hz := Lib.hid (show zeroR x = (x.name.toList == [] && x.frm == 0 && x.guid == 0 && decide (x.on = 0)) from rfl)
  have hi := Lib.hid (show indR x = (decide (0 ≤ x.index) && decide (x.index < 1024)) from rfl)
  have hs := Lib.hid (show sumZ x = (x.s0 == 0 && x.s1 == 0 && x.s2 == 0 && x.s3 == 0) from rfl)
  have hcase : x.kind < 1 ∨ (1 ≤ x.kind ∧ 4 < x.kind) ∨ x.kind = 1 ∨ x.kind = 2 ∨ x.kind = 3 ∨ x.kind = 4 := by omega
  clear hx hr
  generalize recE x = y at *
  generalize mayB x = mb at *
  generalize zeroR x = zr at *
  generalize indR x = ir at *
  generalize sumZ x = sr at *
  obtain ⟨k, n, f, g, oA, on, oc, own, i, c, d, s0, s1, s2, s3⟩ := x
  simp only [Rec.cells] at *
  rcases hcase with a0 | ⟨a0, a1⟩ | hk
  · go_enter Tryz.func62, Tryz.ntmps62
    go_wp2_with fail
    go_ret
    exact ⟨retI (by rw [hv.out, if_pos (Or.inl a0)]), by (repeat (first | exact Below.refl _ _ | exact Ext.refl _ | assumption | refine Below.drew ?_ | refine below_drewN ?_ _ | refine below_alloc ?_ (by first | exact Nat.le_refl _ | assumption | (simp; done) | omega | (simp; omega)) _ | refine below_ext ?_ (by assumption) (by first | exact Nat.le_refl _ | assumption | (simp; done) | omega | (simp; omega)) | refine Ext.drew ?_ | refine Ext.drewN ?_ _ | refine Ext.alloc ?_ _ | refine Ext.setCell ?_ (by first | assumption | (simp; done) | (simp; omega)) _ | refine Below.setCell ?_ (by first | assumption | (simp; done) | (simp; omega)) _ | refine Ext.trans ?_ (by assumption)))⟩
  · go_enter Tryz.func62, Tryz.ntmps62
    go_wp2_with fail
    go_ret
    exact ⟨retI (by rw [hv.out, if_pos (Or.inr a1)]), by (repeat (first | exact Below.refl _ _ | exact Ext.refl _ | assumption | refine Below.drew ?_ | refine below_drewN ?_ _ | refine below_alloc ?_ (by first | exact Nat.le_refl _ | assumption | (simp; done) | omega | (simp; omega)) _ | refine below_ext ?_ (by assumption) (by first | exact Nat.le_refl _ | assumption | (simp; done) | omega | (simp; omega)) | refine Ext.drew ?_ | refine Ext.drewN ?_ _ | refine Ext.alloc ?_ _ | refine Ext.setCell ?_ (by first | assumption | (simp; done) | (simp; omega)) _ | refine Below.setCell ?_ (by first | assumption | (simp; done) | (simp; omega)) _ | refine Ext.trans ?_ (by assumption)))⟩
  · have hk1 : 1 ≤ k := by omega
    have hk4 : k ≤ 4 := by omega
    have hE := Lib.hid (show (d.toList == []) = d.toList.isEmpty by cases d.toList <;> rfl)
    have hv2 := Lib.hid (show y = if mb = true then 0 else 9 by rw [hv.out, if_neg (by omega)])
    go_enter Tryz.func62, Tryz.ntmps62
    go_upto_region 0 with (fail)
    go_cut [1] from 0 to 0 (fun s wx => s = .pointer (some ⟨w.heap.size, 0, none⟩) ∧ w.alloc (.cells #[.int .i64 k, .string n, .int .i64 f, .int .i64 g, .slice oA on oc, .int .i64 i, .int .i64 c, .string d, .int .u64 s0, .int .u64 s1, .int .u64 s2, .int .u64 s3] 27) = wx)
    case first =>
      go_wp2_with fail
      go_meet
      exact ⟨rfl, rfl⟩
    case rest =>
      obtain ⟨rfl, rfl⟩ := hcut
      generalize hw1 : World.alloc w _ = w1; obtain ⟨ew1, zw1, Gw1⟩ := box_cells hw1; have gw1_0 := Gw1 0 _ rfl; have gw1_1 := Gw1 1 _ rfl; have gw1_2 := Gw1 2 _ rfl; have gw1_3 := Gw1 3 _ rfl; have gw1_4 := Gw1 4 _ rfl; have gw1_5 := Gw1 5 _ rfl; have gw1_6 := Gw1 6 _ rfl; have gw1_7 := Gw1 7 _ rfl; have gw1_8 := Gw1 8 _ rfl; have gw1_9 := Gw1 9 _ rfl; have gw1_10 := Gw1 10 _ rfl; have gw1_11 := Gw1 11 _ rfl; have Zw1 := Lib.hid zw1; clear zw1 hw1 Gw1; have rw1 := Ext.refl w1
      go_upto_region 3 with (fail)
      go_cut [3] from 15 to 33 (fun s wx => s = .bool zr ∧ w1 = wx)
      case first =>
        go_wp2_with fail
        all_goals (go_meet; refine ⟨congrArg Value.bool ?_, rfl⟩; rw [hz.out]; (first | (simp [*]; done) | (simp [*]; rw [Bool.eq_iff_iff]; simp; done) | (simp [*]; omega) | trace_state))
      case rest =>
        obtain ⟨rfl, rfl⟩ := hcut
        go_upto_region 4 with (fail)
        go_cut [4] from 34 to 41 (fun s wx => s = .bool ir ∧ w1 = wx)
        case first =>
          go_wp2_with fail
          all_goals (go_meet; refine ⟨congrArg Value.bool ?_, rfl⟩; rw [hi.out]; (first | (simp [*]; done) | (simp [*]; omega) | trace_state))
        case rest =>
          obtain ⟨rfl, rfl⟩ := hcut
          go_upto_region 5 with (fail)
          go_cut [5] from 42 to 45 (fun s wx => s = .bool sr ∧ w1 = wx)
          case first =>
            go_wp2_with fail
            all_goals (go_meet; refine ⟨congrArg Value.bool ?_, rfl⟩; rw [hs.out]; (first | (simp [*]; done) | (simp [*]; omega) | trace_state))
          case rest =>
            obtain ⟨rfl, rfl⟩ := hcut
            rcases hk with rfl | rfl | rfl | rfl
            · go_wp2_with (go_at_call 40; refine (HM.out rfl _ (by (repeat (first | exact Below.refl _ _ | exact Ext.refl _ | assumption | refine Below.drew ?_ | refine below_drewN ?_ _ | refine below_alloc ?_ (by first | exact Nat.le_refl _ | assumption | (simp; done) | omega | (simp; omega)) _ | refine below_ext ?_ (by assumption) (by first | exact Nat.le_refl _ | assumption | (simp; done) | omega | (simp; omega)) | refine Ext.drew ?_ | refine Ext.drewN ?_ _ | refine Ext.alloc ?_ _ | refine Ext.setCell ?_ (by first | assumption | (simp; done) | (simp; omega)) _ | refine Below.setCell ?_ (by first | assumption | (simp; done) | (simp; omega)) _ | refine Ext.trans ?_ (by assumption))))).mono ?_; rintro e w3 ⟨rfl, e3⟩)
              all_goals (go_ret; refine ⟨retI ?_, by (repeat (first | exact Below.refl _ _ | exact Ext.refl _ | assumption | refine Below.drew ?_ | refine below_drewN ?_ _ | refine below_alloc ?_ (by first | exact Nat.le_refl _ | assumption | (simp; done) | omega | (simp; omega)) _ | refine below_ext ?_ (by assumption) (by first | exact Nat.le_refl _ | assumption | (simp; done) | omega | (simp; omega)) | refine Ext.drew ?_ | refine Ext.drewN ?_ _ | refine Ext.alloc ?_ _ | refine Ext.setCell ?_ (by first | assumption | (simp; done) | (simp; omega)) _ | refine Below.setCell ?_ (by first | assumption | (simp; done) | (simp; omega)) _ | refine Ext.trans ?_ (by assumption)))⟩; rw [hv2.out]; cases mb <;> simp_all)
            · have hm2 := Lib.hid (m2.out rfl)
              go_wp2_with fail
              all_goals (go_ret; refine ⟨retI ?_, by (repeat (first | exact Below.refl _ _ | exact Ext.refl _ | assumption | refine Below.drew ?_ | refine below_drewN ?_ _ | refine below_alloc ?_ (by first | exact Nat.le_refl _ | assumption | (simp; done) | omega | (simp; omega)) _ | refine below_ext ?_ (by assumption) (by first | exact Nat.le_refl _ | assumption | (simp; done) | omega | (simp; omega)) | refine Ext.drew ?_ | refine Ext.drewN ?_ _ | refine Ext.alloc ?_ _ | refine Ext.setCell ?_ (by first | assumption | (simp; done) | (simp; omega)) _ | refine Below.setCell ?_ (by first | assumption | (simp; done) | (simp; omega)) _ | refine Ext.trans ?_ (by assumption)))⟩; rw [hv2.out, hm2.out]; cases zr <;> cases ir <;> cases sr <;> (first | contradiction | exact absurd ‹(!true) = true› (by decide) | exact absurd ‹(!false) = false› (by decide) | (simp; done) | (simp; omega) | (simp; intros; omega) | (rw [hE.out]; cases hd : d.toList.isEmpty <;> (first | (refine absurd (a := (!d.toList.isEmpty) = true) ?_ ?_; assumption; rw [hd]; decide) | (refine absurd (a := (!d.toList.isEmpty) = false) ?_ ?_; assumption; rw [hd]; decide) | (refine absurd (a := d.toList = []) ?_ ?_; assumption; intro q; rw [q] at hd; simp at hd; done) | (refine absurd (a := ¬ d.toList = []) ?_ ?_; assumption; intro q; exact q (List.isEmpty_iff.1 hd)) | (simp; done) | (simp; omega) | (simp; intros; omega))) | trace_state))
            · have hm3 := Lib.hid (m3.out rfl)
              have hI : ir = false ∨ (ir = true ∧ 0 ≤ i ∧ i < 1024) := by
                rw [hi.out]
                by_cases q0 : 0 ≤ i <;> by_cases q1 : i < 1024 <;> simp [q0, q1]
              rcases hI with rfl | ⟨rfl, i0, i1⟩ <;> go_wp2_with fail
              all_goals (go_ret; refine ⟨retI ?_, by (repeat (first | exact Below.refl _ _ | exact Ext.refl _ | assumption | refine Below.drew ?_ | refine below_drewN ?_ _ | refine below_alloc ?_ (by first | exact Nat.le_refl _ | assumption | (simp; done) | omega | (simp; omega)) _ | refine below_ext ?_ (by assumption) (by first | exact Nat.le_refl _ | assumption | (simp; done) | omega | (simp; omega)) | refine Ext.drew ?_ | refine Ext.drewN ?_ _ | refine Ext.alloc ?_ _ | refine Ext.setCell ?_ (by first | assumption | (simp; done) | (simp; omega)) _ | refine Below.setCell ?_ (by first | assumption | (simp; done) | (simp; omega)) _ | refine Ext.trans ?_ (by assumption)))⟩; rw [hv2.out, hm3.out]; cases zr <;> cases sr <;> (first | contradiction | exact absurd ‹(!true) = true› (by decide) | exact absurd ‹(!false) = false› (by decide) | (simp; done) | (simp; omega) | (simp; intros; omega) | (rw [hE.out]; cases hd : d.toList.isEmpty <;> (first | (refine absurd (a := (!d.toList.isEmpty) = true) ?_ ?_; assumption; rw [hd]; decide) | (refine absurd (a := (!d.toList.isEmpty) = false) ?_ ?_; assumption; rw [hd]; decide) | (refine absurd (a := d.toList = []) ?_ ?_; assumption; intro q; rw [q] at hd; simp at hd; done) | (refine absurd (a := ¬ d.toList = []) ?_ ?_; assumption; intro q; exact q (List.isEmpty_iff.1 hd)) | (simp; done) | (simp; omega) | (simp; intros; omega))) | trace_state))
            · have hm4 := Lib.hid (m4.out rfl)
              go_wp2_with fail
              all_goals (go_ret; refine ⟨retI ?_, by (repeat (first | exact Below.refl _ _ | exact Ext.refl _ | assumption | refine Below.drew ?_ | refine below_drewN ?_ _ | refine below_alloc ?_ (by first | exact Nat.le_refl _ | assumption | (simp; done) | omega | (simp; omega)) _ | refine below_ext ?_ (by assumption) (by first | exact Nat.le_refl _ | assumption | (simp; done) | omega | (simp; omega)) | refine Ext.drew ?_ | refine Ext.drewN ?_ _ | refine Ext.alloc ?_ _ | refine Ext.setCell ?_ (by first | assumption | (simp; done) | (simp; omega)) _ | refine Below.setCell ?_ (by first | assumption | (simp; done) | (simp; omega)) _ | refine Ext.trans ?_ (by assumption)))⟩; rw [hv2.out, hm4.out]; cases zr <;> cases ir <;> cases sr <;> (first | contradiction | exact absurd ‹(!true) = true› (by decide) | exact absurd ‹(!false) = false› (by decide) | (simp; done) | (simp; omega) | (simp; intros; omega) | (rw [hE.out]; cases hd : d.toList.isEmpty <;> (first | (refine absurd (a := (!d.toList.isEmpty) = true) ?_ ?_; assumption; rw [hd]; decide) | (refine absurd (a := (!d.toList.isEmpty) = false) ?_ ?_; assumption; rw [hd]; decide) | (refine absurd (a := d.toList = []) ?_ ?_; assumption; intro q; rw [q] at hd; simp at hd; done) | (refine absurd (a := ¬ d.toList = []) ?_ ?_; assumption; intro q; exact q (List.isEmpty_iff.1 hd)) | (simp; done) | (simp; omega) | (simp; intros; omega))) | trace_state))
end Go.Proofs.YtmecjjmlccdppaaGreatDoor
/- A path's parts: plain laws. -/
namespace Go.Proofs.YtmecjjmlccdppaaGreatDoor
open Go.Lib (index count splitK)

/-- what stands between the octets 47 -/
def partsGo : List UInt8 → List UInt8 → List (List UInt8)
  | cur, [] => [cur]
  | cur, c :: l => if c = 47 then cur :: partsGo [] l else partsGo (cur ++ [c]) l
def parts (l : List UInt8) : List (List UInt8) := partsGo [] l
theorem index_cons (b : UInt8) (l : List UInt8) : index (b :: l) [47] = if b = 47 then 0 else if index l [47] == -1 then -1 else index l [47] + 1 := by
  rw [index]
  by_cases h : b = 47
  · subst h; simp
  · have : ([47] : List UInt8).isPrefixOf (b :: l) = false := by
      simp [List.isPrefixOf, Ne.symm h]
    rw [this, if_neg h]
    simp
theorem partsGo_at (s : List UInt8) : ∀ cur, partsGo cur s = if index s [47] == -1 then [cur ++ s] else (cur ++ s.take (index s [47]).toNat) :: partsGo [] (s.drop ((index s [47]).toNat + 1)) := by
  induction s with
  | nil => intro cur; simp [partsGo, index]
  | cons b l ih =>
    intro cur
    rw [index_cons]
    by_cases h : b = 47
    · subst h; simp [partsGo]
    · rw [partsGo, if_neg h, if_neg h, ih]
      have hge := Go.Lib.index_ge l [47]
      by_cases h2 : index l [47] == -1
      · rw [if_pos h2, if_pos h2, if_pos (by rfl)]
        simp
      · rw [if_neg h2, if_neg h2]
        have h3 : index l [47] ≠ -1 := by simpa using h2
        have h4 : ((index l [47] + 1) == -1) = false := by simp; omega
        rw [h4, if_neg (by decide), show (index l [47] + 1).toNat = (index l [47]).toNat + 1 by omega]
        simp
theorem splitK_parts : ∀ (k : Nat) (s : List UInt8), count s [47] = k → splitK [47] 0 k s = parts s
  | 0, s, h => by
    have hi : index s [47] = -1 := by
      have hge := Go.Lib.index_ge s [47]
      refine Decidable.byContradiction fun hn => ?_
      have := Go.Lib.count_hit (s := s) (sub := [47]) (i := (index s [47]).toNat) (by simp) (by omega)
      omega
    rw [parts, partsGo_at, hi]
    rfl
  | k + 1, s, h => by
    have hge := Go.Lib.index_ge s [47]
    have hn : ¬ (index s [47] == -1) = true := fun e => by
      have := Go.Lib.count_miss (s := s) (sub := [47]) (by simpa using e)
      omega
    have hc := Go.Lib.count_hit (s := s) (sub := [47]) (i := (index s [47]).toNat) (by simp) (by have : index s [47] ≠ -1 := (by simpa using hn); omega)
    have hk : count (s.drop ((index s [47]).toNat + 1)) [47] = k := by simp only [List.length_singleton] at hc; omega
    have ih := splitK_parts k _ hk
    rw [splitK, if_neg hn, parts, partsGo_at, if_neg hn, List.nil_append, Nat.add_zero]
    congr 1
theorem partsGo_len (s : List UInt8) : ∀ cur, (partsGo cur s).length = s.count 47 + 1 := by
  induction s with
  | nil => intro cur; rfl
  | cons b l ih =>
    intro cur
    rw [partsGo]
    by_cases h : b = 47
    · subst h; rw [if_pos rfl, List.length_cons, ih]; simp
    · rw [if_neg h, ih, List.count_cons_of_ne h]
/-- may a text be a path? -/
def pathB (s : ByteArray) : Bool := decide (s.size = 0) || (decide ((parts s.data.toList).length ≤ 4) && (parts s.data.toList).all fun l => nameB ⟨l.toArray⟩)
end Go.Proofs.YtmecjjmlccdppaaGreatDoor
/- The shelf's contract of strings.Split, laid over this program by the kit's lay-shelf and lay-plain. Its conditions: a text shorter than 4294967281 octets; the library's variable MaxLen holds some integer. -/
namespace Go.Proofs
open Go.Shelf
def Tryz.lays146_ren : Go.Shelf.Ren := ⟨fun | 146 => 54 | 221 => 91 | 268 => 118 | 138 => 119 | 143 => 120 | 195 => 134 | 197 => 135 | 218 => 136 | 219 => 137 | 260 => 152 | 217 => 153 | 225 => 154 | 224 => 155 | 267 => 156 | 266 => 163 | 314 => 164 | n => n, fun | 9 => 9 | 31 => 48 | 3 => 3 | 4 => 4 | 0 => 0 | 105 => 202 | 21 => 21 | 5 => 5 | 46 => 164 | 119 => 224 | 139 => 227 | 138 => 226 | 146 => 228 | 51 => 127 | n => n, fun | 1 => 0 | 3 => 1 | 4 => 2 | n => n⟩
theorem Tryz.lays146 : Go.Proofs.Lays.n146 Tryz.prog Tryz.lays146_ren := {
  mixed := by kernel_rfl
  f138 := Tryz.func119.trans (congrArg some (by kernel_rfl))
  f143 := Tryz.func120.trans (congrArg some (by kernel_rfl))
  f146 := Tryz.func54.trans (congrArg some (by kernel_rfl))
  f195 := Tryz.func134.trans (congrArg some (by kernel_rfl))
  f197 := Tryz.func135.trans (congrArg some (by kernel_rfl))
  f217 := Tryz.func153.trans (congrArg some (by kernel_rfl))
  f218 := Tryz.func136.trans (congrArg some (by kernel_rfl))
  f219 := Tryz.func137.trans (congrArg some (by kernel_rfl))
  f221 := Tryz.func91.trans (congrArg some (by kernel_rfl))
  f224 := Tryz.func155.trans (congrArg some (by kernel_rfl))
  f225 := Tryz.func154.trans (congrArg some (by kernel_rfl))
  f260 := Tryz.func152.trans (congrArg some (by kernel_rfl))
  f266 := Tryz.func163.trans (congrArg some (by kernel_rfl))
  f267 := Tryz.func156.trans (congrArg some (by kernel_rfl))
  f268 := Tryz.func118.trans (congrArg some (by kernel_rfl))
  f314 := Tryz.func164.trans (congrArg some (by kernel_rfl))
  t0 := Tryz.underlying0
  a0 := Tryz.isAgg0
  z0 := Tryz.sizeOf0
  v0 := Tryz.zeroValue0
  t3 := Tryz.underlying3
  a3 := Tryz.isAgg3
  z3 := Tryz.sizeOf3
  v3 := Tryz.zeroValue3
  t4 := Tryz.underlying4
  a4 := Tryz.isAgg4
  z4 := Tryz.sizeOf4
  v4 := Tryz.zeroValue4
  t5 := Tryz.underlying5
  a5 := Tryz.isAgg5
  z5 := Tryz.sizeOf5
  v5 := Tryz.zeroValue5
  t9 := Tryz.underlying9
  a9 := Tryz.isAgg9
  z9 := Tryz.sizeOf9
  v9 := Tryz.zeroValue9
  t21 := Tryz.underlying21
  a21 := Tryz.isAgg21
  z21 := Tryz.sizeOf21
  v21 := Tryz.zeroValue21
  t31 := Tryz.underlying48
  a31 := Tryz.isAgg48
  z31 := Tryz.sizeOf48
  v31 := Tryz.zeroValue48
  t46 := Tryz.underlying164
  a46 := Tryz.isAgg164
  z46 := Tryz.sizeOf164
  v46 := Tryz.zeroValue164
  t51 := Tryz.underlying127
  a51 := Tryz.isAgg127
  z51 := Tryz.sizeOf127
  v51 := Tryz.zeroValue127
  t105 := Tryz.underlying202
  a105 := Tryz.isAgg202
  z105 := Tryz.sizeOf202
  v105 := Tryz.zeroValue202
  t119 := Tryz.underlying224
  a119 := Tryz.isAgg224
  z119 := Tryz.sizeOf224
  t138 := Tryz.underlying226
  a138 := Tryz.isAgg226
  z138 := Tryz.sizeOf226
  v138 := Tryz.zeroValue226
  t139 := Tryz.underlying227
  a139 := Tryz.isAgg227
  z139 := Tryz.sizeOf227
  v139 := Tryz.zeroValue227
  t146 := Tryz.underlying228
  a146 := Tryz.isAgg228
  z146 := Tryz.sizeOf228
  v146 := Tryz.zeroValue228
  g1 := by kernel_rfl
  g3 := by kernel_rfl
  g4 := by kernel_rfl }
open Go.RowKit Go.Lib in
/-- strings.Split. (LAID: no walk: one application.) -/
theorem Tryz.strings_Split (s sep : ByteArray) (m : Int) (w : World) (hs : s.size < 4294967281) (hm : w.cell? ⟨0, 0, none⟩ = some (.int .i64 m)) (h1 : 1 ≤ sep.size) :
    Calls Tryz.prog 54 #[.string s, .string sep] w fun e w' =>
      e = .returned (.slice (some ⟨w.heap.size, 0, none⟩) (Lib.countB s sep + 1) (Lib.countB s sep + 1)) ∧ w' = w.alloc (.cells ((Lib.splitB sep 0 (Lib.countB s sep) s).map Value.string).toArray 9) := Any.strings_Split Tryz.lays146 (by kernel_rfl) s sep m w hs hm h1
end Go.Proofs
/- names.Path; the reference's Parts and Path. Of strings.Split the shelf's contract is asked: a text shorter than 4294967281 octets. -/
namespace Go.Proofs.YtmecjjmlccdppaaGreatDoor
open Go.RowKit
set_option linter.unusedVariables false
set_option linter.unusedSimpArgs false

/-- the library's variable MaxLen holds some integer -/
def MaxV (w : World) : Prop := ∃ m : Int, w.cell? ⟨0, 0, none⟩ = some (.int .i64 m)
theorem MaxV.ext {w w' : World} (h : MaxV w) (e : Ext w w') : MaxV w' := by
  obtain ⟨m, hm⟩ := h
  exact ⟨m, (Below.cell e (World.block_lt_of_cell? w _ hm)).trans hm⟩
theorem parts_small (s : List UInt8) : ∀ cur, ∀ p ∈ partsGo cur s, p.length ≤ cur.length + s.length := by
  induction s with
  | nil => intro cur p hp; simp only [partsGo, List.mem_singleton] at hp; subst hp; simp
  | cons b l ih =>
    intro cur p hp
    rw [partsGo] at hp
    by_cases h : b = 47
    · rw [if_pos h, List.mem_cons] at hp
      rcases hp with rfl | hp
      · simp
      · have := ih [] p hp
        simp at this ⊢
        omega
    · rw [if_neg h] at hp
      have := ih _ p hp
      simp at this ⊢
      omega
theorem of_list (s : ByteArray) : (⟨s.data.toList.toArray⟩ : ByteArray) = s := rfl
theorem split_any (s : ByteArray) (w : World) (hM : MaxV w) (hs : s.size < 4294967281) (sep : ByteArray) (hsep : sep = ⟨#[47]⟩) :
    Calls Tryz.prog 54 #[.string s, .string sep] w fun e w' => ∃ ps : List ByteArray, ps.map (·.data.toList) = parts s.data.toList ∧ e = .returned (.slice (some ⟨w.heap.size, 0, none⟩) ps.length ps.length) ∧ w' = w.alloc (.cells (ps.map Value.string).toArray 9) := by
  subst hsep
  obtain ⟨m, hm⟩ := hM
  refine (Tryz.strings_Split s ⟨#[47]⟩ m w hs hm (by decide)).mono ?_
  rintro e w' ⟨rfl, rfl⟩
  have h1 := Lib.splitB_all ⟨#[47]⟩ (by decide) 0 _ s rfl
  exact ⟨_, (Lib.splitB_data ⟨#[47]⟩ 0 _ s).trans (splitK_parts _ _ rfl), by rw [h1], rfl⟩
def noName (s : ByteArray) : Bool := !nameB s
theorem noName_any (s : ByteArray) (w : World) (hm : s.size ≤ 9223372036854775807) : Calls Tryz.prog 56 #[.string s] w fun e w' => e = .returned (.bool (noName s)) ∧ Ext w w' := by
  have hv := Lib.hid (show noName s = !nameB s from rfl)
  have H := Lib.hid (name_any s w hm)
  generalize nameB s = b at *
  go_enter Tryz.func56, Tryz.ntmps56
  go_wp2_with fail
  refine H.out.mono ?_
  rintro e w2 ⟨rfl, e2⟩
  go_wp2_with fail
  go_ret
  exact ⟨by rw [hv.out]; rfl, e2⟩
/-- the first long one, or -1 -/
def IdxN (l : List ByteArray) (w : World) (e : Ending) (w' : World) : Prop :=
  ∃ r : Int, e = .returned (.int .i64 r) ∧ l.any noName = decide (0 ≤ r) ∧ -1 ≤ r ∧ Ext w w'
set_option maxRecDepth 100000 in
set_option maxHeartbeats 400000 in
theorem idxn_any (w : World) (A : Option Addr) (n c lo hi : Nat) (l : List ByteArray) (hn : n = l.length) (hm : n ≤ 9223372036854775807) (hr : Rd w lo hi A (l.map Value.string)) (hh : hi ≤ w.heap.size) (hsz : ∀ s ∈ l, s.size ≤ 9223372036854775807) :
    Calls Tryz.prog 92 #[.slice A n c, .func (.func 56) #[] #[]] w (IdxN l w) := by
  have Hn := Lib.hid hn
  have HSz := Lib.hid hsz
  clear hn hsz
  go_enter Tryz.func92, Tryz.ntmps92
  go_wp2_with fail
  go_loopw [8] (fun i wr => ∃ k : Nat, k ≤ n ∧ i = .int .i64 k ∧ (l.take k).any noName = false ∧ Ext w wr) (fun i _ => n - (intOf i).toNat)
  case atStart => exact ⟨0, Nat.zero_le _, rfl, rfl, Ext.refl _⟩
  case round =>
    obtain ⟨k, hk, rfl, hno, e1⟩ := hrel
    have HK := Lib.hid hno
    clear hno
    by_cases hlt : k < n
    · obtain ⟨b1, o1, rfl, _, _, f0⟩ := rd_str (hr.ext e1 hh) (k := k) (by rw [← Hn.out]; omega)
      have hl : k < l.length := by rw [← Hn.out]; omega
      obtain ⟨y, hy⟩ : ∃ y, y = l[k]'hl := ⟨_, rfl⟩
      rw [← hy] at f0
      have HY := Lib.hid hy
      clear hy
      go_wp2_with fail
      refine (noName_any y _ (by have := HSz.out y (by rw [HY.out]; exact List.getElem_mem _); exact this)).mono ?_
      rintro e w2 ⟨rfl, e2⟩
      cases ho : noName y
      · go_wp2_with fail
        go_roundw
        case rel =>
          refine ⟨k + 1, by omega, by go_num, ?_, by (repeat (first | exact Below.refl _ _ | exact Ext.refl _ | assumption | refine Below.drew ?_ | refine below_drewN ?_ _ | refine below_alloc ?_ (by first | exact Nat.le_refl _ | assumption | (simp; done) | omega | (simp; omega)) _ | refine below_ext ?_ (by assumption) (by first | exact Nat.le_refl _ | assumption | (simp; done) | omega | (simp; omega)) | refine Ext.drew ?_ | refine Ext.drewN ?_ _ | refine Ext.alloc ?_ _ | refine Ext.setCell ?_ (by first | assumption | (simp; done) | (simp; omega)) _ | refine Below.setCell ?_ (by first | assumption | (simp; done) | (simp; omega)) _ | refine Ext.trans ?_ (by assumption)))⟩
          rw [List.take_succ_eq_append_getElem hl, List.any_append, HK.out, ← HY.out]
          simp [ho]
        case measure => simp [intOf]; omega
      · go_wp2_with fail
        go_ret
        refine ⟨k, rfl, ?_, by omega, by (repeat (first | exact Below.refl _ _ | exact Ext.refl _ | assumption | refine Below.drew ?_ | refine below_drewN ?_ _ | refine below_alloc ?_ (by first | exact Nat.le_refl _ | assumption | (simp; done) | omega | (simp; omega)) _ | refine below_ext ?_ (by assumption) (by first | exact Nat.le_refl _ | assumption | (simp; done) | omega | (simp; omega)) | refine Ext.drew ?_ | refine Ext.drewN ?_ _ | refine Ext.alloc ?_ _ | refine Ext.setCell ?_ (by first | assumption | (simp; done) | (simp; omega)) _ | refine Below.setCell ?_ (by first | assumption | (simp; done) | (simp; omega)) _ | refine Ext.trans ?_ (by assumption)))⟩
        have h1 : l.any noName = true := List.any_eq_true.2 ⟨y, by rw [HY.out]; exact List.getElem_mem _, ho⟩
        rw [h1]
        simp
    · go_wp2_with fail
      go_ret
      obtain rfl : k = n := by omega
      have h1 := HK.out
      rw [List.take_of_length_le (by rw [← Hn.out]; exact Nat.le_refl _)] at h1
      exact ⟨-1, rfl, by rw [h1]; rfl, by omega, e1⟩

set_option maxRecDepth 100000 in
set_option maxHeartbeats 400000 in
theorem containsn_any (w : World) (A : Option Addr) (n c lo hi : Nat) (l : List ByteArray) (hn : n = l.length) (hm : n ≤ 9223372036854775807) (hr : Rd w lo hi A (l.map Value.string)) (hh : hi ≤ w.heap.size) (hsz : ∀ s ∈ l, s.size ≤ 9223372036854775807) :
    Calls Tryz.prog 55 #[.slice A n c, .func (.func 56) #[] #[]] w fun e w' => e = .returned (.bool (l.any noName)) ∧ Ext w w' := by
  have Hn := Lib.hid hn
  have HSz := Lib.hid hsz
  clear hn hsz
  go_enter Tryz.func55, Tryz.ntmps55
  go_wp2_with fail
  refine (idxn_any w A n c lo hi l Hn.out hm hr hh HSz.out).mono ?_
  rintro e w2 ⟨r, rfl, hany, hr1, e2⟩
  have HA := Lib.hid hany
  clear hany
  go_wp2_with fail
  go_ret
  exact ⟨by rw [HA.out]; rfl, e2⟩


theorem pathB_of (s : ByteArray) (h : 0 < s.size) (ps : List ByteArray) (hp : ps.map (·.data.toList) = parts s.data.toList) : pathB s = (decide (ps.length ≤ 4) && !(ps.any noName)) := by
  have h1 : decide (s.size = 0) = false := decide_eq_false (by omega)
  have h2 : ps.length = (parts s.data.toList).length := by rw [← hp, List.length_map]
  have h3 : ∀ qs : List ByteArray, (qs.map (·.data.toList)).all (fun l => nameB ⟨l.toArray⟩) = !(qs.any noName) := by
    intro qs
    induction qs with
    | nil => rfl
    | cons p qs ih =>
      rw [List.map_cons, List.all_cons, List.any_cons, ih, of_list, Bool.not_or, noName, Bool.not_not]
  rw [pathB, h1, ← hp, h3, List.length_map]
  rfl
theorem parts_fit (s : ByteArray) (hs : s.size ≤ 9223372036854775807) (ps : List ByteArray) (hp : ps.map (·.data.toList) = parts s.data.toList) : ∀ p ∈ ps, p.size ≤ 9223372036854775807 := by
  intro p hm
  have := parts_small s.data.toList [] p.data.toList (by rw [show partsGo [] s.data.toList = ps.map (·.data.toList) from hp.symm]; exact List.mem_map_of_mem hm)
  rw [len_data, len_data] at this
  simp at this
  omega
theorem parts_len (s : ByteArray) (ps : List ByteArray) (hp : ps.map (·.data.toList) = parts s.data.toList) : ps.length ≤ s.size + 1 := by
  have h1 : ps.length = (parts s.data.toList).length := by rw [← hp, List.length_map]
  have h2 := partsGo_len s.data.toList []
  have h3 : s.data.toList.count 47 ≤ s.data.toList.length := List.count_le_length
  rw [len_data] at h3
  have h4 : parts s.data.toList = partsGo [] s.data.toList := rfl
  rw [h4] at h1
  omega
set_option maxRecDepth 100000 in
set_option maxHeartbeats 1000000 in
theorem path_any (s : ByteArray) (w : World) (hM : MaxV w) (hs : s.size < 4294967281) : Calls Tryz.prog 25 #[.string s] w fun e w' => e = .returned (.bool (pathB s)) ∧ Ext w w' := by
  by_cases h0 : s.size = 0
  · obtain rfl := empty_of s h0
    have hv := Lib.hid (show pathB ⟨#[]⟩ = true from rfl)
    go_enter Tryz.func25, Tryz.ntmps25
    go_wp2_with fail
    go_ret
    exact ⟨by rw [hv.out]; rfl, Ext.refl _⟩
  · have HS := Lib.hid (split_any s w hM hs _ rfl)
    have b0 : s.toList.isEmpty = false := by
      rw [ByteArray.toList_eq, List.isEmpty_eq_false_iff]
      intro e
      have := len_data s
      rw [e] at this
      exact h0 this.symm
    have HP := Lib.hid (fun ps hp => pathB_of s (by omega) ps hp)
    have HF := Lib.hid (parts_fit s (by omega))
    have HL := Lib.hid (parts_len s)
    have HB := Lib.hid hs
    clear hs
    go_enter Tryz.func25, Tryz.ntmps25
    go_wp2_with fail
    refine HS.out.mono ?_
    rintro e w2 ⟨ps, hp, rfl, hw2⟩
    have hv := Lib.hid (HP.out ps hp)
    have hf := Lib.hid (HF.out ps hp)
    have hl := Lib.hid (HL.out ps hp)
    clear hp
    have hr := rd_new w (ps.map Value.string).toArray 9
    rw [← hw2] at hr
    have e2 : Ext w w2 := by rw [hw2]; (repeat (first | exact Below.refl _ _ | exact Ext.refl _ | assumption | refine Below.drew ?_ | refine below_drewN ?_ _ | refine below_alloc ?_ (by first | exact Nat.le_refl _ | assumption | (simp; done) | omega | (simp; omega)) _ | refine below_ext ?_ (by assumption) (by first | exact Nat.le_refl _ | assumption | (simp; done) | omega | (simp; omega)) | refine Ext.drew ?_ | refine Ext.drewN ?_ _ | refine Ext.alloc ?_ _ | refine Ext.setCell ?_ (by first | assumption | (simp; done) | (simp; omega)) _ | refine Below.setCell ?_ (by first | assumption | (simp; done) | (simp; omega)) _ | refine Ext.trans ?_ (by assumption)))
    have hz : w2.heap.size = w.heap.size + 1 := by rw [hw2]; simp
    have HR := Lib.hid (show Rd w2 w.heap.size w2.heap.size (some ⟨w.heap.size, 0, none⟩) (ps.map Value.string) by rw [hz]; exact hr)
    have HZ := Lib.hid hz
    clear hw2 hr hz
    by_cases h4 : ps.length ≤ 4
    · have hd : decide ((ps.length : Int) ≤ 4) = true := by simp; omega
      have hq : pathB s = !(ps.any noName) := by rw [hv.out, decide_eq_true h4]; rfl
      have hv := Lib.hid hq
      clear hq
      go_wp2_with fail
      refine (containsn_any _ _ ps.length _ w.heap.size w2.heap.size ps rfl (by have := hl.out; have := HB.out; omega) HR.out (Nat.le_refl _) hf.out).mono ?_
      rintro e wa ⟨rfl, ea⟩
      generalize ps.any noName = X at *
      go_wp2_with fail
      go_ret
      exact ⟨by rw [hv.out]; rfl, by (repeat (first | exact Below.refl _ _ | exact Ext.refl _ | assumption | refine Below.drew ?_ | refine below_drewN ?_ _ | refine below_alloc ?_ (by first | exact Nat.le_refl _ | assumption | (simp; done) | omega | (simp; omega)) _ | refine below_ext ?_ (by assumption) (by first | exact Nat.le_refl _ | assumption | (simp; done) | omega | (simp; omega)) | refine Ext.drew ?_ | refine Ext.drewN ?_ _ | refine Ext.alloc ?_ _ | refine Ext.setCell ?_ (by first | assumption | (simp; done) | (simp; omega)) _ | refine Below.setCell ?_ (by first | assumption | (simp; done) | (simp; omega)) _ | refine Ext.trans ?_ (by assumption)))⟩
    · have hd : decide ((ps.length : Int) ≤ 4) = false := by simp; omega
      have hq : pathB s = false := by rw [hv.out, decide_eq_false h4]; rfl
      have hv := Lib.hid hq
      clear hq
      go_wp2_with fail
      go_ret
      exact ⟨by rw [hv.out]; rfl, by (repeat (first | exact Below.refl _ _ | exact Ext.refl _ | assumption | refine Below.drew ?_ | refine below_drewN ?_ _ | refine below_alloc ?_ (by first | exact Nat.le_refl _ | assumption | (simp; done) | omega | (simp; omega)) _ | refine below_ext ?_ (by assumption) (by first | exact Nat.le_refl _ | assumption | (simp; done) | omega | (simp; omega)) | refine Ext.drew ?_ | refine Ext.drewN ?_ _ | refine Ext.alloc ?_ _ | refine Ext.setCell ?_ (by first | assumption | (simp; done) | (simp; omega)) _ | refine Below.setCell ?_ (by first | assumption | (simp; done) | (simp; omega)) _ | refine Ext.trans ?_ (by assumption)))⟩
end Go.Proofs.YtmecjjmlccdppaaGreatDoor
