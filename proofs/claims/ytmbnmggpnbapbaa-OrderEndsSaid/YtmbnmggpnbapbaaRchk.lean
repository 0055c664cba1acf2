/- The reference's Begin and Check. -/
import Derived.Test.YtmbnmggpnbapbaaChk
import Derived.Test.YtmbnmggpnbapbaaRprp
import Derived.Deep.DeepCutAuto
namespace Go.Proofs.Ytmbnmggpnbapbaa
open Go.RowKit

theorem ramount_any (w : World) (a b : Int) (h1 : -9223372036854775808 ≤ a) (h2 : a ≤ 9223372036854775807) :
    Calls Try.prog 14 #[.int .i64 a, .int .i64 b] w fun e w' => e = .returned (.bool (decide (b ≤ a) && decide (a ≤ 1099511627776))) ∧ Ext w w' := by
  go_enter Try.func14, Try.ntmps14
  go_wp2_with fail
  all_goals (go_ret; refine ⟨retB ?_, Ext.refl _⟩; (first | (simp [*]; done) | (simp [*]; omega)))
set_option maxHeartbeats 1000000 in
theorem begin_any (w : World) (x : Rec) (hr : Rd w 0 w.heap.size x.oA (prps x.own)) (hx : x.wf) (hk : x.kind = 1) :
    Calls Try.prog 10 #[.agg x.cells.toArray] w fun e w' => e = .returned (.bool (mayB x)) ∧ Ext w w' := by
  have HS := Lib.hid (show mayB x = (nameB x.name && decide (0 ≤ x.frm) && decide (x.frm ≤ 1099511627776) && decide (1 ≤ x.guid) && decide (x.guid ≤ 1099511627776) && decide (prE x.own = 0) && x.index == 0 && x.count == 0 && x.data.toList == [] && sumZ x) by rw [mayB, if_pos hk])
  obtain ⟨k, n, f, g, oA, on, oc, own, i, c, d, s0, s1, s2, s3⟩ := x
  obtain ⟨⟨h1, h2⟩, ⟨h3, h4⟩, ⟨h5, h6⟩, ⟨h7, h8⟩, ⟨h9, h10⟩, h11, h12, h13, h14, h15⟩ := hx
  simp only at hk h1 h2 h3 h4 h5 h6 h7 h8 h9 h10 h11 h12 h13 h14 h15 hr
  subst hk
  have H13 := Lib.hid h13
  have H15 := Lib.hid h15
  clear h13 h15
  generalize mayB _ = b at HS
  have hp : Hid (decide (prE own = 0) = (prE own == 0)) := Lib.hid (by rw [Bool.eq_iff_iff]; simp)
  have HP := Lib.hid (fun w1 (e1 : Ext w w1) => rprops_any w1 oA on oc own H13.out h14 (Rd.at hr e1 (Nat.le_refl _)) H15.out)
  generalize prE own = pe at *
  simp only [Rec.cells]
  go_enter Try.func10, Try.ntmps10
  go_upto_region 1 with (fail)
  generalize hw1 : World.alloc w _ = w1; obtain ⟨ew1, zw1, Gw1⟩ := box_cells hw1; have gw1_0 := Gw1 0 _ rfl; have gw1_1 := Gw1 1 _ rfl; have gw1_2 := Gw1 2 _ rfl; have gw1_3 := Gw1 3 _ rfl; have gw1_4 := Gw1 4 _ rfl; have gw1_5 := Gw1 5 _ rfl; have gw1_6 := Gw1 6 _ rfl; have gw1_7 := Gw1 7 _ rfl; have gw1_8 := Gw1 8 _ rfl; have gw1_9 := Gw1 9 _ rfl; have gw1_10 := Gw1 10 _ rfl; have gw1_11 := Gw1 11 _ rfl; have Zw1 := Lib.hid zw1; clear zw1 hw1 Gw1; have rw1 := Ext.refl w1
  go_wp2_with (first
    | (go_at_call 13; (with_reducible refine (rname_any n _ h11).mono ?_); rintro e wa ⟨rfl, ea⟩; have xa : Ext w1 wa := (by (repeat (first | exact Below.refl _ _ | exact Ext.refl _ | assumption | refine Below.drew ?_ | refine below_drewN ?_ _ | refine below_alloc ?_ (by first | exact Nat.le_refl _ | assumption | (simp; done) | omega | (simp; omega)) _ | refine below_ext ?_ (by assumption) (by first | exact Nat.le_refl _ | assumption | (simp; done) | omega | (simp; omega)) | refine Ext.drew ?_ | refine Ext.drewN ?_ _ | refine Ext.alloc ?_ _ | refine Ext.setCell ?_ (by first | assumption | (simp; done) | (simp; omega)) _ | refine Below.setCell ?_ (by first | assumption | (simp; done) | (simp; omega)) _ | refine Ext.trans ?_ (by assumption)))))
    | (go_at_call 14; (with_reducible refine (ramount_any _ f 0 h1 h2).mono ?_); rintro e wb ⟨rfl, eb⟩; have xb : Ext w1 wb := (by (repeat (first | exact Below.refl _ _ | exact Ext.refl _ | assumption | refine Below.drew ?_ | refine below_drewN ?_ _ | refine below_alloc ?_ (by first | exact Nat.le_refl _ | assumption | (simp; done) | omega | (simp; omega)) _ | refine below_ext ?_ (by assumption) (by first | exact Nat.le_refl _ | assumption | (simp; done) | omega | (simp; omega)) | refine Ext.drew ?_ | refine Ext.drewN ?_ _ | refine Ext.alloc ?_ _ | refine Ext.setCell ?_ (by first | assumption | (simp; done) | (simp; omega)) _ | refine Below.setCell ?_ (by first | assumption | (simp; done) | (simp; omega)) _ | refine Ext.trans ?_ (by assumption)))))
    | (go_at_call 14; (with_reducible refine (ramount_any _ g 1 h3 h4).mono ?_); rintro e wc ⟨rfl, ec⟩; have xc : Ext w1 wc := (by (repeat (first | exact Below.refl _ _ | exact Ext.refl _ | assumption | refine Below.drew ?_ | refine below_drewN ?_ _ | refine below_alloc ?_ (by first | exact Nat.le_refl _ | assumption | (simp; done) | omega | (simp; omega)) _ | refine below_ext ?_ (by assumption) (by first | exact Nat.le_refl _ | assumption | (simp; done) | omega | (simp; omega)) | refine Ext.drew ?_ | refine Ext.drewN ?_ _ | refine Ext.alloc ?_ _ | refine Ext.setCell ?_ (by first | assumption | (simp; done) | (simp; omega)) _ | refine Below.setCell ?_ (by first | assumption | (simp; done) | (simp; omega)) _ | refine Ext.trans ?_ (by assumption)))))
    | (go_at_call 15; refine (HP.out _ (by (repeat (first | exact Below.refl _ _ | exact Ext.refl _ | assumption | refine Below.drew ?_ | refine below_drewN ?_ _ | refine below_alloc ?_ (by first | exact Nat.le_refl _ | assumption | (simp; done) | omega | (simp; omega)) _ | refine below_ext ?_ (by assumption) (by first | exact Nat.le_refl _ | assumption | (simp; done) | omega | (simp; omega)) | refine Ext.drew ?_ | refine Ext.drewN ?_ _ | refine Ext.alloc ?_ _ | refine Ext.setCell ?_ (by first | assumption | (simp; done) | (simp; omega)) _ | refine Below.setCell ?_ (by first | assumption | (simp; done) | (simp; omega)) _ | refine Ext.trans ?_ (by assumption))))).mono ?_; rintro e wd ⟨rfl, ed⟩; have xd : Ext w1 wd := (by (repeat (first | exact Below.refl _ _ | exact Ext.refl _ | assumption | refine Below.drew ?_ | refine below_drewN ?_ _ | refine below_alloc ?_ (by first | exact Nat.le_refl _ | assumption | (simp; done) | omega | (simp; omega)) _ | refine below_ext ?_ (by assumption) (by first | exact Nat.le_refl _ | assumption | (simp; done) | omega | (simp; omega)) | refine Ext.drew ?_ | refine Ext.drewN ?_ _ | refine Ext.alloc ?_ _ | refine Ext.setCell ?_ (by first | assumption | (simp; done) | (simp; omega)) _ | refine Below.setCell ?_ (by first | assumption | (simp; done) | (simp; omega)) _ | refine Ext.trans ?_ (by assumption))))))
  all_goals (go_ret; refine ⟨retB ?_, by (repeat (first | exact Below.refl _ _ | exact Ext.refl _ | assumption | refine Below.drew ?_ | refine below_drewN ?_ _ | refine below_alloc ?_ (by first | exact Nat.le_refl _ | assumption | (simp; done) | omega | (simp; omega)) _ | refine below_ext ?_ (by assumption) (by first | exact Nat.le_refl _ | assumption | (simp; done) | omega | (simp; omega)) | refine Ext.drew ?_ | refine Ext.drewN ?_ _ | refine Ext.alloc ?_ _ | refine Ext.setCell ?_ (by first | assumption | (simp; done) | (simp; omega)) _ | refine Below.setCell ?_ (by first | assumption | (simp; done) | (simp; omega)) _ | refine Ext.trans ?_ (by assumption)))⟩; rw [HS.out]; (first | (simp [*, sumZ]; done) | (rw [hp.out]; simp [*, sumZ]; done) | trace_state))

def zeroR (x : Rec) : Bool := x.name.toList == [] && x.frm == 0 && x.guid == 0 && decide (x.on = 0)
def indR (x : Rec) : Bool := decide (0 ≤ x.index) && decide (x.index < 1024)
set_option maxRecDepth 100000 in
set_option maxHeartbeats 2000000 in
theorem rcheck_any (w : World) (x : Rec) (hr : Rd w 0 w.heap.size x.oA (prps x.own)) (hx : x.wf) :
    Calls Try.prog 5 #[.agg x.cells.toArray] w fun e w' => e = .returned (.int .i64 (recE x)) ∧ Ext w w' := by
  have HM := Lib.hid (fun (hk : x.kind = 1) w1 (e1 : Ext w w1) => begin_any w1 x (Rd.at hr e1 (Nat.le_refl _)) hx hk)
  obtain ⟨h5, h6⟩ := hx.index
  obtain ⟨h7, h8⟩ := hx.count
  obtain ⟨h9, h10⟩ := hx.kind
  have h14 := hx.on
  have hv : Hid (recE x = if x.kind < 1 ∨ 4 < x.kind then 23 else if mayB x = true then 0 else 9) := Lib.hid rfl
  have m2 : Hid (x.kind = 2 → mayB x = (zeroR x && indR x && x.count == 0 && decide ((x.data.size : Int) = 16) && sumZ x)) := Lib.hid fun h => by
    rw [mayB, if_neg (by omega), if_pos h, zeroR, indR, show decide (x.data.size = 16) = decide ((x.data.size : Int) = 16) by rw [decide_eq_decide]; omega]
    rw [Bool.eq_iff_iff]
    simp only [Bool.and_eq_true]
    simp only [and_assoc, and_comm, and_left_comm]
  have m3 : Hid (x.kind = 3 → mayB x = (zeroR x && indR x && decide (1 ≤ x.count) && decide (x.count ≤ 1024 - x.index) && x.data.toList == [] && sumZ x)) := Lib.hid fun h => by
    rw [mayB, if_neg (by omega), if_neg (by omega), if_pos h, zeroR, indR]
    rw [Bool.eq_iff_iff]
    simp only [Bool.and_eq_true]
    simp only [and_assoc, and_comm, and_left_comm]
  have m4 : Hid (x.kind = 4 → mayB x = (zeroR x && x.index == 0 && x.count == 0 && x.data.toList == [])) := Lib.hid fun h => by
    rw [mayB, if_neg (by omega), if_neg (by omega), if_neg (by omega), zeroR]
    rw [Bool.eq_iff_iff]
    simp only [Bool.and_eq_true]
    simp only [and_assoc, and_comm, and_left_comm]
  have hz := Lib.hid (show zeroR x = (x.name.toList == [] && x.frm == 0 && x.guid == 0 && decide (x.on = 0)) from rfl)
  have hi := Lib.hid (show indR x = (decide (0 ≤ x.index) && decide (x.index < 1024)) from rfl)
  have hs := Lib.hid (show sumZ x = (x.s0 == 0 && x.s1 == 0 && x.s2 == 0 && x.s3 == 0) from rfl)
  have hcase : x.kind < 1 ∨ (1 ≤ x.kind ∧ 4 < x.kind) ∨ x.kind = 1 ∨ x.kind = 2 ∨ x.kind = 3 ∨ x.kind = 4 := by omega
  clear hx hr
  generalize recE x = y at *
  generalize mayB x = mb at *
  generalize zeroR x = zr at *
  generalize indR x = ir at *
  generalize sumZ x = sr at *
  obtain ⟨k, n, f, g, oA, on, oc, own, i, c, d, s0, s1, s2, s3⟩ := x
  simp only [Rec.cells] at *
  rcases hcase with a0 | ⟨a0, a1⟩ | hk
  · go_enter Try.func5, Try.ntmps5
    go_wp2_with fail
    go_ret
    exact ⟨retI (by rw [hv.out, if_pos (Or.inl a0)]), by (repeat (first | exact Below.refl _ _ | exact Ext.refl _ | assumption | refine Below.drew ?_ | refine below_drewN ?_ _ | refine below_alloc ?_ (by first | exact Nat.le_refl _ | assumption | (simp; done) | omega | (simp; omega)) _ | refine below_ext ?_ (by assumption) (by first | exact Nat.le_refl _ | assumption | (simp; done) | omega | (simp; omega)) | refine Ext.drew ?_ | refine Ext.drewN ?_ _ | refine Ext.alloc ?_ _ | refine Ext.setCell ?_ (by first | assumption | (simp; done) | (simp; omega)) _ | refine Below.setCell ?_ (by first | assumption | (simp; done) | (simp; omega)) _ | refine Ext.trans ?_ (by assumption)))⟩
  · go_enter Try.func5, Try.ntmps5
    go_wp2_with fail
    go_ret
    exact ⟨retI (by rw [hv.out, if_pos (Or.inr a1)]), by (repeat (first | exact Below.refl _ _ | exact Ext.refl _ | assumption | refine Below.drew ?_ | refine below_drewN ?_ _ | refine below_alloc ?_ (by first | exact Nat.le_refl _ | assumption | (simp; done) | omega | (simp; omega)) _ | refine below_ext ?_ (by assumption) (by first | exact Nat.le_refl _ | assumption | (simp; done) | omega | (simp; omega)) | refine Ext.drew ?_ | refine Ext.drewN ?_ _ | refine Ext.alloc ?_ _ | refine Ext.setCell ?_ (by first | assumption | (simp; done) | (simp; omega)) _ | refine Below.setCell ?_ (by first | assumption | (simp; done) | (simp; omega)) _ | refine Ext.trans ?_ (by assumption)))⟩
  · have hk1 : 1 ≤ k := by omega
    have hk4 : k ≤ 4 := by omega
    have hE := Lib.hid (show (d.toList == []) = d.toList.isEmpty by cases d.toList <;> rfl)
    have hv2 := Lib.hid (show y = if mb = true then 0 else 9 by rw [hv.out, if_neg (by omega)])
    go_enter Try.func5, Try.ntmps5
    go_upto_region 0 with (fail)
    go_cut [1] from 0 to 0 (fun s wx => s = .pointer (some ⟨w.heap.size, 0, none⟩) ∧ w.alloc (.cells #[.int .i64 k, .string n, .int .i64 f, .int .i64 g, .slice oA on oc, .int .i64 i, .int .i64 c, .string d, .int .u64 s0, .int .u64 s1, .int .u64 s2, .int .u64 s3] 28) = wx)
    case first =>
      go_wp2_with fail
      go_meet
      exact ⟨rfl, rfl⟩
    case rest =>
      obtain ⟨rfl, rfl⟩ := hcut
      generalize hw1 : World.alloc w _ = w1; obtain ⟨ew1, zw1, Gw1⟩ := box_cells hw1; have gw1_0 := Gw1 0 _ rfl; have gw1_1 := Gw1 1 _ rfl; have gw1_2 := Gw1 2 _ rfl; have gw1_3 := Gw1 3 _ rfl; have gw1_4 := Gw1 4 _ rfl; have gw1_5 := Gw1 5 _ rfl; have gw1_6 := Gw1 6 _ rfl; have gw1_7 := Gw1 7 _ rfl; have gw1_8 := Gw1 8 _ rfl; have gw1_9 := Gw1 9 _ rfl; have gw1_10 := Gw1 10 _ rfl; have gw1_11 := Gw1 11 _ rfl; have Zw1 := Lib.hid zw1; clear zw1 hw1 Gw1; have rw1 := Ext.refl w1
      go_upto_region 3 with (fail)
      go_cut [3] from 15 to 33 (fun s wx => s = .bool zr ∧ w1 = wx)
      case first =>
        go_wp2_with fail
        all_goals (go_meet; refine ⟨congrArg Value.bool ?_, rfl⟩; rw [hz.out]; (first | (simp [*]; done) | (simp [*]; rw [Bool.eq_iff_iff]; simp; done) | (simp [*]; omega) | trace_state))
      case rest =>
        obtain ⟨rfl, rfl⟩ := hcut
        go_upto_region 4 with (fail)
        go_cut [4] from 34 to 41 (fun s wx => s = .bool ir ∧ w1 = wx)
        case first =>
          go_wp2_with fail
          all_goals (go_meet; refine ⟨congrArg Value.bool ?_, rfl⟩; rw [hi.out]; (first | (simp [*]; done) | (simp [*]; omega) | trace_state))
        case rest =>
          obtain ⟨rfl, rfl⟩ := hcut
          go_upto_region 5 with (fail)
          go_cut [5] from 42 to 45 (fun s wx => s = .bool sr ∧ w1 = wx)
          case first =>
            go_wp2_with fail
            all_goals (go_meet; refine ⟨congrArg Value.bool ?_, rfl⟩; rw [hs.out]; (first | (simp [*]; done) | (simp [*]; omega) | trace_state))
          case rest =>
            obtain ⟨rfl, rfl⟩ := hcut
            rcases hk with rfl | rfl | rfl | rfl
            · go_wp2_with (go_at_call 10; refine (HM.out rfl _ (by (repeat (first | exact Below.refl _ _ | exact Ext.refl _ | assumption | refine Below.drew ?_ | refine below_drewN ?_ _ | refine below_alloc ?_ (by first | exact Nat.le_refl _ | assumption | (simp; done) | omega | (simp; omega)) _ | refine below_ext ?_ (by assumption) (by first | exact Nat.le_refl _ | assumption | (simp; done) | omega | (simp; omega)) | refine Ext.drew ?_ | refine Ext.drewN ?_ _ | refine Ext.alloc ?_ _ | refine Ext.setCell ?_ (by first | assumption | (simp; done) | (simp; omega)) _ | refine Below.setCell ?_ (by first | assumption | (simp; done) | (simp; omega)) _ | refine Ext.trans ?_ (by assumption))))).mono ?_; rintro e w3 ⟨rfl, e3⟩)
              all_goals (go_ret; refine ⟨retI ?_, by (repeat (first | exact Below.refl _ _ | exact Ext.refl _ | assumption | refine Below.drew ?_ | refine below_drewN ?_ _ | refine below_alloc ?_ (by first | exact Nat.le_refl _ | assumption | (simp; done) | omega | (simp; omega)) _ | refine below_ext ?_ (by assumption) (by first | exact Nat.le_refl _ | assumption | (simp; done) | omega | (simp; omega)) | refine Ext.drew ?_ | refine Ext.drewN ?_ _ | refine Ext.alloc ?_ _ | refine Ext.setCell ?_ (by first | assumption | (simp; done) | (simp; omega)) _ | refine Below.setCell ?_ (by first | assumption | (simp; done) | (simp; omega)) _ | refine Ext.trans ?_ (by assumption)))⟩; rw [hv2.out]; cases mb <;> simp_all)
            · have hm2 := Lib.hid (m2.out rfl)
              go_wp2_with fail
              all_goals (go_ret; refine ⟨retI ?_, by (repeat (first | exact Below.refl _ _ | exact Ext.refl _ | assumption | refine Below.drew ?_ | refine below_drewN ?_ _ | refine below_alloc ?_ (by first | exact Nat.le_refl _ | assumption | (simp; done) | omega | (simp; omega)) _ | refine below_ext ?_ (by assumption) (by first | exact Nat.le_refl _ | assumption | (simp; done) | omega | (simp; omega)) | refine Ext.drew ?_ | refine Ext.drewN ?_ _ | refine Ext.alloc ?_ _ | refine Ext.setCell ?_ (by first | assumption | (simp; done) | (simp; omega)) _ | refine Below.setCell ?_ (by first | assumption | (simp; done) | (simp; omega)) _ | refine Ext.trans ?_ (by assumption)))⟩; rw [hv2.out, hm2.out]; cases zr <;> cases ir <;> cases sr <;> (first | contradiction | exact absurd ‹(!true) = true› (by decide) | exact absurd ‹(!false) = false› (by decide) | (simp; done) | (simp; omega) | (simp; intros; omega) | (rw [hE.out]; cases hd : d.toList.isEmpty <;> (first | (refine absurd (a := (!d.toList.isEmpty) = true) ?_ ?_; assumption; rw [hd]; decide) | (refine absurd (a := (!d.toList.isEmpty) = false) ?_ ?_; assumption; rw [hd]; decide) | (refine absurd (a := d.toList = []) ?_ ?_; assumption; intro q; rw [q] at hd; simp at hd; done) | (refine absurd (a := ¬ d.toList = []) ?_ ?_; assumption; intro q; exact q (List.isEmpty_iff.1 hd)) | (simp; done) | (simp; omega) | (simp; intros; omega))) | trace_state))
            · have hm3 := Lib.hid (m3.out rfl)
              have hI : ir = false ∨ (ir = true ∧ 0 ≤ i ∧ i < 1024) := by
                rw [hi.out]
                by_cases q0 : 0 ≤ i <;> by_cases q1 : i < 1024 <;> simp [q0, q1]
              rcases hI with rfl | ⟨rfl, i0, i1⟩ <;> go_wp2_with fail
              all_goals (go_ret; refine ⟨retI ?_, by (repeat (first | exact Below.refl _ _ | exact Ext.refl _ | assumption | refine Below.drew ?_ | refine below_drewN ?_ _ | refine below_alloc ?_ (by first | exact Nat.le_refl _ | assumption | (simp; done) | omega | (simp; omega)) _ | refine below_ext ?_ (by assumption) (by first | exact Nat.le_refl _ | assumption | (simp; done) | omega | (simp; omega)) | refine Ext.drew ?_ | refine Ext.drewN ?_ _ | refine Ext.alloc ?_ _ | refine Ext.setCell ?_ (by first | assumption | (simp; done) | (simp; omega)) _ | refine Below.setCell ?_ (by first | assumption | (simp; done) | (simp; omega)) _ | refine Ext.trans ?_ (by assumption)))⟩; rw [hv2.out, hm3.out]; cases zr <;> cases sr <;> (first | contradiction | exact absurd ‹(!true) = true› (by decide) | exact absurd ‹(!false) = false› (by decide) | (simp; done) | (simp; omega) | (simp; intros; omega) | (rw [hE.out]; cases hd : d.toList.isEmpty <;> (first | (refine absurd (a := (!d.toList.isEmpty) = true) ?_ ?_; assumption; rw [hd]; decide) | (refine absurd (a := (!d.toList.isEmpty) = false) ?_ ?_; assumption; rw [hd]; decide) | (refine absurd (a := d.toList = []) ?_ ?_; assumption; intro q; rw [q] at hd; simp at hd; done) | (refine absurd (a := ¬ d.toList = []) ?_ ?_; assumption; intro q; exact q (List.isEmpty_iff.1 hd)) | (simp; done) | (simp; omega) | (simp; intros; omega))) | trace_state))
            · have hm4 := Lib.hid (m4.out rfl)
              go_wp2_with fail
              all_goals (go_ret; refine ⟨retI ?_, by (repeat (first | exact Below.refl _ _ | exact Ext.refl _ | assumption | refine Below.drew ?_ | refine below_drewN ?_ _ | refine below_alloc ?_ (by first | exact Nat.le_refl _ | assumption | (simp; done) | omega | (simp; omega)) _ | refine below_ext ?_ (by assumption) (by first | exact Nat.le_refl _ | assumption | (simp; done) | omega | (simp; omega)) | refine Ext.drew ?_ | refine Ext.drewN ?_ _ | refine Ext.alloc ?_ _ | refine Ext.setCell ?_ (by first | assumption | (simp; done) | (simp; omega)) _ | refine Below.setCell ?_ (by first | assumption | (simp; done) | (simp; omega)) _ | refine Ext.trans ?_ (by assumption)))⟩; rw [hv2.out, hm4.out]; cases zr <;> cases ir <;> cases sr <;> (first | contradiction | exact absurd ‹(!true) = true› (by decide) | exact absurd ‹(!false) = false› (by decide) | (simp; done) | (simp; omega) | (simp; intros; omega) | (rw [hE.out]; cases hd : d.toList.isEmpty <;> (first | (refine absurd (a := (!d.toList.isEmpty) = true) ?_ ?_; assumption; rw [hd]; decide) | (refine absurd (a := (!d.toList.isEmpty) = false) ?_ ?_; assumption; rw [hd]; decide) | (refine absurd (a := d.toList = []) ?_ ?_; assumption; intro q; rw [q] at hd; simp at hd; done) | (refine absurd (a := ¬ d.toList = []) ?_ ?_; assumption; intro q; exact q (List.isEmpty_iff.1 hd)) | (simp; done) | (simp; omega) | (simp; intros; omega))) | trace_state))
end Go.Proofs.Ytmbnmggpnbapbaa
