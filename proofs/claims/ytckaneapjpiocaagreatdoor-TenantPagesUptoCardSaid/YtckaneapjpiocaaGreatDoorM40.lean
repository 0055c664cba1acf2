/- The texts Tpg in one file. -/
import Derived.Test.YtckaneapjpiocaaGreatDoorM34
import Derived.Test.YtckaneapjpiocaaGreatDoorM39
/- TenantPages: the walk. -/
namespace Go.Proofs.YtckaneapjpiocaaGreatDoor
open Go.RowKit Go.Maps Go.Sort Go.Shelf
set_option linter.unusedVariables false
set_option linter.unusedSimpArgs false

theorem chT_le {w : World} {lo hi : Nat} {t : Tnt} (h : Tnt.At w lo hi t) (hs : t.sets.n ≤ 32) (hg : t.stages.n ≤ 4) : chT t ≤ 35184443392036 := by
  have h1 := sum_le_mul (t.sets.xs.map chS) 1099513724929 fun z hz => by
    obtain ⟨y, hy, rfl⟩ := List.mem_map.1 hz
    exact chS_le (h.sets.all y hy)
  have h2 : t.sets.xs.length ≤ 32 := by rw [← h.sets.len]; exact hs
  have h3 := sum_le_mul (t.stages.xs.map chG) 1048577 fun z hz => by
    obtain ⟨y, hy, rfl⟩ := List.mem_map.1 hz
    have hy2 := h.stages.all y hy
    have := hy2.bodyM
    rw [hy2.bodyN] at this
    rw [chG]; omega
  have h4 : t.stages.xs.length ≤ 4 := by rw [← h.stages.len]; exact hg
  rw [List.length_map] at h1 h3
  have h5 := Nat.le_trans h1 (Nat.le_trans (Nat.mul_le_mul_right 1099513724929 h2) (show 32 * 1099513724929 ≤ 35184439197728 by decide))
  have h6 := Nat.le_trans h3 (Nat.le_trans (Nat.mul_le_mul_right 1048577 h4) (show 4 * 1048577 ≤ 4194308 by decide))
  rw [chT]
  omega
set_option maxRecDepth 100000 in
set_option maxHeartbeats 8000000 in
theorem tpages_any (w : World) (t : Tnt) (hM : MaxV w) (h : Tnt.At w 0 w.heap.size t) :
    Calls Tryz.prog 3 #[.agg t.cells.toArray] w fun e w' => e = .returned (.bool true) ∧ Ext w w' := by
  have HAl := Lib.hid (alive25_any)
  have HMx := Lib.hid hM
  have HPg := Lib.hid (fun W (hW : Ext w W) => pages_any W t (hM.ext hW) (Tnt.At.on h hW (Nat.le_refl _)))
  by_cases ht : tenB t = true
  · have hN : pagN t = needO ((objT t).map dat) := if_pos ht
    have hE : tenE t = 0 := if_pos ht
    have HOb := Lib.hid (fun W (hW : Ext w W) => objects_any W t (Tnt.At.on h hW (Nat.le_refl _)) (fun W' hW' => tcheck_any W' t (hM.ext (hW.trans hW')) (Tnt.At.on h (hW.trans hW') (Nat.le_refl _))))
    have HOs := Lib.hid (fun W e w' (q : ObsOk W t e w') => show ∃ (A : Option Addr) (c : Nat) (os : List Ob), e = .returned (.tuple #[.slice A os.length c, .int .i64 0]) ∧ Ext W w' ∧ Calls Tryz.prog 15 #[.slice A os.length c] w' fun e w'' => e = .returned (.int .i64 (needO ((objT t).map dat))) ∧ Ext w' w'' by
      rcases q with ⟨q, _⟩ | ⟨_, A, c, os, q1, q2, q3⟩
      · rw [q] at ht; cases ht
      · obtain ⟨p1, p2, p3⟩ := obs_at ht q2 q3
        refine ⟨A, c, os, q1, q3.ext, ?_⟩
        rw [← p3]
        refine need_any w' ⟨A, os.length, c, os⟩ p1 ?_ p2
        have hl := congrArg List.length q2
        rw [List.length_map] at hl
        show os.length ≤ 1000
        rw [hl]
        simp only [tenB, setsB, stsB, Bool.and_eq_true, decide_eq_true_eq] at ht
        rw [obL, objT]
        simp only [List.length_map, List.length_cons, List.length_append]
        have := ht.2.2.2.1.1
        have := ht.2.2.2.2.2.1.1
        omega)
    have hle := need_le t ht
    have hs32 : t.sets.n ≤ 32 ∧ t.stages.n ≤ 4 := by
      rw [h.sets.len, h.stages.len]
      simp only [tenB, setsB, stsB, Bool.and_eq_true, decide_eq_true_eq] at ht
      exact ⟨ht.2.2.2.1.1, ht.2.2.2.2.2.1.1⟩
    have HCh := Lib.hid (fun W (hW : Ext w W) => rcharge_any W t (Tnt.At.on h hW (Nat.le_refl _)) hs32.1 hs32.2)
    have hch := chT_le h hs32.1 hs32.2
    rw [hN, hE] at HPg
    obtain ⟨OO, hOO⟩ : ∃ OO, OO = fun W => ObsOk W t := ⟨_, rfl⟩
    have HO2 := Lib.hid (fun W (hW : Ext w W) => show Calls Tryz.prog 14 #[.agg t.cells.toArray] W (OO W) by rw [hOO]; exact HOb.out W hW)
    have HOs2 := Lib.hid (fun W e w' (q : OO W e w') => HOs.out W e w' (by rw [hOO] at q; exact q))
    clear HOb HOs hOO hN hE h hM ht hs32
    generalize needO ((objT t).map dat) = NV at *
    generalize chT t = CT at *
    obtain ⟨name, quota, next, ⟨sA, sn, sc, ss⟩, ⟨gA, gn, gc, gs⟩, ⟨aA, an, ac, ax⟩, ⟨lA, ln, lc, ls⟩⟩ := t
    simp only [Tnt.cells, Sl.val] at *
    have hw1 : IntKind.i64.wrap (24 * (CT : Int)) = 24 * (CT : Int) := IntWalk.i64_in _ (by omega)
    have hw2 : IntKind.i64.wrap (160 + 24 * (CT : Int)) = 160 + 24 * (CT : Int) := IntWalk.i64_in _ (by omega)
    have hd : decide ((NV : Int) ≤ 160 + 24 * (CT : Int)) = true := decide_eq_true (by omega)
    clear hle hch
    go_enter Tryz.func3, Tryz.ntmps3
    go_upto_region 1 with fail
    generalize hwH : World.alloc w _ = w1; have HH := Lib.hid (Heap.one hwH); clear hwH
    go_wp2_with fail
    refine (HAl.out _ (HMx.out.ext HH.out.ext)).mono ?_
    rintro e w2 ⟨rfl, e2⟩
    have HH2 := Lib.hid (HH.out.later e2)
    clear HH e2
    have HH := HH2
    clear HH2
    go_wp2_with (refine shl_load HH.out sizeTnt (by kernel_rfl) rfl rfl rfl 0 rfl rfl ?_)
    refine (HPg.out _ HH.out.ext).mono ?_
    rintro e w3 ⟨rfl, e3⟩
    have HH2 := Lib.hid (HH.out.later e3)
    clear HH e3
    have HH := HH2
    clear HH2
    go_upto_region 6 with fail
    go_wp2_with (refine shl_load HH.out sizeTnt (by kernel_rfl) rfl rfl rfl 0 rfl rfl ?_)
    refine (HO2.out _ HH.out.ext).mono ?_
    intro e w4 h4
    obtain ⟨A4, c4, os, rfl, e4, hNd⟩ := HOs2.out _ _ _ h4
    have HNd := Lib.hid hNd
    have HH2 := Lib.hid (HH.out.later e4)
    clear HH e4 h4 hNd
    have HH := HH2
    clear HH2
    go_wp2_with fail
    refine HNd.out.mono ?_
    rintro e w5 ⟨rfl, e5⟩
    have HH2 := Lib.hid (HH.out.later e5)
    clear HH e5
    have HH := HH2
    clear HH2
    have c0 := (HH.out.boxAt 0 rfl).cell 0 _ rfl; have c1 := (HH.out.boxAt 0 rfl).cell 1 _ rfl; have c2 := (HH.out.boxAt 0 rfl).cell 2 _ rfl; have c3 := (HH.out.boxAt 0 rfl).cell 3 _ rfl; have c4 := (HH.out.boxAt 0 rfl).cell 4 _ rfl; have c5 := (HH.out.boxAt 0 rfl).cell 5 _ rfl; have c6 := (HH.out.boxAt 0 rfl).cell 6 _ rfl
    go_wp2_with fail
    refine (HCh.out _ HH.out.ext).mono ?_
    rintro e w6 ⟨rfl, e6⟩
    have HE := Lib.hid (HH.out.ext.trans e6)
    go_wp2_with fail
    go_ret
    exact ⟨retB (by simp [hw1, hw2, hd]), HE.out⟩
  · have hN : pagN t = 0 := if_neg ht
    have hE : tenE t = 9 := if_neg ht
    have HCk := Lib.hid (fun W (hW : Ext w W) => rcheck_any W t (Tnt.At.on h hW (Nat.le_refl _)))
    rw [hN, hE] at HPg
    rw [hE] at HCk
    clear hN hE h hM ht
    obtain ⟨name, quota, next, ⟨sA, sn, sc, ss⟩, ⟨gA, gn, gc, gs⟩, ⟨aA, an, ac, ax⟩, ⟨lA, ln, lc, ls⟩⟩ := t
    simp only [Tnt.cells, Sl.val] at *
    go_enter Tryz.func3, Tryz.ntmps3
    go_upto_region 1 with fail
    generalize hwH : World.alloc w _ = w1; have HH := Lib.hid (Heap.one hwH); clear hwH
    go_wp2_with fail
    refine (HAl.out _ (HMx.out.ext HH.out.ext)).mono ?_
    rintro e w2 ⟨rfl, e2⟩
    have HH2 := Lib.hid (HH.out.later e2)
    clear HH e2
    have HH := HH2
    clear HH2
    go_wp2_with (refine shl_load HH.out sizeTnt (by kernel_rfl) rfl rfl rfl 0 rfl rfl ?_)
    refine (HPg.out _ HH.out.ext).mono ?_
    rintro e w3 ⟨rfl, e3⟩
    have HH2 := Lib.hid (HH.out.later e3)
    clear HH e3
    have HH := HH2
    clear HH2
    have c0 := (HH.out.boxAt 0 rfl).cell 0 _ rfl; have c1 := (HH.out.boxAt 0 rfl).cell 1 _ rfl; have c2 := (HH.out.boxAt 0 rfl).cell 2 _ rfl; have c3 := (HH.out.boxAt 0 rfl).cell 3 _ rfl; have c4 := (HH.out.boxAt 0 rfl).cell 4 _ rfl; have c5 := (HH.out.boxAt 0 rfl).cell 5 _ rfl; have c6 := (HH.out.boxAt 0 rfl).cell 6 _ rfl
    go_wp2_with fail
    refine (HCk.out _ HH.out.ext).mono ?_
    rintro e w4 ⟨rfl, e4⟩
    have HE := Lib.hid (HH.out.ext.trans e4)
    go_wp2_with fail
    go_ret
    exact ⟨rfl, HE.out⟩
end Go.Proofs.YtckaneapjpiocaaGreatDoor
