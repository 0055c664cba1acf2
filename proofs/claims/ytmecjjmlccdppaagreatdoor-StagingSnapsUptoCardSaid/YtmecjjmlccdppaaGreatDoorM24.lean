/- The texts Rsg, Rtk, Num in one file. -/
import Derived.Test.YtmecjjmlccdppaaGreatDoorM18
import Derived.Test.YtmecjjmlccdppaaGreatDoorM23
import Derived.Test.YtmecjjmlccdppaaGreatDoorM19
import Derived.Test.YtmecjjmlccdppaaGreatDoorM21
/- The reference's Start (chapter 19): the walk. -/
namespace Go.Proofs.YtmecjjmlccdppaaGreatDoor
open Go.RowKit
set_option linter.unusedVariables false
set_option linter.unusedSimpArgs false

set_option maxRecDepth 100000 in
set_option maxHeartbeats 8000000 in
theorem rstart_any (w : World) (into : ByteArray) (hin : into.size ≤ 100000000) (r : Rec) (hr : Rd w 0 w.heap.size r.oA (prps r.own)) (hx : r.wf) (hon : r.on ≤ 100000000) (hs : (sumR r).wf)
    (bA : Option Addr) (bn bc : Nat) (base : List Blk) (hbn : bn = base.length) (hbm : bn ≤ 100000000) (hbr : Rd w 0 w.heap.size bA (blks base)) (hbw : ∀ y ∈ base, y.wf) (raw : Int) (hw1 : -9223372036854775808 ≤ raw) (hw2 : raw ≤ 9223372036854775807) :
    Calls Tryz.prog 8 #[.string into, .agg r.cells.toArray, .slice bA bn bc, .int .i64 raw] w (StOut w (startA into r base raw) (startE into r base raw) false) := by
  have HPa := Lib.hid (fun W => rpath_any into W (by omega))
  have HEn := Lib.hid (fun W (hW : Ext w W) => rencode_any W r (Rd.at hr hW (Nat.le_refl _)) hx hon hs)
  have HEx := Lib.hid (fun W e w' (h : EncOk r W e w') => show ∃ v, e = .returned (.tuple #[v, .int .i64 (recE r)]) ∧ w'.ownsRow W.heap.size 5 1 v (encB r).length (bytes (encB r)) ∧ Ext W w' from h)
  have HBk := Lib.hid (fun W (hW : Ext w W) => rbcheck_any W bA bn bc base hbn (by omega) (Rd.at hbr hW (Nat.le_refl _)) hbw)
  have HBo := Lib.hid (fun W (hW : Ext w W) => rown_any W bA bn bc base hbn (Rd.at hbr hW (Nat.le_refl _)) (by omega))
  have HV := Lib.hid (show startE into r base raw = if into.size = 0 then 31 else if pathB into = false then 31 else if recE r ≠ 0 then recE r else if r.kind ≠ 1 then 35 else if bkE base ≠ 0 then 9
    else if amt raw = false then 4 else if amt (raw + ((encB r).length : Int)) = false then 4 else 0 from rfl)
  have HSA := Lib.hid (show startA into r base raw = if startE into r base raw = 0 then ⟨into, r.bare, none, 0, 0, base, raw + ((encB r).length : Int), 0, feed Su.zero (encB r), false⟩ else zeroS from rfl)
  have HLn := Lib.hid (encB_len r)
  have HBE := Lib.hid (bkE_cases base)
  have HBn := Lib.hid hbn
  have HR := Lib.hid hr
  have HOn := Lib.hid hx.own
  have hon' := hon
  clear hr hx hs hbn hbr hbw hon
  generalize startE into r base raw = V at *
  generalize startA into r base raw = SA at *
  obtain ⟨q, hq⟩ : ∃ q, q = feed Su.zero (encB r) := ⟨_, rfl⟩
  rw [← hq] at HSA
  have HQ := Lib.hid hq
  clear hq
  generalize EncOk r = EO at *
  generalize encB r = B at *
  obtain ⟨m, hm⟩ : ∃ m, m = B.length := ⟨_, rfl⟩
  rw [← hm] at HLn HEx HV HSA
  have HM := Lib.hid hm
  clear hm
  generalize recE r = RE at *
  generalize bkE base = BE at *
  obtain ⟨kind, name, frm, guid, oA, on, oc, own, index, count, data, s0, s1, s2, s3⟩ := r
  dsimp only at HV HOn hon' HR
  simp only [Rec.cells] at HEn ⊢
  have hm2 : m ≤ 1000 := HLn.out
  by_cases c1 : into.size = 0
  · have HF := Lib.hid (show V = 31 by rw [HV.out, if_pos c1])
    obtain rfl := empty_of into c1
    clear c1
    have HG := Lib.hid (show SA = zeroS by rw [HSA.out, HF.out]; rfl); go_enter Tryz.func8, Tryz.ntmps8; go_upto_region 1 with fail; generalize hwH : World.alloc (World.alloc w _) _ = w1; have HH := Lib.hid (Heap.two hwH); clear hwH; go_wp2_with (first | (refine shl_load HH.out sizeRec (by kernel_rfl) rfl rfl rfl 1 rfl rfl ?_) | (refine shl_store HH.out sizeStg rfl rfl rfl rfl 0 rfl rfl rfl rfl ?_; clear HH; intro wS HHS; have HH := Lib.hid HHS; clear HHS) | (refine shl_load1 HH.out rfl rfl rfl 1 rfl rfl (by decide +kernel) ?_) | (go_at_call 32; (with_reducible refine (HPa.out _).mono ?_); rintro e wC ⟨rfl, eC⟩; have HHn := Lib.hid (HH.out.later eC); clear HH eC; have HH := HHn; clear HHn)); refine ret_cell2 sizeStg (by kernel_rfl) HH.out rfl rfl rfl 0 rfl rfl rfl ?_; rw [HF.out, HG.out]; exact stout_zero HH.out.ext
  · rw [if_neg c1] at HV
    have b0 : into.toList.isEmpty = false := by
      rw [ByteArray.toList_eq, List.isEmpty_eq_false_iff]
      intro e
      have := len_data into
      rw [e] at this
      exact c1 this.symm
    clear c1
    by_cases c2 : pathB into = false
    · have HF := Lib.hid (show V = 31 by rw [HV.out, if_pos c2])
      have HG := Lib.hid (show SA = zeroS by rw [HSA.out, HF.out]; rfl); go_enter Tryz.func8, Tryz.ntmps8; go_upto_region 1 with fail; generalize hwH : World.alloc (World.alloc w _) _ = w1; have HH := Lib.hid (Heap.two hwH); clear hwH; go_wp2_with (first | (refine shl_load HH.out sizeRec (by kernel_rfl) rfl rfl rfl 1 rfl rfl ?_) | (refine shl_store HH.out sizeStg rfl rfl rfl rfl 0 rfl rfl rfl rfl ?_; clear HH; intro wS HHS; have HH := Lib.hid HHS; clear HHS) | (refine shl_load1 HH.out rfl rfl rfl 1 rfl rfl (by decide +kernel) ?_) | (go_at_call 32; (with_reducible refine (HPa.out _).mono ?_); rintro e wC ⟨rfl, eC⟩; have HHn := Lib.hid (HH.out.later eC); clear HH eC; have HH := HHn; clear HHn)); refine ret_cell2 sizeStg (by kernel_rfl) HH.out rfl rfl rfl 0 rfl rfl rfl ?_; rw [HF.out, HG.out]; exact stout_zero HH.out.ext
    · rw [if_neg c2] at HV
      rw [Bool.not_eq_false] at c2
      go_enter Tryz.func8, Tryz.ntmps8; go_upto_region 1 with fail; generalize hwH : World.alloc (World.alloc w _) _ = w1; have HH := Lib.hid (Heap.two hwH); clear hwH
      go_upto_region 3 with (first | (refine shl_load HH.out sizeRec (by kernel_rfl) rfl rfl rfl 1 rfl rfl ?_) | (refine shl_store HH.out sizeStg rfl rfl rfl rfl 0 rfl rfl rfl rfl ?_; clear HH; intro wS HHS; have HH := Lib.hid HHS; clear HHS) | (refine shl_load1 HH.out rfl rfl rfl 1 rfl rfl (by decide +kernel) ?_) | (go_at_call 32; (with_reducible refine (HPa.out _).mono ?_); rintro e wC ⟨rfl, eC⟩; have HHn := Lib.hid (HH.out.later eC); clear HH eC; have HH := HHn; clear HHn))
      go_wp2_with (refine shl_load HH.out sizeRec (by kernel_rfl) rfl rfl rfl 1 rfl rfl ?_)
      refine (HEn.out _ HH.out.ext).mono ?_
      intro e w5 hEO
      obtain ⟨v5, rfl, hown5, e5⟩ := HEx.out _ _ _ hEO
      obtain ⟨A5, d5, rfl, k1, k2, _⟩ := own_form hown5
      have HH5 := Lib.hid (HH.out.addRow e5 hown5)
      clear HH hown5 e5 hEO
      have HH := HH5
      clear HH5
      go_upto_region 4 with fail
      by_cases c3 : RE = 0
      · rw [if_neg (by simpa using c3)] at HV
        subst c3
        by_cases c4 : kind = 1
        · rw [if_neg (by simpa using c4)] at HV
          subst c4
          rcases HBE.out with c5 | c5
          · subst c5
            rw [if_neg (by simp)] at HV
            by_cases c6 : raw < 0
            · have HF := Lib.hid (show V = 4 by rw [HV.out, if_pos (by simp [amt]; omega)])
              have HG := Lib.hid (zero_of_ne HSA.out (by rw [HF.out]; first | assumption | decide)); go_wp2_with (first | (refine shl_load1 HH.out rfl rfl rfl 2 rfl rfl (by decide +kernel) ?_) | (refine shl_store HH.out sizeStg rfl rfl rfl rfl 1 rfl rfl rfl rfl ?_; clear HH; intro wS HHS; have HH := Lib.hid HHS; clear HHS) | (go_at_call 34; (with_reducible refine (HBk.out _ HH.out.ext).mono ?_); rintro e wC ⟨rfl, eC⟩; have HHn := Lib.hid (HH.out.later eC); clear HH eC; have HH := HHn; clear HHn)); refine ret_cell2 sizeStg (by kernel_rfl) HH.out rfl rfl rfl 1 rfl rfl rfl ?_; rw [HF.out, HG.out]; exact stout_zero HH.out.ext
            · by_cases c7 : 1099511627776 - (m : Int) < raw
              · have HF := Lib.hid (show V = 4 by
                  rw [HV.out]
                  split
                  · rfl
                  · rw [if_pos (by simp [amt]; omega)])
                have HG := Lib.hid (zero_of_ne HSA.out (by rw [HF.out]; first | assumption | decide)); go_wp2_with (first | (refine shl_load1 HH.out rfl rfl rfl 2 rfl rfl (by decide +kernel) ?_) | (refine shl_store HH.out sizeStg rfl rfl rfl rfl 1 rfl rfl rfl rfl ?_; clear HH; intro wS HHS; have HH := Lib.hid HHS; clear HHS) | (go_at_call 34; (with_reducible refine (HBk.out _ HH.out.ext).mono ?_); rintro e wC ⟨rfl, eC⟩; have HHn := Lib.hid (HH.out.later eC); clear HH eC; have HH := HHn; clear HHn)); refine ret_cell2 sizeStg (by kernel_rfl) HH.out rfl rfl rfl 1 rfl rfl rfl ?_; rw [HF.out, HG.out]; exact stout_zero HH.out.ext
              · have HF := Lib.hid (show V = 0 by rw [HV.out, if_neg (by simp [amt]; omega), if_neg (by simp [amt]; omega)])
                go_upto_region 12 with (first | (refine shl_load1 HH.out rfl rfl rfl 2 rfl rfl (by decide +kernel) ?_) | (go_at_call 34; (with_reducible refine (HBk.out _ HH.out.ext).mono ?_); rintro e wC ⟨rfl, eC⟩; have HHn := Lib.hid (HH.out.later eC); clear HH eC; have HH := HHn; clear HHn))
                have HHd := Lib.hid HH.out.drew
                clear HH
                refine wp_region_held_drew (S := Heap w [_]) (by kernel_rfl) (HHd.out.only 2 rfl) (fun hHeld => ?_)
                generalize hwd : World.drew _ = wd at *
                clear hwd
                refine takeL 0 (v := ?_) rfl (by kernel_rfl) (by kernel_rfl) (by kernel_rfl) (fun _ _ _ h => h) (by kernel_rfl) ?_ (by assumption) ?_; rotate_left; (focus (intro w hSw; (try dsimp only at hSw); go_simp <;> with_reducible rfl)); (try simp only [Act.put, List.setIfInBounds_toArray, List.set_cons_zero, List.set_cons_succ])
                refine takeL 1 rfl (by kernel_rfl) (by kernel_rfl) (by kernel_rfl) (fun _ _ _ h => h) (by kernel_rfl) (fun wT hST => sh_run_load hST sizeRec (by kernel_rfl) rfl rfl 0 rfl (Nat.le_of_ble_eq_true rfl)) hHeld ?_; (try simp only [Act.put, List.setIfInBounds_toArray, List.set_cons_zero, List.set_cons_succ])
                refine takeL 2 (v := ?_) rfl (by kernel_rfl) (by kernel_rfl) (by kernel_rfl) (fun _ _ _ h => h) (by kernel_rfl) ?_ (by assumption) ?_; rotate_left; (focus (intro w hSw; (try dsimp only at hSw); go_simp <;> with_reducible rfl)); (try simp only [Act.put, List.setIfInBounds_toArray, List.set_cons_zero, List.set_cons_succ])
                refine takeL 4 (v := ?_) rfl (by kernel_rfl) (by kernel_rfl) (by kernel_rfl) (fun _ _ _ h => h) (by kernel_rfl) ?_ (by assumption) ?_; rotate_left; (focus (intro w hSw; (try dsimp only at hSw); go_simp <;> with_reducible rfl)); (try simp only [Act.put, List.setIfInBounds_toArray, List.set_cons_zero, List.set_cons_succ])
                refine takeL 5 (v := ?_) rfl (by kernel_rfl) (by kernel_rfl) (by kernel_rfl) (fun _ _ _ h => h) (by kernel_rfl) ?_ (by assumption) ?_; rotate_left; (focus (intro w hSw; (try dsimp only at hSw); go_simp <;> with_reducible rfl)); (try simp only [Act.put, List.setIfInBounds_toArray, List.set_cons_zero, List.set_cons_succ])
                refine takeL 6 (v := ?_) rfl (by kernel_rfl) (by kernel_rfl) (by kernel_rfl) (fun _ _ _ h => h) (by kernel_rfl) ?_ (by assumption) ?_; rotate_left; (focus (intro w hSw; (try dsimp only at hSw); go_simp <;> with_reducible rfl)); (try simp only [Act.put, List.setIfInBounds_toArray, List.set_cons_zero, List.set_cons_succ])
                refine takeL 7 (v := ?_) rfl (by kernel_rfl) (by kernel_rfl) (by kernel_rfl) (fun _ _ _ h => h) (by kernel_rfl) ?_ (by assumption) ?_; rotate_left; (focus (intro w hSw; (try dsimp only at hSw); go_simp <;> with_reducible rfl)); (try simp only [Act.put, List.setIfInBounds_toArray, List.set_cons_zero, List.set_cons_succ])
                rw [show IntKind.i64.wrap (raw + (m : Int)) = raw + m from IntWalk.i64_in _ (by omega)]
                refine takeL 8 (v := ?_) rfl (by kernel_rfl) (by kernel_rfl) (by kernel_rfl) (fun _ _ _ h => h) (by kernel_rfl) ?_ (by assumption) ?_; rotate_left; (focus (intro w hSw; (try dsimp only at hSw); go_simp <;> with_reducible rfl)); (try simp only [Act.put, List.setIfInBounds_toArray, List.set_cons_zero, List.set_cons_succ])
                refine takeL 9 (v := ?_) rfl (by kernel_rfl) (by kernel_rfl) (by kernel_rfl) (fun _ _ _ h => h) (by kernel_rfl) ?_ (by assumption) ?_; rotate_left; (focus (intro w hSw; (try dsimp only at hSw); go_simp <;> with_reducible rfl)); (try simp only [Act.put, List.setIfInBounds_toArray, List.set_cons_zero, List.set_cons_succ])
                clear hHeld
                refine oneL 3 rfl (by kernel_rfl) (by kernel_rfl) (fun K hK => ?_)
                go_simp; refine (HBo.out _ HHd.out.ext).mono ?_; rintro e w8 ⟨vw8, rfl, hownw8, ew8⟩; obtain ⟨Aw8, cw8, rfl, _, _, _⟩ := own_form hownw8; have HH8 := Lib.hid ((HHd).out.addRow ew8 hownw8); clear HHd hownw8 ew8; go_wp2_with fail
                refine hK.out _ _ ((HH8).out.only 3 rfl) (fun hHeld => ?_); clear hK K; (try simp only [Act.put, List.setIfInBounds_toArray, List.set_cons_zero, List.set_cons_succ]); clear hHeld
                refine oneL 10 rfl (by kernel_rfl) (by kernel_rfl) (fun K hK => ?_)
                go_simp
                refine (rfeed_any w8 Su.zero A5 m d5 B HM.out ((Rd.of_own (HH8.out.rowAt 1 rfl)).more (Nat.zero_le _) (Nat.le_refl _)) (by omega)).mono ?_
                rintro e w9 ⟨rfl, e9⟩
                have HH9 := Lib.hid (HH8.out.later e9)
                clear HH8 e9
                obtain ⟨qa, qb, qc, qd⟩ := q
                rw [← HQ.out]
                simp only [Su.cells]
                go_wp2_with fail
                refine hK.out _ _ ((HH9).out.only 3 rfl) (fun hHeld => ?_); clear hK K; (try simp only [Act.put, List.setIfInBounds_toArray, List.set_cons_zero, List.set_cons_succ])
                refine takeL 11 (v := ?_) rfl (by kernel_rfl) (by kernel_rfl) (by kernel_rfl) (fun _ _ _ h => h) (by kernel_rfl) ?_ (by assumption) ?_; rotate_left; (focus (intro w hSw; (try dsimp only at hSw); go_simp <;> with_reducible rfl)); (try simp only [Act.put, List.setIfInBounds_toArray, List.set_cons_zero, List.set_cons_succ])
                clear hHeld
                refine oneL 12 rfl (by kernel_rfl) (by kernel_rfl) (fun K hK => ?_)
                refine sh_store HH9.out sizeStg rfl rfl rfl 2 rfl rfl (Nat.le_of_ble_eq_true rfl) rfl ?_
                intro wa hha
                have HHa := Lib.hid hha
                clear hha HH9
                refine hK.out _ _ ((HHa).out.only 3 rfl) (fun hHeld => ?_); clear hK K; (try simp only [Act.put, List.setIfInBounds_toArray, List.set_cons_zero, List.set_cons_succ])
                refine takeL 13 (v := ?_) rfl (by kernel_rfl) (by kernel_rfl) (by kernel_rfl) (fun _ _ _ h => h) (by kernel_rfl) ?_ (by assumption) ?_; rotate_left; (focus (intro w hSw; (try dsimp only at hSw); go_simp <;> with_reducible rfl)); (try simp only [Act.put, List.setIfInBounds_toArray, List.set_cons_zero, List.set_cons_succ])
                refine wpAnyH_done (by kernel_rfl) ?_ _
                go_wp2_with fail
                have HG := Lib.hid (HSA.out.trans (if_pos HF.out))
                refine ret_cell2 sizeStg (by kernel_rfl) HHa.out rfl rfl rfl 2 rfl rfl rfl ?_
                rw [HF.out, HG.out]
                exact ⟨⟨into, ⟨1, name, frm, guid, oA, on, oc, own, index, count, data, s0, s1, s2, s3⟩, Aw8, bn, cw8, base, raw + (m : Int), 0, ⟨qa, qb, qc, qd⟩, false⟩, rfl, rfl, ⟨Rd.at HR.out HHa.out.ext (Nat.le_refl _), HOn.out, hon', HBn.out, (by show bn ≤ 200000000; omega), (Rd.of_own (HHa.out.rowAt 0 rfl)).more (Nat.zero_le _) (Nat.le_refl _)⟩, fun h => absurd h (by decide), HHa.out.ext⟩
          · have HF := Lib.hid (show V = 9 by rw [HV.out, if_pos (by rw [c5]; decide)])
            subst c5
            have HG := Lib.hid (zero_of_ne HSA.out (by rw [HF.out]; first | assumption | decide)); go_wp2_with (first | (refine shl_load1 HH.out rfl rfl rfl 2 rfl rfl (by decide +kernel) ?_) | (refine shl_store HH.out sizeStg rfl rfl rfl rfl 1 rfl rfl rfl rfl ?_; clear HH; intro wS HHS; have HH := Lib.hid HHS; clear HHS) | (go_at_call 34; (with_reducible refine (HBk.out _ HH.out.ext).mono ?_); rintro e wC ⟨rfl, eC⟩; have HHn := Lib.hid (HH.out.later eC); clear HH eC; have HH := HHn; clear HHn)); refine ret_cell2 sizeStg (by kernel_rfl) HH.out rfl rfl rfl 1 rfl rfl rfl ?_; rw [HF.out, HG.out]; exact stout_zero HH.out.ext
        · have HF := Lib.hid (show V = 35 by rw [HV.out, if_pos c4])
          have d4 : (kind != 1) = true := by simpa using c4
          clear c4
          have HG := Lib.hid (zero_of_ne HSA.out (by rw [HF.out]; first | assumption | decide)); go_wp2_with (first | (refine shl_load1 HH.out rfl rfl rfl 2 rfl rfl (by decide +kernel) ?_) | (refine shl_store HH.out sizeStg rfl rfl rfl rfl 1 rfl rfl rfl rfl ?_; clear HH; intro wS HHS; have HH := Lib.hid HHS; clear HHS) | (go_at_call 34; (with_reducible refine (HBk.out _ HH.out.ext).mono ?_); rintro e wC ⟨rfl, eC⟩; have HHn := Lib.hid (HH.out.later eC); clear HH eC; have HH := HHn; clear HHn)); refine ret_cell2 sizeStg (by kernel_rfl) HH.out rfl rfl rfl 1 rfl rfl rfl ?_; rw [HF.out, HG.out]; exact stout_zero HH.out.ext
      · have HF := Lib.hid (show V = RE by rw [HV.out, if_pos c3])
        have d3 : (RE != 0) = true := by simpa using c3
        have HG := Lib.hid (zero_of_ne HSA.out (by rw [HF.out]; first | assumption | decide)); go_wp2_with (first | (refine shl_load1 HH.out rfl rfl rfl 2 rfl rfl (by decide +kernel) ?_) | (refine shl_store HH.out sizeStg rfl rfl rfl rfl 1 rfl rfl rfl rfl ?_; clear HH; intro wS HHS; have HH := Lib.hid HHS; clear HHS) | (go_at_call 34; (with_reducible refine (HBk.out _ HH.out.ext).mono ?_); rintro e wC ⟨rfl, eC⟩; have HHn := Lib.hid (HH.out.later eC); clear HH eC; have HH := HHn; clear HHn)); refine ret_cell2 sizeStg (by kernel_rfl) HH.out rfl rfl rfl 1 rfl rfl rfl ?_; rw [HF.out, HG.out]; exact stout_zero HH.out.ext
end Go.Proofs.YtmecjjmlccdppaaGreatDoor
/- The reference's Take: the walk. -/
namespace Go.Proofs.YtmecjjmlccdppaaGreatDoor
open Go.RowKit
set_option linter.unusedVariables false
set_option linter.unusedSimpArgs false

set_option maxRecDepth 100000 in
set_option maxHeartbeats 8000000 in
theorem rtake_any (w : World) (x : Stg) (hx : x.ok w) (r : Rec) (hr : Rd w 0 w.heap.size r.oA (prps r.own)) (hrx : r.wf) (hron : r.on ≤ 100000000) (hrs : (sumR r).wf) :
    Calls Tryz.prog 10 #[.agg x.cells.toArray, .agg r.cells.toArray] w (StOut w (stakeA x r) (stakeE x r) false) := by
  have HSt := Lib.hid (fun W (hW : Ext w W) => rstage_any W x (hx.ext hW))
  have HEn := Lib.hid (fun W (hW : Ext w W) => rencode_any W r (Rd.at hr hW (Nat.le_refl _)) hrx hron hrs)
  have HEx := Lib.hid (fun W e w' (h : EncOk r W e w') => show ∃ v, e = .returned (.tuple #[v, .int .i64 (recE r)]) ∧ w'.ownsRow W.heap.size 5 1 v (encB r).length (bytes (encB r)) ∧ Ext W w' from h)
  have HPut := Lib.hid (fun (hb0 : bkE x.body = 0) (hE : recE r = 0) (hk : r.kind = 2) W (hW : Ext w W) b (hB : Bx W b r.cells) => apply2_any W x.bA x.bn x.bc x.body hx.bodyN hx.bodyM (Rd.at hx.bodyR hW (Nat.le_refl _)) hx.bodyW hb0 b r hB (Rd.at hr hW (Nat.le_refl _)) hrx hE hk)
  have HFree := Lib.hid (fun (hb0 : bkE x.body = 0) (hE : recE r = 0) (hk : r.kind = 3) W (hW : Ext w W) b (hB : Bx W b r.cells) => apply3_any W x.bA x.bn x.bc x.body hx.bodyN hx.bodyM (Rd.at hx.bodyR hW (Nat.le_refl _)) hx.bodyW hb0 b r hB (Rd.at hr hW (Nat.le_refl _)) hrx hE hk)
  have HBr := Lib.hid hx.begR
  have HBd := Lib.hid hx.bodyR
  have HSt0 := Lib.hid (show stE x = if stB x then 0 else 9 from rfl)
  have HV := Lib.hid (show stakeE x r = if stE x ≠ 0 then stE x else if recE r ≠ 0 then recE r else if stakeBad x r = true then 35 else if stakeSum x r = true then 34
    else if 1099511627776 - ((encB r).length : Int) < x.pos then 4 else 0 from rfl)
  have HSA := Lib.hid (show stakeA x r = if stakeE x r = 0 then ⟨x.into, x.beg.bare, none, 0, 0, stakeBody x r, x.pos + ((encB r).length : Int), if r.kind = 2 then r.index + 1 else if r.kind = 3 then r.index + r.count else x.next,
    if r.kind = 4 then x.su else feed x.su (encB r), r.kind == 4⟩ else zeroS from rfl)
  have HLn := Lib.hid (encB_len r)
  have HRb := Lib.hid (rec_bounds r)
  have HSb := Lib.hid (stg_bounds x)
  have HBn := Lib.hid hx.bodyN
  have HBm := Lib.hid hx.bodyM
  have HOn := Lib.hid hx.beg.own
  have HOm := Lib.hid hx.begN
  have HPl := Lib.hid (ptd_len x.body r.index r.data)
  have HFl := Lib.hid (frd_len x.body r.index r.count)
  have HTb := Lib.hid (show stakeBody x r = if r.kind = 2 then ptd x.body r.index r.data else if r.kind = 3 then frd x.body r.index r.count else x.body from rfl)
  clear hx hr hrx hron hrs
  generalize stakeE x r = V at *
  generalize stakeA x r = SA at *
  generalize stakeBody x r = TB at *
  obtain ⟨q, hq⟩ : ∃ q, q = feed x.su (encB r) := ⟨_, rfl⟩
  rw [← hq] at HSA
  have HQ := Lib.hid hq
  clear hq
  generalize EncOk r = EO at *
  generalize encB r = B at *
  obtain ⟨m, hm⟩ : ∃ m, m = B.length := ⟨_, rfl⟩
  rw [← hm] at HLn HEx HV HSA
  have HM := Lib.hid hm
  clear hm
  generalize recE r = RE at *
  generalize stB x = SB at *
  generalize stE x = SE at *
  generalize ptd x.body r.index r.data = PD at *
  generalize frd x.body r.index r.count = FD at *
  obtain ⟨kind, name, frm, guid, oA, on, oc, own, index, count, data, s0, s1, s2, s3⟩ := r
  obtain ⟨into, ⟨kind', name', frm', guid', oA', on', oc', own', index', count', data', t0, t1, t2, t3⟩, bA, bn, bc, body, pos, next, ⟨ua, ub, uc, ud⟩, dn⟩ := x
  dsimp only at HV HSA HPut HFree HRb HSb HBn HBm HOn HOm HPl HFl HTb HQ HBr HBd
  simp only [stakeBad, stakeSum, sumEq, sumR] at HV
  simp only [Rec.cells] at HEn HPut HFree
  simp only [Stg.cells, Rec.cells, Su.cells, List.cons_append, List.nil_append] at HSt ⊢
  have hm2 : m ≤ 1000 := HLn.out
  go_enter Tryz.func10, Tryz.ntmps10
  go_upto_region 1 with fail
  generalize hwH : World.alloc (World.alloc (World.alloc w _) _) _ = w1; have HH := Lib.hid (Heap.three hwH); clear hwH
  go_wp2_with (refine shl_load HH.out sizeStg (by kernel_rfl) rfl rfl rfl 2 rfl rfl ?_)
  refine (HSt.out _ HH.out.ext).mono ?_
  rintro e w3 ⟨rfl, e3⟩
  have HH3 := Lib.hid (HH.out.later e3)
  clear HH e3
  have HH := HH3
  clear HH3
  cases SB with
  | false =>
    have HF := Lib.hid (show V = 9 by rw [HV.out, HSt0.out]; rfl)
    have HG := Lib.hid (zero_of_ne HSA.out (by rw [HF.out]; decide))
    go_wp2_with (refine shl_store HH.out sizeStg rfl rfl rfl rfl 0 rfl rfl rfl rfl ?_; clear HH; intro wS HHS; have HH := Lib.hid HHS; clear HHS)
    refine ret_cell2 sizeStg (by kernel_rfl) HH.out rfl rfl rfl 0 rfl rfl rfl ?_
    rw [HF.out, HG.out]
    exact stout_zero HH.out.ext
  | true =>
    have c1 : SE = 0 := HSt0.out
    rw [if_neg (by simpa using c1)] at HV
    subst c1
    obtain ⟨hb0, ⟨hp1, hp2⟩, hn1, hn2⟩ := HSb.out rfl
    have HB0 := Lib.hid hb0
    clear hb0
    go_upto_region 3 with fail
    go_wp2_with (refine shl_load HH.out sizeRec (by kernel_rfl) rfl rfl rfl 1 rfl rfl ?_)
    refine (HEn.out _ HH.out.ext).mono ?_
    intro e w5 hEO
    obtain ⟨v5, rfl, hown5, e5⟩ := HEx.out _ _ _ hEO
    obtain ⟨A5, d5, rfl, k1, k2, _⟩ := own_form hown5
    have HH5 := Lib.hid (HH.out.addRow e5 hown5)
    clear HH hown5 e5 hEO
    have HH := HH5
    clear HH5
    go_upto_region 4 with fail
    by_cases c2 : RE = 0
    · rw [if_neg (by simpa using c2)] at HV
      subst c2
      obtain ⟨⟨hk1, hk2⟩, HR2, HR3⟩ := HRb.out rfl
      have HK2 := Lib.hid HR2
      have HK3 := Lib.hid HR3
      clear HR2 HR3
      obtain ⟨g0, g1, g2, g3, g4, g5, g6, g7, g8, g9, g10, g11⟩ := bx12 (HH.out.boxAt 2 rfl) _ (Ext.refl _)
      obtain ⟨k0, k1, k2, k3, k4, k5, k6, k7, k8, k9, k10, k11, k12, k13, k14, k15, k16, k17, k18, k19, k20⟩ := bx21 (HH.out.boxAt 3 rfl) _ (Ext.refl _)
      rcases (show kind = 1 ∨ kind = 2 ∨ kind = 3 ∨ kind = 4 by omega) with rfl | rfl | rfl | rfl
      · have HF := Lib.hid (show V = 35 by rw [HV.out]; simp)
        cases dn with
        | true => go_upto_region 7 with fail; have HG := Lib.hid (zero_of_ne HSA.out (by rw [HF.out]; first | assumption | decide)); go_wp2_with (refine shl_store HH.out sizeStg rfl rfl rfl rfl 1 rfl rfl rfl rfl ?_; clear HH; intro wS HHS; have HH := Lib.hid HHS; clear HHS); refine ret_cell2 sizeStg (by kernel_rfl) HH.out rfl rfl rfl 1 rfl rfl rfl ?_; rw [HF.out, HG.out]; exact stout_zero HH.out.ext
        | false => go_upto_region 7 with fail; have HG := Lib.hid (zero_of_ne HSA.out (by rw [HF.out]; first | assumption | decide)); go_wp2_with (refine shl_store HH.out sizeStg rfl rfl rfl rfl 1 rfl rfl rfl rfl ?_; clear HH; intro wS HHS; have HH := Lib.hid HHS; clear HHS); refine ret_cell2 sizeStg (by kernel_rfl) HH.out rfl rfl rfl 1 rfl rfl rfl ?_; rw [HF.out, HG.out]; exact stout_zero HH.out.ext
      · cases dn with
        | true =>
          have HF := Lib.hid (show V = 35 by rw [HV.out]; simp)
          go_upto_region 7 with fail; have HG := Lib.hid (zero_of_ne HSA.out (by rw [HF.out]; first | assumption | decide)); go_wp2_with (refine shl_store HH.out sizeStg rfl rfl rfl rfl 1 rfl rfl rfl rfl ?_; clear HH; intro wS HHS; have HH := Lib.hid HHS; clear HHS); refine ret_cell2 sizeStg (by kernel_rfl) HH.out rfl rfl rfl 1 rfl rfl rfl ?_; rw [HF.out, HG.out]; exact stout_zero HH.out.ext
        | false =>
          by_cases c3 : index < next
          · have HF := Lib.hid (show V = 35 by rw [HV.out]; simp [c3])
            go_upto_region 7 with fail; have HG := Lib.hid (zero_of_ne HSA.out (by rw [HF.out]; first | assumption | decide)); go_wp2_with (refine shl_store HH.out sizeStg rfl rfl rfl rfl 1 rfl rfl rfl rfl ?_; clear HH; intro wS HHS; have HH := Lib.hid HHS; clear HHS); refine ret_cell2 sizeStg (by kernel_rfl) HH.out rfl rfl rfl 1 rfl rfl rfl ?_; rw [HF.out, HG.out]; exact stout_zero HH.out.ext
          · by_cases c7 : 1099511627776 - (m : Int) < pos
            · have HF := Lib.hid (show V = 4 by rw [HV.out]; simp [c3, c7])
              go_upto_region 11 with fail; have HG := Lib.hid (zero_of_ne HSA.out (by rw [HF.out]; first | assumption | decide)); go_wp2_with (refine shl_store HH.out sizeStg rfl rfl rfl rfl 1 rfl rfl rfl rfl ?_; clear HH; intro wS HHS; have HH := Lib.hid HHS; clear HHS); refine ret_cell2 sizeStg (by kernel_rfl) HH.out rfl rfl rfl 1 rfl rfl rfl ?_; rw [HF.out, HG.out]; exact stout_zero HH.out.ext
            · have HF := Lib.hid (show V = 0 by rw [HV.out]; simp [c3, c7])
              go_upto_region 12 with fail; clear g0 g1 g2 g3 g4 g5 g6 g7 g8 g9 g10 g11 k0 k1 k2 k3 k4 k5 k6 k7 k8 k9 k10 k11 k12 k13 k14 k15 k16 k17 k18 k19 k20; go_upto_region 13 with (first | (refine shl_load HH.out sizeStg (by kernel_rfl) rfl rfl rfl 3 rfl rfl ?_) | (refine shl_store (HH.out.alloc _ _) sizeStg rfl rfl rfl rfl 0 rfl rfl rfl rfl ?_; clear HH; intro wS HHS; have HH := Lib.hid HHS; clear HHS))
              have hk := HK2.out (by trivial)
              go_upto_region 17 with (first | (refine shl_load1 HH.out rfl rfl rfl 4 rfl rfl (by decide +kernel) ?_) | (refine shl_load1 HH.out rfl rfl rfl 3 rfl rfl (by decide +kernel) ?_) | (refine shl_store1 HH.out rfl rfl rfl rfl 0 rfl rfl rfl (by kernel_rfl) ?_; clear HH; intro wS HHS; have HH := Lib.hid HHS; clear HHS)); go_wp2_with (refine shl_load HH.out sizeSu (by kernel_rfl) rfl rfl rfl 4 rfl rfl ?_); refine (rfeed_any _ ⟨ua, ub, uc, ud⟩ A5 m d5 B HM.out ((Rd.of_own (HH.out.rowAt 1 rfl)).more (Nat.zero_le _) (Nat.le_refl _)) (by omega)).mono ?_; rintro e w7 ⟨rfl, e7⟩; have HH7 := Lib.hid (HH.out.later e7); clear HH e7; have HH := HH7; clear HH7; obtain ⟨qa, qb, qc, qd⟩ := q; rw [← HQ.out]; simp only [Su.cells]; go_wp2_with (first | (refine shl_store HH.out sizeSu rfl rfl rfl rfl 0 rfl rfl rfl rfl ?_; clear HH; intro wS HHS; have HH := Lib.hid HHS; clear HHS) | (refine shl_load HH.out sizeRec (by kernel_rfl) rfl rfl rfl 3 rfl rfl ?_) | (refine shl_load1 HH.out rfl rfl rfl 4 rfl rfl (by decide +kernel) ?_)); generalize hwA : World.alloc _ _ = w9; have HH9 := Lib.hid (HH.out.allocE hwA); clear hwA HH; have HH := HH9; clear HH9; refine (HPut.out HB0.out (by trivial) (by trivial) _ HH.out.ext _ (HH.out.boxAt 0 rfl)).mono ?_; rintro e w10 ⟨v10, E10, rfl, hown10, e10⟩; obtain ⟨A10, c10, rfl, k3, k4, _⟩ := own_form hown10; have HH10 := Lib.hid (HH.out.addRow e10 hown10); clear HH hown10 e10; have HH := HH10; clear HH10; go_wp2_with (first | (refine shl_load HH.out sizeStg (by kernel_rfl) rfl rfl rfl 2 rfl rfl ?_) | (refine shl_store HH.out sizeStg rfl rfl rfl rfl 4 rfl rfl rfl rfl ?_; clear HH; intro wS HHS; have HH := Lib.hid HHS; clear HHS) | (refine shl_store1 HH.out rfl rfl rfl rfl 2 rfl rfl rfl (by kernel_rfl) ?_; clear HH; intro wS HHS; have HH := Lib.hid HHS; clear HHS) | (refine shl_load1 HH.out rfl rfl rfl 5 rfl rfl (by decide +kernel) ?_)); refine ret_cell2 sizeStg (by kernel_rfl) HH.out rfl rfl rfl 4 rfl rfl rfl ?_; rw [HF.out]
              have HG := Lib.hid (HSA.out.trans (if_pos HF.out)); have HT := Lib.hid (show TB = PD from by simpa using HTb.out); rw [HG.out, HT.out]; exact ⟨⟨into, ⟨kind', name', frm', guid', oA', on', oc', own', index', count', data', t0, t1, t2, t3⟩, A10, (PD).length, c10, PD, pos + (m : Int), index + 1, ⟨qa, qb, qc, qd⟩, false⟩, rfl, rfl, ⟨Rd.at HBr.out HH.out.ext (Nat.le_refl _), HOn.out, HOm.out, rfl, (by have := (HPl).out; have := HBm.out; have := HBn.out; show (PD).length ≤ 200000000; omega), (Rd.of_own (HH.out.rowAt 0 rfl)).more (Nat.zero_le _) (Nat.le_refl _)⟩, fun h => absurd h (by decide), HH.out.ext⟩
      · cases dn with
        | true =>
          have HF := Lib.hid (show V = 35 by rw [HV.out]; simp)
          go_upto_region 7 with fail; have HG := Lib.hid (zero_of_ne HSA.out (by rw [HF.out]; first | assumption | decide)); go_wp2_with (refine shl_store HH.out sizeStg rfl rfl rfl rfl 1 rfl rfl rfl rfl ?_; clear HH; intro wS HHS; have HH := Lib.hid HHS; clear HHS); refine ret_cell2 sizeStg (by kernel_rfl) HH.out rfl rfl rfl 1 rfl rfl rfl ?_; rw [HF.out, HG.out]; exact stout_zero HH.out.ext
        | false =>
          by_cases c3 : index < next
          · have HF := Lib.hid (show V = 35 by rw [HV.out]; simp [c3])
            go_upto_region 7 with fail; have HG := Lib.hid (zero_of_ne HSA.out (by rw [HF.out]; first | assumption | decide)); go_wp2_with (refine shl_store HH.out sizeStg rfl rfl rfl rfl 1 rfl rfl rfl rfl ?_; clear HH; intro wS HHS; have HH := Lib.hid HHS; clear HHS); refine ret_cell2 sizeStg (by kernel_rfl) HH.out rfl rfl rfl 1 rfl rfl rfl ?_; rw [HF.out, HG.out]; exact stout_zero HH.out.ext
          · by_cases c7 : 1099511627776 - (m : Int) < pos
            · have HF := Lib.hid (show V = 4 by rw [HV.out]; simp [c3, c7])
              go_upto_region 11 with fail; have HG := Lib.hid (zero_of_ne HSA.out (by rw [HF.out]; first | assumption | decide)); go_wp2_with (refine shl_store HH.out sizeStg rfl rfl rfl rfl 1 rfl rfl rfl rfl ?_; clear HH; intro wS HHS; have HH := Lib.hid HHS; clear HHS); refine ret_cell2 sizeStg (by kernel_rfl) HH.out rfl rfl rfl 1 rfl rfl rfl ?_; rw [HF.out, HG.out]; exact stout_zero HH.out.ext
            · have HF := Lib.hid (show V = 0 by rw [HV.out]; simp [c3, c7])
              go_upto_region 12 with fail; clear g0 g1 g2 g3 g4 g5 g6 g7 g8 g9 g10 g11 k0 k1 k2 k3 k4 k5 k6 k7 k8 k9 k10 k11 k12 k13 k14 k15 k16 k17 k18 k19 k20; go_upto_region 13 with (first | (refine shl_load HH.out sizeStg (by kernel_rfl) rfl rfl rfl 3 rfl rfl ?_) | (refine shl_store (HH.out.alloc _ _) sizeStg rfl rfl rfl rfl 0 rfl rfl rfl rfl ?_; clear HH; intro wS HHS; have HH := Lib.hid HHS; clear HHS))
              have hk := HK3.out (by trivial)
              go_upto_region 17 with (first | (refine shl_load1 HH.out rfl rfl rfl 4 rfl rfl (by decide +kernel) ?_) | (refine shl_load1 HH.out rfl rfl rfl 3 rfl rfl (by decide +kernel) ?_) | (refine shl_store1 HH.out rfl rfl rfl rfl 0 rfl rfl rfl (by kernel_rfl) ?_; clear HH; intro wS HHS; have HH := Lib.hid HHS; clear HHS)); go_wp2_with (refine shl_load HH.out sizeSu (by kernel_rfl) rfl rfl rfl 4 rfl rfl ?_); refine (rfeed_any _ ⟨ua, ub, uc, ud⟩ A5 m d5 B HM.out ((Rd.of_own (HH.out.rowAt 1 rfl)).more (Nat.zero_le _) (Nat.le_refl _)) (by omega)).mono ?_; rintro e w7 ⟨rfl, e7⟩; have HH7 := Lib.hid (HH.out.later e7); clear HH e7; have HH := HH7; clear HH7; obtain ⟨qa, qb, qc, qd⟩ := q; rw [← HQ.out]; simp only [Su.cells]; go_wp2_with (first | (refine shl_store HH.out sizeSu rfl rfl rfl rfl 0 rfl rfl rfl rfl ?_; clear HH; intro wS HHS; have HH := Lib.hid HHS; clear HHS) | (refine shl_load HH.out sizeRec (by kernel_rfl) rfl rfl rfl 3 rfl rfl ?_) | (refine shl_load1 HH.out rfl rfl rfl 4 rfl rfl (by decide +kernel) ?_)); generalize hwA : World.alloc _ _ = w9; have HH9 := Lib.hid (HH.out.allocE hwA); clear hwA HH; have HH := HH9; clear HH9; refine (HFree.out HB0.out (by trivial) (by trivial) _ HH.out.ext _ (HH.out.boxAt 0 rfl)).mono ?_; rintro e w10 ⟨v10, E10, rfl, hown10, e10⟩; obtain ⟨A10, c10, rfl, k3, k4, _⟩ := own_form hown10; have HH10 := Lib.hid (HH.out.addRow e10 hown10); clear HH hown10 e10; have HH := HH10; clear HH10; go_wp2_with (first | (refine shl_load HH.out sizeStg (by kernel_rfl) rfl rfl rfl 2 rfl rfl ?_) | (refine shl_store HH.out sizeStg rfl rfl rfl rfl 4 rfl rfl rfl rfl ?_; clear HH; intro wS HHS; have HH := Lib.hid HHS; clear HHS) | (refine shl_store1 HH.out rfl rfl rfl rfl 2 rfl rfl rfl (by kernel_rfl) ?_; clear HH; intro wS HHS; have HH := Lib.hid HHS; clear HHS) | (refine shl_load1 HH.out rfl rfl rfl 5 rfl rfl (by decide +kernel) ?_)); refine ret_cell2 sizeStg (by kernel_rfl) HH.out rfl rfl rfl 4 rfl rfl rfl ?_; rw [HF.out]
              have HG := Lib.hid (HSA.out.trans (if_pos HF.out)); have HT := Lib.hid (show TB = FD from by simpa using HTb.out); rw [HG.out, HT.out]; exact ⟨⟨into, ⟨kind', name', frm', guid', oA', on', oc', own', index', count', data', t0, t1, t2, t3⟩, A10, (FD).length, c10, FD, pos + (m : Int), index + count, ⟨qa, qb, qc, qd⟩, false⟩, rfl, rfl, ⟨Rd.at HBr.out HH.out.ext (Nat.le_refl _), HOn.out, HOm.out, rfl, (by have := (HFl).out; have := HBm.out; have := HBn.out; show (FD).length ≤ 200000000; omega), (Rd.of_own (HH.out.rowAt 0 rfl)).more (Nat.zero_le _) (Nat.le_refl _)⟩, fun h => absurd h (by decide), HH.out.ext⟩
      · cases dn with
        | true =>
          have HF := Lib.hid (show V = 35 by rw [HV.out]; simp)
          go_upto_region 7 with fail; have HG := Lib.hid (zero_of_ne HSA.out (by rw [HF.out]; first | assumption | decide)); go_wp2_with (refine shl_store HH.out sizeStg rfl rfl rfl rfl 1 rfl rfl rfl rfl ?_; clear HH; intro wS HHS; have HH := Lib.hid HHS; clear HHS); refine ret_cell2 sizeStg (by kernel_rfl) HH.out rfl rfl rfl 1 rfl rfl rfl ?_; rw [HF.out, HG.out]; exact stout_zero HH.out.ext
        | false =>
          by_cases q0 : s0 = ua
          · subst q0
            by_cases q1 : s1 = ub
            · subst q1
              by_cases q2 : s2 = uc
              · subst q2
                by_cases q3 : s3 = ud
                · subst q3
                  by_cases c7 : 1099511627776 - (m : Int) < pos
                  · have HF := Lib.hid (show V = 4 by rw [HV.out]; simp [c7])
                    go_upto_region 11 with fail; have HG := Lib.hid (zero_of_ne HSA.out (by rw [HF.out]; first | assumption | decide)); go_wp2_with (refine shl_store HH.out sizeStg rfl rfl rfl rfl 1 rfl rfl rfl rfl ?_; clear HH; intro wS HHS; have HH := Lib.hid HHS; clear HHS); refine ret_cell2 sizeStg (by kernel_rfl) HH.out rfl rfl rfl 1 rfl rfl rfl ?_; rw [HF.out, HG.out]; exact stout_zero HH.out.ext
                  · have HF := Lib.hid (show V = 0 by rw [HV.out]; simp [c7])
                    go_upto_region 12 with fail; clear g0 g1 g2 g3 g4 g5 g6 g7 g8 g9 g10 g11 k0 k1 k2 k3 k4 k5 k6 k7 k8 k9 k10 k11 k12 k13 k14 k15 k16 k17 k18 k19 k20; go_upto_region 13 with (first | (refine shl_load HH.out sizeStg (by kernel_rfl) rfl rfl rfl 3 rfl rfl ?_) | (refine shl_store (HH.out.alloc _ _) sizeStg rfl rfl rfl rfl 0 rfl rfl rfl rfl ?_; clear HH; intro wS HHS; have HH := Lib.hid HHS; clear HHS))
                    go_wp2_with (first | (refine shl_load HH.out sizeStg (by kernel_rfl) rfl rfl rfl 0 rfl rfl ?_) | (refine shl_store HH.out sizeStg rfl rfl rfl rfl 2 rfl rfl rfl rfl ?_; clear HH; intro wS HHS; have HH := Lib.hid HHS; clear HHS) | (refine shl_store1 HH.out rfl rfl rfl rfl 0 rfl rfl rfl (by kernel_rfl) ?_; clear HH; intro wS HHS; have HH := Lib.hid HHS; clear HHS) | (refine shl_load1 HH.out rfl rfl rfl 3 rfl rfl (by decide +kernel) ?_) | (refine shl_load1 HH.out rfl rfl rfl 4 rfl rfl (by decide +kernel) ?_))
                    refine ret_cell2 sizeStg (by kernel_rfl) HH.out rfl rfl rfl 2 rfl rfl rfl ?_
                    rw [HF.out]
                    have HG := Lib.hid (HSA.out.trans (if_pos HF.out))
                    have HT := Lib.hid (show TB = body from by simpa using HTb.out)
                    rw [HG.out, HT.out]
                    exact ⟨⟨into, ⟨kind', name', frm', guid', oA', on', oc', own', index', count', data', t0, t1, t2, t3⟩, bA, bn, bc, body, pos + (m : Int), next, ⟨s0, s1, s2, s3⟩, true⟩, rfl, rfl, ⟨Rd.at HBr.out HH.out.ext (Nat.le_refl _), HOn.out, HOm.out, HBn.out, (by have := HBm.out; show bn ≤ 200000000; omega), Rd.at HBd.out HH.out.ext (Nat.le_refl _)⟩, fun h => absurd h (by decide), HH.out.ext⟩
                · have HF := Lib.hid (show V = 34 by rw [HV.out]; simp [q3]); have d0 : (s3 == ud) = false := (by simpa using q3); go_upto_region 9 with fail; have HG := Lib.hid (zero_of_ne HSA.out (by rw [HF.out]; first | assumption | decide)); go_wp2_with (refine shl_store HH.out sizeStg rfl rfl rfl rfl 1 rfl rfl rfl rfl ?_; clear HH; intro wS HHS; have HH := Lib.hid HHS; clear HHS); refine ret_cell2 sizeStg (by kernel_rfl) HH.out rfl rfl rfl 1 rfl rfl rfl ?_; rw [HF.out, HG.out]; exact stout_zero HH.out.ext
              · have HF := Lib.hid (show V = 34 by rw [HV.out]; simp [q2]); have d0 : (s2 == uc) = false := (by simpa using q2); go_upto_region 9 with fail; have HG := Lib.hid (zero_of_ne HSA.out (by rw [HF.out]; first | assumption | decide)); go_wp2_with (refine shl_store HH.out sizeStg rfl rfl rfl rfl 1 rfl rfl rfl rfl ?_; clear HH; intro wS HHS; have HH := Lib.hid HHS; clear HHS); refine ret_cell2 sizeStg (by kernel_rfl) HH.out rfl rfl rfl 1 rfl rfl rfl ?_; rw [HF.out, HG.out]; exact stout_zero HH.out.ext
            · have HF := Lib.hid (show V = 34 by rw [HV.out]; simp [q1]); have d0 : (s1 == ub) = false := (by simpa using q1); go_upto_region 9 with fail; have HG := Lib.hid (zero_of_ne HSA.out (by rw [HF.out]; first | assumption | decide)); go_wp2_with (refine shl_store HH.out sizeStg rfl rfl rfl rfl 1 rfl rfl rfl rfl ?_; clear HH; intro wS HHS; have HH := Lib.hid HHS; clear HHS); refine ret_cell2 sizeStg (by kernel_rfl) HH.out rfl rfl rfl 1 rfl rfl rfl ?_; rw [HF.out, HG.out]; exact stout_zero HH.out.ext
          · have HF := Lib.hid (show V = 34 by rw [HV.out]; simp [q0]); have d0 : (s0 == ua) = false := (by simpa using q0); go_upto_region 9 with fail; have HG := Lib.hid (zero_of_ne HSA.out (by rw [HF.out]; first | assumption | decide)); go_wp2_with (refine shl_store HH.out sizeStg rfl rfl rfl rfl 1 rfl rfl rfl rfl ?_; clear HH; intro wS HHS; have HH := Lib.hid HHS; clear HHS); refine ret_cell2 sizeStg (by kernel_rfl) HH.out rfl rfl rfl 1 rfl rfl rfl ?_; rw [HF.out, HG.out]; exact stout_zero HH.out.ext
    · have HF := Lib.hid (show V = RE by rw [HV.out, if_pos c2])
      have d3 : (RE != 0) = true := by simpa using c2
      go_upto_region 5 with fail; have HG := Lib.hid (zero_of_ne HSA.out (by rw [HF.out]; first | assumption | decide)); go_wp2_with (refine shl_store HH.out sizeStg rfl rfl rfl rfl 1 rfl rfl rfl rfl ?_; clear HH; intro wS HHS; have HH := Lib.hid HHS; clear HHS); refine ret_cell2 sizeStg (by kernel_rfl) HH.out rfl rfl rfl 1 rfl rfl rfl ?_; rw [HF.out, HG.out]; exact stout_zero HH.out.ext
end Go.Proofs.YtmecjjmlccdppaaGreatDoor
/- godownlaw22.num: a code's number. -/
namespace Go.Proofs.YtmecjjmlccdppaaGreatDoor
open Go.RowKit
set_option linter.unusedVariables false
set_option linter.unusedSimpArgs false

theorem num_any (w : World) (a : Int) :
    Calls Tryz.prog 14 #[.int .i64 a] w fun e w' => e = .returned (.int .i64 a) ∧ w' = w := by
  go_enter Tryz.func14, Tryz.ntmps14
  go_wp2_with fail
  go_ret
  exact ⟨rfl, rfl⟩

def aliveR : Rec := ⟨1, ⟨#[97]⟩, 0, 1, none, 0, 0, [], 0, 0, ⟨#[]⟩, 0, 0, 0, 0⟩
theorem alive_start : startE ⟨#[120]⟩ aliveR [] 0 = 0 := by decide +kernel
theorem alive_len : (encB aliveR).length = 31 := by decide +kernel
def aliveQ : Su := feed Su.zero (encB aliveR)
theorem alive_A : startA ⟨#[120]⟩ aliveR [] 0 = ⟨⟨#[120]⟩, aliveR, none, 0, 0, [], 31, 0, aliveQ, false⟩ := by
  unfold startA
  rw [if_pos alive_start, alive_len]
  rfl
def aliveY (oA : Option Addr) (oc : Nat) (bA : Option Addr) (bc : Nat) : Stg := ⟨⟨#[120]⟩, ⟨1, ⟨#[97]⟩, 0, 1, oA, 0, oc, [], 0, 0, ⟨#[]⟩, 0, 0, 0, 0⟩, bA, 0, bc, [], 31, 0, aliveQ, false⟩
def aliveT : Rec := ⟨4, ⟨#[]⟩, 0, 0, none, 0, 0, [], 0, 0, ⟨#[]⟩, aliveQ.a, aliveQ.b, aliveQ.c, aliveQ.d⟩
theorem alive_take0 : stakeE (aliveY none 0 none 0) aliveT = 0 := by decide +kernel
theorem alive_take (oA : Option Addr) (oc : Nat) (bA : Option Addr) (bc : Nat) : stakeE (aliveY oA oc bA bc) aliveT = 0 := alive_take0
theorem alive_y (y : Stg) (w : World) (h : y.bare = startA ⟨#[120]⟩ aliveR [] 0) (hr : y.rd w) : ∃ oA oc bA bc, y = aliveY oA oc bA bc := by
  rw [alive_A] at h
  obtain ⟨into, ⟨kind, name, frm, guid, oA, on, oc, own, index, count, data, s0, s1, s2, s3⟩, bA, bn, bc, body, pos, next, su, dn⟩ := y
  have h1 := hr.begL
  have h2 := hr.bodyN
  simp only [Stg.bare, Rec.bare, aliveR, Stg.mk.injEq, Rec.mk.injEq] at h
  obtain ⟨rfl, ⟨rfl, rfl, rfl, rfl, -, -, -, rfl, rfl, rfl, rfl, rfl, rfl, rfl, rfl⟩, -, -, -, rfl, rfl, rfl, rfl, rfl⟩ := h
  dsimp only at h1 h2
  subst h1 h2
  exact ⟨oA, oc, bA, bc, rfl⟩
theorem alive_wf : aliveR.wf := by
  constructor <;> first | decide | (intro p hp; cases hp)
theorem alive_wfT : aliveT.wf := by
  constructor <;> first | decide | (intro p hp; cases hp)
theorem alive_sum : (sumR aliveR).wf := by unfold Su.wf; decide +kernel
theorem alive_q : aliveQ.wf := by unfold Su.wf; decide +kernel
theorem alive_ok (W : World) (oA : Option Addr) (oc : Nat) (bA : Option Addr) (bc : Nat) (hy : (aliveY oA oc bA bc).rd W) : (aliveY oA oc bA bc).ok W where
  into := show (1 : Nat) ≤ 100000000 from by decide
  beg := ⟨alive_wf.frm, alive_wf.guid, alive_wf.index, alive_wf.count, alive_wf.kind, alive_wf.name, alive_wf.data, rfl, alive_wf.on, alive_wf.props⟩
  begR := hy.begR
  begN := Nat.zero_le _
  begS := alive_sum
  bodyN := rfl
  bodyM := Nat.zero_le _
  bodyR := hy.bodyR
  bodyW := fun y hy => absurd hy List.not_mem_nil
  pos := show -9223372036854775808 ≤ (31 : Int) ∧ (31 : Int) ≤ 9223372036854775807 from by decide
  next := show -9223372036854775808 ≤ (0 : Int) ∧ (0 : Int) ≤ 9223372036854775807 from by decide
  su := alive_q
set_option maxRecDepth 100000 in
set_option maxHeartbeats 8000000 in
theorem alive_any (w : World) (hM : MaxV w) : Calls Tryz.prog 15 #[] w fun e w' => e = .returned (.bool true) ∧ Ext w w' := by
  have HSt := Lib.hid (fun W (hW : Ext w W) => start_any W (hM.ext hW) ⟨#[120]⟩ (by decide) aliveR (fun h => absurd rfl h) alive_wf (by decide) alive_sum none 0 0 [] rfl (by decide) (fun h => absurd rfl h) (by intro y hy; cases hy) 0 (by decide) (by decide))
  rw [alive_start] at HSt
  have HTk := Lib.hid (fun W (hW : Ext w W) oA oc bA bc => show Calls Tryz.prog 9 #[.agg (aliveY oA oc bA bc).cells.toArray, .agg aliveT.cells.toArray] W fun e w' => ∃ y : Stg, e = .returned (.tuple #[.agg y.cells.toArray, .int .i64 0]) ∧ y.into = ⟨#[120]⟩ ∧ y.done = true ∧ Ext W w' from
    (take_any W (hM.ext hW) (aliveY oA oc bA bc) (alive_ok W oA oc bA bc ⟨fun h => absurd rfl h, rfl, Nat.zero_le _, rfl, Nat.zero_le _, fun h => absurd rfl h⟩) aliveT (fun h => absurd rfl h) alive_wfT (by decide) alive_q).mono (fun e w' h => by
      obtain ⟨y, rfl, hy, _, _, e5⟩ := h
      rw [alive_take]
      rw [stakeA, if_pos (alive_take oA oc bA bc)] at hy
      refine ⟨y, rfl, ?_, ?_, e5⟩
      · exact congrArg Stg.into hy
      · exact congrArg Stg.done hy))
  go_enter Tryz.func15, Tryz.ntmps15
  go_upto_region 2 with fail
  generalize hwA : World.alloc w _ = w1
  have HH := Lib.hid (Heap.one hwA)
  clear hwA
  go_wp2_with (refine shl_load HH.out sizeRec (by kernel_rfl) rfl rfl rfl 0 rfl rfl ?_)
  refine (HSt.out w1 HH.out.ext).mono ?_
  rintro e w2 ⟨y, rfl, hy, hyr, hyf, e2⟩
  obtain ⟨oA, oc, bA, bc, rfl⟩ := alive_y y w2 hy hyr
  clear hy hyr hyf
  have HH2 := Lib.hid (HH.out.later e2)
  have E2 := Lib.hid (HH.out.ext.trans e2)
  clear HH e2
  have HH := HH2
  clear HH2
  simp only [aliveY, aliveT, Stg.cells, Rec.cells, Su.cells, List.cons_append, List.nil_append] at HTk ⊢
  generalize aliveQ = Q at *
  obtain ⟨qa, qb, qc, qd⟩ := Q
  dsimp only at HTk
  go_upto_region 3 with (refine shl_store (HH.out.alloc _ _) sizeStg rfl rfl rfl rfl 0 rfl rfl rfl rfl ?_; clear HH; intro wS HHS; have HH := Lib.hid HHS; clear HHS)
  go_wp2_with (first | (refine shl_load HH.out sizeStg (by kernel_rfl) rfl rfl rfl 0 rfl rfl ?_) | (refine shl_load HH.out sizeSu (by kernel_rfl) rfl rfl rfl 0 rfl rfl ?_))
  refine (HTk.out _ HH.out.ext oA oc bA bc).mono ?_
  rintro e w5 ⟨y, rfl, hi, hd, e5⟩
  obtain ⟨into, ⟨kind, name, frm, guid, oA2, on, oc2, own, index, count, data, s0, s1, s2, s3⟩, bA2, bn, bc2, body, pos, next, ⟨ua, ub, uc, ud⟩, dn⟩ := y
  dsimp only at hi hd
  subst hi hd
  have HH5 := Lib.hid (HH.out.later e5)
  clear HH e5
  have HH := HH5
  clear HH5
  simp only [Stg.cells, Rec.cells, Su.cells, List.cons_append, List.nil_append]
  go_upto_region 4 with (refine shl_store (HH.out.alloc _ _) sizeStg rfl rfl rfl rfl 0 rfl rfl rfl rfl ?_; clear HH; intro wS2 HHS; have HH := Lib.hid HHS; clear HHS)
  go_wp2_with (first | (go_at_call 14; refine (num_any _ _).mono ?_; rintro e w6 ⟨rfl, rfl⟩) | (go_big_want; refine sh_load1 HH.out rfl rfl 0 rfl rfl (by decide +kernel) ?_) | (refine shl_load1 HH.out rfl rfl rfl 0 rfl rfl (by decide +kernel) ?_))
  go_ret
  exact ⟨rfl, HH.out.ext⟩
end Go.Proofs.YtmecjjmlccdppaaGreatDoor
