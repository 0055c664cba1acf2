/- The texts Rtake in one file. -/
import Derived.Test.YtmecjjmlccdppaaGreatDoorM25
import Derived.Test.YtmecjjmlccdppaaGreatDoorM29
/- stream.reader's take, where nothing panics: the walk. -/
namespace Go.Proofs.YtmecjjmlccdppaaGreatDoor
open Go.RowKit
set_option linter.unusedVariables false
set_option linter.unusedSimpArgs false

set_option maxRecDepth 100000 in
set_option maxHeartbeats 8000000 in
theorem rtk_ok {w0 w : World} {its : List It} (b i j : Nat) (hij : ¬ i = j) (s nx : Int) (su : Su) (v : Value) (n : Nat) (out : List Rec) (H : Heap w0 its w) (hi : its[i]? = some (.box b (.int .i64 s :: .int .i64 nx :: su.cells ++ [v]))) (hj : its[j]? = some (.row 27 12 v n (recs out)))
    (x : Rec) (hr : Rd w 0 w.heap.size x.oA (prps x.own)) (hx : x.wf) (hs : -9223372036854775808 ≤ s ∧ s ≤ 9223372036854775807) (hn : -9223372036854775808 ≤ nx ∧ nx ≤ 9223372036854775807) (hE : (stepR s nx x).err = 0) (hk : x.kind = 4 → sumR x = su)
    (A : Option Addr) (m c : Nat) (raw : List UInt8) (hm : m = raw.length) (hmc : m ≤ c) (hM : m ≤ 100000000) (hR : Rd w0 0 w0.heap.size A (bytes raw)) (at' : Int) (hnn : n ≤ 1000000000) :
    Calls Tryz.prog 51 #[.pointer (some ⟨b, 0, none⟩), .agg x.cells.toArray, .slice A m c, .int .i64 at'] w
      fun e w' => e = .returned (.tuple #[]) ∧ ∃ v', Heap w0 ((its.set j (.row 27 12 v' (n + 1) (recs (out ++ [x])))).set i (.box b (.int .i64 (stepR s nx x).seen :: .int .i64 (stepR s nx x).next :: (feed su raw).cells ++ [v']))) w' := by
  have HSt := Lib.hid (fun W (hW : Ext w W) => step_any W s nx x (Rd.at hr hW (Nat.le_refl _)) hx hs hn)
  generalize stepR s nx x = st at *
  obtain ⟨kind, name, frm, guid, oA, on, oc, own, index, count, data, s0, s1, s2, s3⟩ := x
  obtain ⟨ua, ub, uc, ud⟩ := su
  simp only [Rec.cells] at HSt
  simp only [Rec.cells, Su.cells, List.cons_append, List.nil_append] at hi ⊢
  have HI := Lib.hid hi
  have HJ := Lib.hid hj
  have HIJ := Lib.hid hij
  clear hi hj hij
  obtain ⟨i0, hi0, hz0, hz1, hz2⟩ := info_parts infoR
  go_enter Tryz.func51, Tryz.ntmps51
  go_upto_region 1 with fail
  generalize hwA : World.alloc w _ = w1
  have e1 : Ext w w1 := by rw [← hwA]; exact (Ext.refl w).alloc _
  have HH := Lib.hid (H.allocE hwA)
  clear hwA H
  have hszs : (Tryz.prog.info? 108).map (·.size) = some 2 := by kernel_rfl
  go_upto_region 2 with fail
  have HHd := Lib.hid HH.out.drew
  clear HH
  refine rgnM (fun k => Nat.blt 0 k && Nat.blt k 7) (S := Heap w0 [_, _]) (by kernel_rfl) (HHd.out.pair 0 (i + 1) rfl rfl (at1 HI.out)) (fun hHeld => ?_)
  have ed : Ext w w1.drew := e1.drew
  generalize hwd : World.drew w1 = wd at *
  clear hwd
  refine pureM 0 (v := ?_) rfl (by kernel_rfl) (by kernel_rfl) (by kernel_rfl) (by kernel_rfl) (fun _ _ _ h => h) (by kernel_rfl) ?_ (fun _ => by assumption) ?_; rotate_left; (focus (intro w; go_simp <;> with_reducible rfl)); (try simp only [Act.put, List.setIfInBounds_toArray, List.set_cons_zero, List.set_cons_succ])
  refine takeM 1 (v := ?_) rfl (by kernel_rfl) (by kernel_rfl) (by kernel_rfl) (by kernel_rfl) (fun _ _ _ h => h) (by kernel_rfl) ?_ (by assumption) ?_; rotate_left; (focus (intro w hSw; (try dsimp only at hSw); (try go_split_ands); go_simp <;> with_reducible rfl)); (try simp only [Act.put, List.setIfInBounds_toArray, List.set_cons_zero, List.set_cons_succ])
  refine takeM 2 (v := ?_) rfl (by kernel_rfl) (by kernel_rfl) (by kernel_rfl) (by kernel_rfl) (fun _ _ _ h => h) (by kernel_rfl) ?_ (by assumption) ?_; rotate_left; (focus (intro w hSw; (try dsimp only at hSw); (try go_split_ands); go_simp <;> with_reducible rfl)); (try simp only [Act.put, List.setIfInBounds_toArray, List.set_cons_zero, List.set_cons_succ])
  refine takeM 3 (v := ?_) rfl (by kernel_rfl) (by kernel_rfl) (by kernel_rfl) (by kernel_rfl) (fun _ _ _ h => h) (by kernel_rfl) ?_ (by assumption) ?_; rotate_left; (focus (intro w hSw; (try dsimp only at hSw); (try go_split_ands); go_simp <;> with_reducible rfl)); (try simp only [Act.put, List.setIfInBounds_toArray, List.set_cons_zero, List.set_cons_succ])
  refine takeM 4 rfl (by kernel_rfl) (by kernel_rfl) (by kernel_rfl) (by kernel_rfl) (fun _ _ _ h => h) (by kernel_rfl) (fun wT hST => sh_run_load hST hszs (by kernel_rfl) rfl rfl 1 rfl (Nat.le_of_ble_eq_true rfl)) hHeld ?_; (try simp only [Act.put, List.setIfInBounds_toArray, List.set_cons_zero, List.set_cons_succ])
  refine takeM 5 rfl (by kernel_rfl) (by kernel_rfl) (by kernel_rfl) (by kernel_rfl) (fun _ _ _ h => h) (by kernel_rfl) (fun wT hST => sh_run_load hST sizeRec (by kernel_rfl) rfl rfl 0 rfl (Nat.le_of_ble_eq_true rfl)) hHeld ?_; (try simp only [Act.put, List.setIfInBounds_toArray, List.set_cons_zero, List.set_cons_succ])
  refine oneM 6 rfl (by kernel_rfl) (by kernel_rfl) (fun K hK => ?_); (try go_simp)
  refine (HSt.out wd ed).mono ?_
  rintro e w2 ⟨rfl, e2⟩
  have HH2 := Lib.hid (HHd.out.later e2)
  clear HHd HSt
  refine hK.out _ _ (HH2.out.pair 0 (i + 1) rfl rfl (at1 HI.out)) (fun hHeld => ?_)
  clear hK K
  (try simp only [Act.put, List.setIfInBounds_toArray, List.set_cons_zero, List.set_cons_succ])
  refine pureM 7 (v := ?_) rfl (by kernel_rfl) (by kernel_rfl) (by kernel_rfl) (by kernel_rfl) (fun _ _ _ h => h) (by kernel_rfl) ?_ (fun _ => by assumption) ?_; rotate_left; (focus (intro w; go_simp <;> with_reducible rfl)); (try simp only [Act.put, List.setIfInBounds_toArray, List.set_cons_zero, List.set_cons_succ])
  refine pureM 8 (v := ?_) rfl (by kernel_rfl) (by kernel_rfl) (by kernel_rfl) (by kernel_rfl) (fun _ _ _ h => h) (by kernel_rfl) ?_ (fun _ => by assumption) ?_; rotate_left; (focus (intro w; go_simp <;> with_reducible rfl)); (try simp only [Act.put, List.setIfInBounds_toArray, List.set_cons_zero, List.set_cons_succ])
  refine pureM 9 (v := ?_) rfl (by kernel_rfl) (by kernel_rfl) (by kernel_rfl) (by kernel_rfl) (fun _ _ _ h => h) (by kernel_rfl) ?_ (fun _ => by assumption) ?_; rotate_left; (focus (intro w; go_simp <;> with_reducible rfl)); (try simp only [Act.put, List.setIfInBounds_toArray, List.set_cons_zero, List.set_cons_succ])
  refine pureM 10 (v := ?_) rfl (by kernel_rfl) (by kernel_rfl) (by kernel_rfl) (by kernel_rfl) (fun _ _ _ h => h) (by kernel_rfl) ?_ (fun _ => by assumption) ?_; rotate_left; (focus (intro w; go_simp <;> with_reducible rfl)); (try simp only [Act.put, List.setIfInBounds_toArray, List.set_cons_zero, List.set_cons_succ])
  refine pureM 11 (v := ?_) rfl (by kernel_rfl) (by kernel_rfl) (by kernel_rfl) (by kernel_rfl) (fun _ _ _ h => h) (by kernel_rfl) ?_ (fun _ => by assumption) ?_; rotate_left; (focus (intro w; go_simp <;> with_reducible rfl)); (try simp only [Act.put, List.setIfInBounds_toArray, List.set_cons_zero, List.set_cons_succ])
  refine freeM 12 rfl (by kernel_rfl) (by kernel_rfl) (by kernel_rfl) (fun K hK => ?_)
  refine sh_store HH2.out hszs rfl rfl rfl (i + 1) (at1 HI.out) rfl (Nat.le_of_ble_eq_true rfl) rfl ?_
  intro w3 hh3
  have HH3 := Lib.hid hh3
  clear hh3 HH2
  refine hK.out _ _ ?_
  clear hK K hHeld
  (try simp only [Act.put, List.setIfInBounds_toArray, List.set_cons_zero, List.set_cons_succ])
  refine freeM 13 rfl (by kernel_rfl) (by kernel_rfl) (by kernel_rfl) (fun K hK => ?_); (try go_simp)
  refine hK.out _ _ ?_
  clear hK K
  (try simp only [Act.put, List.setIfInBounds_toArray, List.set_cons_zero, List.set_cons_succ])
  refine doneM (by kernel_rfl) ?_
  have HH := Lib.hid (show Heap w0 (_ :: its.set i (.box b [.int .i64 st.seen, .int .i64 st.next, .int .u64 ua, .int .u64 ub, .int .u64 uc, .int .u64 ud, v])) w3 from HH3.out)
  clear HH3
  have HI2 := Lib.hid (at_set (z := .box b [.int .i64 st.seen, .int .i64 st.next, .int .u64 ua, .int .u64 ub, .int .u64 uc, .int .u64 ud, v]) HI.out)
  have HJ2 := Lib.hid (at_other HJ.out (Ne.symm HIJ.out) (.box b [.int .i64 st.seen, .int .i64 st.next, .int .u64 ua, .int .u64 ub, .int .u64 uc, .int .u64 ud, v]))
  go_wp2_with fail
  refine (need_true w3 at' 0).mono ?_
  rintro e w4 ⟨rfl, rfl⟩
  go_upto_region 4 with fail
  obtain ⟨X, hX⟩ : ∃ X, X = It.box w.heap.size [.int .i64 kind, .string name, .int .i64 frm, .int .i64 guid, .slice oA on oc, .int .i64 index, .int .i64 count, .string data, .int .u64 s0, .int .u64 s1, .int .u64 s2, .int .u64 s3] := ⟨_, rfl⟩
  go_cut [39] from 26 to 39 (fun s wx => s = .tuple #[] ∧ Hid (Heap w0 (X :: its.set i (.box b [.int .i64 st.seen, .int .i64 st.next, .int .u64 ua, .int .u64 ub, .int .u64 uc, .int .u64 ud, v])) wx) ∧ Ext w4 wx)
  case first =>
    have HHd := Lib.hid HH.out.drew
    clear HH
    have ed4 : Ext w4 w4.drew := (Ext.refl _).drew
    refine wp_region_held_drew (S := Heap w0 [_, _]) (by kernel_rfl) (HHd.out.pair 0 (i + 1) rfl rfl (at1 HI2.out)) (fun hHeld => ?_)
    generalize hwd : World.drew w4 = wd at *
    clear hwd
    refine takeL 0 (v := ?_) rfl (by kernel_rfl) (by kernel_rfl) (by kernel_rfl) (fun _ _ _ h => h) (by kernel_rfl) ?_ (by assumption) ?_; rotate_left; (focus (intro w hSw; (try dsimp only at hSw); go_simp <;> with_reducible rfl)); (try simp only [Act.put, List.setIfInBounds_toArray, List.set_cons_zero, List.set_cons_succ])
    refine takeL 1 rfl (by kernel_rfl) (by kernel_rfl) (by kernel_rfl) (fun _ _ _ h => h) (by kernel_rfl) (fun wT hST => sh_run_load1 hST rfl rfl 0 rfl rfl (by kernel_rfl)) hHeld ?_; (try simp only [Act.put, List.setIfInBounds_toArray, List.set_cons_zero, List.set_cons_succ])
    by_cases hk4 : kind = 4
    · subst hk4
      obtain ⟨rfl, rfl, rfl, rfl⟩ : s0 = ua ∧ s1 = ub ∧ s2 = uc ∧ s3 = ud := by have := hk rfl; simpa [sumR] using this
      refine takeL 2 (v := ?_) rfl (by kernel_rfl) (by kernel_rfl) (by kernel_rfl) (fun _ _ _ h => h) (by kernel_rfl) ?_ (by assumption) ?_; rotate_left; (focus (intro w hSw; (try dsimp only at hSw); go_simp <;> with_reducible rfl)); (try simp only [Act.put, List.setIfInBounds_toArray, List.set_cons_zero, List.set_cons_succ])
      refine takeL 3 (v := ?_) rfl (by kernel_rfl) (by kernel_rfl) (by kernel_rfl) (fun _ _ _ h => h) (by kernel_rfl) ?_ (by assumption) ?_; rotate_left; (focus (intro w hSw; (try dsimp only at hSw); go_simp <;> with_reducible rfl)); (try simp only [Act.put, List.setIfInBounds_toArray, List.set_cons_zero, List.set_cons_succ])
      refine takeL 4 (v := ?_) rfl (by kernel_rfl) (by kernel_rfl) (by kernel_rfl) (fun _ _ _ h => h) (by kernel_rfl) ?_ (by assumption) ?_; rotate_left; (focus (intro w hSw; (try dsimp only at hSw); go_simp <;> with_reducible rfl)); (try simp only [Act.put, List.setIfInBounds_toArray, List.set_cons_zero, List.set_cons_succ])
      refine takeL 5 rfl (by kernel_rfl) (by kernel_rfl) (by kernel_rfl) (fun _ _ _ h => h) (by kernel_rfl) (fun wT hST => sh_run_load hST sizeSu (by kernel_rfl) rfl rfl 0 rfl (Nat.le_of_ble_eq_true rfl)) hHeld ?_; (try simp only [Act.put, List.setIfInBounds_toArray, List.set_cons_zero, List.set_cons_succ])
      refine takeL 6 (v := ?_) rfl (by kernel_rfl) (by kernel_rfl) (by kernel_rfl) (fun _ _ _ h => h) (by kernel_rfl) ?_ (by assumption) ?_; rotate_left; (focus (intro w hSw; (try dsimp only at hSw); go_simp <;> with_reducible rfl)); (try simp only [Act.put, List.setIfInBounds_toArray, List.set_cons_zero, List.set_cons_succ])
      refine takeL 7 (v := ?_) rfl (by kernel_rfl) (by kernel_rfl) (by kernel_rfl) (fun _ _ _ h => h) (by kernel_rfl) ?_ (by assumption) ?_; rotate_left; (focus (intro w hSw; (try dsimp only at hSw); go_simp <;> with_reducible rfl)); (try simp only [Act.put, List.setIfInBounds_toArray, List.set_cons_zero, List.set_cons_succ])
      refine takeL 8 (v := ?_) rfl (by kernel_rfl) (by kernel_rfl) (by kernel_rfl) (fun _ _ _ h => h) (by kernel_rfl) ?_ (by assumption) ?_; rotate_left; (focus (intro w hSw; (try dsimp only at hSw); go_simp <;> with_reducible rfl)); (try simp only [Act.put, List.setIfInBounds_toArray, List.set_cons_zero, List.set_cons_succ])
      refine takeL 9 rfl (by kernel_rfl) (by kernel_rfl) (by kernel_rfl) (fun _ _ _ h => h) (by kernel_rfl) (fun wT hST => sh_run_load hST sizeSu (by kernel_rfl) rfl rfl 1 rfl (Nat.le_of_ble_eq_true rfl)) hHeld ?_; (try simp only [Act.put, List.setIfInBounds_toArray, List.set_cons_zero, List.set_cons_succ])
      refine takeL 10 (v := ?_) rfl (by kernel_rfl) (by kernel_rfl) (by kernel_rfl) (fun _ _ _ h => h) (by kernel_rfl) ?_ (by assumption) ?_; rotate_left; (focus (intro w hSw; (try dsimp only at hSw); go_simp <;> with_reducible rfl)); (try simp only [Act.put, List.setIfInBounds_toArray, List.set_cons_zero, List.set_cons_succ])
      refine takeL 11 (v := ?_) rfl (by kernel_rfl) (by kernel_rfl) (by kernel_rfl) (fun _ _ _ h => h) (by kernel_rfl) ?_ (by assumption) ?_; rotate_left; (focus (intro w hSw; (try dsimp only at hSw); go_simp <;> with_reducible rfl)); (try simp only [Act.put, List.setIfInBounds_toArray, List.set_cons_zero, List.set_cons_succ])
      refine takeL 12 (v := ?_) rfl (by kernel_rfl) (by kernel_rfl) (by kernel_rfl) (fun _ _ _ h => h) (by kernel_rfl) ?_ (by assumption) ?_; rotate_left; (focus (intro w hSw; (try dsimp only at hSw); go_simp <;> with_reducible rfl)); (try simp only [Act.put, List.setIfInBounds_toArray, List.set_cons_zero, List.set_cons_succ])
      refine oneL 13 rfl (by kernel_rfl) (by kernel_rfl) (fun K hK => ?_); go_simp
      refine (need_true wd at' 34).mono ?_
      rintro e w5 ⟨rfl, rfl⟩
      go_wp2_with fail
      refine hK.out _ _ (HHd.out.pair 0 (i + 1) rfl rfl (at1 HI2.out)) (fun hHeld => ?_)
      clear hK K
      (try simp only [Act.put, List.setIfInBounds_toArray, List.set_cons_zero, List.set_cons_succ])
      refine wpAnyH_done (by kernel_rfl) ?_ _
      go_wp2_with fail
      go_meet
      exact ⟨rfl, by rw [hX]; exact HHd, ed4⟩
    · have hkb : (kind != 4) = true := by simpa using hk4
      refine takeL 2 (v := ?_) rfl (by kernel_rfl) (by kernel_rfl) (by kernel_rfl) (fun _ _ _ h => h) (by kernel_rfl) ?_ (by assumption) ?_; rotate_left; (focus (intro w hSw; (try dsimp only at hSw); go_simp <;> with_reducible rfl)); (try simp only [Act.put, List.setIfInBounds_toArray, List.set_cons_zero, List.set_cons_succ])
      refine takeL 3 (v := ?_) rfl (by kernel_rfl) (by kernel_rfl) (by kernel_rfl) (fun _ _ _ h => h) (by kernel_rfl) ?_ (by assumption) ?_; rotate_left; (focus (intro w hSw; (try dsimp only at hSw); go_simp <;> with_reducible rfl)); (try simp only [Act.put, List.setIfInBounds_toArray, List.set_cons_zero, List.set_cons_succ])
      refine skipL 4 rfl (by kernel_rfl) (by kernel_rfl) (by kernel_rfl) (fun _ _ _ h => h) (by kernel_rfl) (by assumption) ?_; (try simp only [Act.put, List.setIfInBounds_toArray, List.set_cons_zero, List.set_cons_succ])
      refine skipL 5 rfl (by kernel_rfl) (by kernel_rfl) (by kernel_rfl) (fun _ _ _ h => h) (by kernel_rfl) (by assumption) ?_; (try simp only [Act.put, List.setIfInBounds_toArray, List.set_cons_zero, List.set_cons_succ])
      refine skipL 6 rfl (by kernel_rfl) (by kernel_rfl) (by kernel_rfl) (fun _ _ _ h => h) (by kernel_rfl) (by assumption) ?_; (try simp only [Act.put, List.setIfInBounds_toArray, List.set_cons_zero, List.set_cons_succ])
      refine skipL 7 rfl (by kernel_rfl) (by kernel_rfl) (by kernel_rfl) (fun _ _ _ h => h) (by kernel_rfl) (by assumption) ?_; (try simp only [Act.put, List.setIfInBounds_toArray, List.set_cons_zero, List.set_cons_succ])
      refine skipL 8 rfl (by kernel_rfl) (by kernel_rfl) (by kernel_rfl) (fun _ _ _ h => h) (by kernel_rfl) (by assumption) ?_; (try simp only [Act.put, List.setIfInBounds_toArray, List.set_cons_zero, List.set_cons_succ])
      refine skipL 9 rfl (by kernel_rfl) (by kernel_rfl) (by kernel_rfl) (fun _ _ _ h => h) (by kernel_rfl) (by assumption) ?_; (try simp only [Act.put, List.setIfInBounds_toArray, List.set_cons_zero, List.set_cons_succ])
      refine skipL 10 rfl (by kernel_rfl) (by kernel_rfl) (by kernel_rfl) (fun _ _ _ h => h) (by kernel_rfl) (by assumption) ?_; (try simp only [Act.put, List.setIfInBounds_toArray, List.set_cons_zero, List.set_cons_succ])
      refine takeL 11 (v := ?_) rfl (by kernel_rfl) (by kernel_rfl) (by kernel_rfl) (fun _ _ _ h => h) (by kernel_rfl) ?_ (by assumption) ?_; rotate_left; (focus (intro w hSw; (try dsimp only at hSw); go_simp <;> with_reducible rfl)); (try simp only [Act.put, List.setIfInBounds_toArray, List.set_cons_zero, List.set_cons_succ])
      refine takeL 12 (v := ?_) rfl (by kernel_rfl) (by kernel_rfl) (by kernel_rfl) (fun _ _ _ h => h) (by kernel_rfl) ?_ (by assumption) ?_; rotate_left; (focus (intro w hSw; (try dsimp only at hSw); go_simp <;> with_reducible rfl)); (try simp only [Act.put, List.setIfInBounds_toArray, List.set_cons_zero, List.set_cons_succ])
      refine oneL 13 rfl (by kernel_rfl) (by kernel_rfl) (fun K hK => ?_); go_simp
      refine (need_true wd at' 34).mono ?_
      rintro e w5 ⟨rfl, rfl⟩
      go_wp2_with fail
      refine hK.out _ _ (HHd.out.pair 0 (i + 1) rfl rfl (at1 HI2.out)) (fun hHeld => ?_)
      clear hK K
      (try simp only [Act.put, List.setIfInBounds_toArray, List.set_cons_zero, List.set_cons_succ])
      refine wpAnyH_done (by kernel_rfl) ?_ _
      go_wp2_with fail
      go_meet
      exact ⟨rfl, by rw [hX]; exact HHd, ed4⟩
  clear HH
  obtain ⟨rfl, HH, e4⟩ := hcut
  go_wp2_with (refine shl_load HH.out sizeSu (by kernel_rfl) rfl rfl rfl (i + 1) (at1 HI2.out) rfl ?_)
  refine (ffeed_any wc ⟨ua, ub, uc, ud⟩ A raw.length c raw rfl (HH.out.old hR) (by omega) (by omega)).mono ?_
  rintro e w5 ⟨rfl, e5⟩
  have HH5 := Lib.hid (HH.out.later e5)
  clear HH
  have HH := HH5
  clear HH5
  obtain ⟨fs, hfs⟩ : ∃ f, f = feed ⟨ua, ub, uc, ud⟩ raw := ⟨_, rfl⟩
  rw [← hfs]
  have HFS := Lib.hid hfs
  clear hfs
  obtain ⟨fa, fb, fc, fd⟩ := fs
  simp only [Su.cells]
  go_upto_region 6 with (refine shl_store HH.out sizeSu rfl rfl rfl rfl (i + 1) (at1 HI2.out) rfl rfl rfl ?_; clear HH; intro wS HHS; have HH := Lib.hid HHS; clear HHS)
  have HH6 := Lib.hid (show Heap w0 (X :: its.set i (.box b [.int .i64 st.seen, .int .i64 st.next, .int .u64 fa, .int .u64 fb, .int .u64 fc, .int .u64 fd, v])) wS from by
    have h := HH.out
    rw [List.set_cons_succ, set_set] at h
    exact h)
  clear HH HI2 HJ2
  have HH := HH6
  clear HH6
  have HI3 := Lib.hid (at_set (z := .box b [.int .i64 st.seen, .int .i64 st.next, .int .u64 fa, .int .u64 fb, .int .u64 fc, .int .u64 fd, v]) HI.out)
  have HJ3 := Lib.hid (at_other HJ.out (Ne.symm HIJ.out) (.box b [.int .i64 st.seen, .int .i64 st.next, .int .u64 fa, .int .u64 fb, .int .u64 fc, .int .u64 fd, v]))
  have HHd := Lib.hid HH.out.drew
  clear HH
  subst hX
  refine rgnM (fun k => Nat.blt 0 k && Nat.blt k 8) (S := Heap w0 [_, _]) (by kernel_rfl) (HHd.out.pair 0 (i + 1) rfl rfl (at1 HI3.out)) (fun hHeld => ?_)
  generalize hwd : World.drew wS = wd at *
  clear hwd
  refine pureM 0 (v := ?_) rfl (by kernel_rfl) (by kernel_rfl) (by kernel_rfl) (by kernel_rfl) (fun _ _ _ h => h) (by kernel_rfl) ?_ (fun _ => by assumption) ?_; rotate_left; (focus (intro w; go_simp <;> with_reducible rfl)); (try simp only [Act.put, List.setIfInBounds_toArray, List.set_cons_zero, List.set_cons_succ])
  refine takeM 1 (v := ?_) rfl (by kernel_rfl) (by kernel_rfl) (by kernel_rfl) (by kernel_rfl) (fun _ _ _ h => h) (by kernel_rfl) ?_ (by assumption) ?_; rotate_left; (focus (intro w hSw; (try dsimp only at hSw); (try go_split_ands); go_simp <;> with_reducible rfl)); (try simp only [Act.put, List.setIfInBounds_toArray, List.set_cons_zero, List.set_cons_succ])
  refine takeM 2 (v := ?_) rfl (by kernel_rfl) (by kernel_rfl) (by kernel_rfl) (by kernel_rfl) (fun _ _ _ h => h) (by kernel_rfl) ?_ (by assumption) ?_; rotate_left; (focus (intro w hSw; (try dsimp only at hSw); (try go_split_ands); go_simp <;> with_reducible rfl)); (try simp only [Act.put, List.setIfInBounds_toArray, List.set_cons_zero, List.set_cons_succ])
  refine takeM 3 (v := ?_) rfl (by kernel_rfl) (by kernel_rfl) (by kernel_rfl) (by kernel_rfl) (fun _ _ _ h => h) (by kernel_rfl) ?_ (by assumption) ?_; rotate_left; (focus (intro w hSw; (try dsimp only at hSw); (try go_split_ands); go_simp <;> with_reducible rfl)); (try simp only [Act.put, List.setIfInBounds_toArray, List.set_cons_zero, List.set_cons_succ])
  refine takeM 4 rfl (by kernel_rfl) (by kernel_rfl) (by kernel_rfl) (by kernel_rfl) (fun _ _ _ h => h) (by kernel_rfl) (fun wT hST => sh_run_load1 hST rfl rfl 1 rfl rfl (by kernel_rfl)) hHeld ?_; (try simp only [Act.put, List.setIfInBounds_toArray, List.set_cons_zero, List.set_cons_succ])
  refine takeM 5 rfl (by kernel_rfl) (by kernel_rfl) (by kernel_rfl) (by kernel_rfl) (fun _ _ _ h => h) (by kernel_rfl) (fun wT hST => sh_run_load hST sizeRec (by kernel_rfl) rfl rfl 0 rfl (Nat.le_of_ble_eq_true rfl)) hHeld ?_; (try simp only [Act.put, List.setIfInBounds_toArray, List.set_cons_zero, List.set_cons_succ])
  refine oneM 6 rfl (by kernel_rfl) (by kernel_rfl) (fun K hK => ?_); (try go_simp)
  have HH7 := Lib.hid (HHd.out.alloc #[.int .i64 kind, .string name, .int .i64 frm, .int .i64 guid, .slice oA on oc, .int .i64 index, .int .i64 count, .string data, .int .u64 s0, .int .u64 s1, .int .u64 s2, .int .u64 s3] 27)
  refine hK.out _ _ (HH7.out.pair 1 (i + 2) rfl rfl (at2 HI3.out)) (fun hHeld => ?_)
  clear hK K HHd
  generalize hwA : World.alloc wd _ = wA at *
  clear hwA
  (try simp only [Act.put, List.setIfInBounds_toArray, List.set_cons_zero, List.set_cons_succ])
  refine freeM 7 rfl (by kernel_rfl) (by kernel_rfl) (by kernel_rfl) (fun K hK => ?_)
  refine sh_app (e := 27) (size := 12) (bytes := 128) (news := [.int .i64 kind, .string name, .int .i64 frm, .int .i64 guid, .slice oA on oc, .int .i64 index, .int .i64 count, .string data, .int .u64 s0, .int .u64 s1, .int .u64 s2, .int .u64 s3]) (lo := w0.heap.size) (.tmp 53) (.tmp 55) _ rfl Tryz.underlying60 hi0 hz0 hz1 hz2 rfl (by omega) HH7.out (j + 2) (at2 HJ3.out) rfl (m := 1) rfl rfl (HH7.out.boxRd 0 rfl) ?_ ?_ ?_ ?_
  · intro u hu
    exact recs_one [⟨kind, name, frm, guid, oA, on, oc, own, index, count, data, s0, s1, s2, s3⟩] u (by simpa [recs, Rec.cells] using hu)
  · simp only [maxLen]; omega
  · omega
  intro v7 w7 hh7 h7
  obtain ⟨A7, c7, rfl⟩ := h7
  have HH8 := Lib.hid (set2 hh7).tail
  clear hh7 HH7
  refine hK.out _ _ ?_
  clear hK K hHeld
  (try simp only [Act.put, List.setIfInBounds_toArray, List.set_cons_zero, List.set_cons_succ])
  refine freeM 8 rfl (by kernel_rfl) (by kernel_rfl) (by kernel_rfl) (fun K hK => ?_); (try go_simp)
  refine hK.out _ _ ?_
  clear hK K
  (try simp only [Act.put, List.setIfInBounds_toArray, List.set_cons_zero, List.set_cons_succ])
  refine freeM 9 rfl (by kernel_rfl) (by kernel_rfl) (by kernel_rfl) (fun K hK => ?_); (try go_simp)
  refine hK.out _ _ ?_
  clear hK K
  (try simp only [Act.put, List.setIfInBounds_toArray, List.set_cons_zero, List.set_cons_succ])
  refine freeM 10 rfl (by kernel_rfl) (by kernel_rfl) (by kernel_rfl) (fun K hK => ?_)
  refine sh_store1 HH8.out rfl rfl rfl (i + 1) (at1 (at_other HI3.out HIJ.out _)) (Nat.le_of_ble_eq_true rfl) rfl (by kernel_rfl) ?_
  intro w8 h8
  refine hK.out _ _ ?_
  clear hK K
  (try simp only [Act.put, List.setIfInBounds_toArray, List.set_cons_zero, List.set_cons_succ])
  refine doneM (by kernel_rfl) ?_
  go_wp2_with fail
  go_end0
  refine ⟨rfl, .slice A7 (n + 1) c7, ?_⟩
  have h9 := h8.tail
  rw [set_comm2 HIJ.out, set_set] at h9
  rw [show recs (out ++ [_]) = recs out ++ _ from List.flatMap_append, ← HFS.out]
  exact h9
end Go.Proofs.YtmecjjmlccdppaaGreatDoor
