/- The texts Renc in one file. -/
import Derived.Test.YtmecjjmlccdppaaGreatDoorM9
import Derived.Test.YtmecjjmlccdppaaGreatDoorM11
import Derived.Test.YtmecjjmlccdppaaGreatDoorM21
import Derived.Test.YtmecjjmlccdppaaGreatDoorM22
/- A record's octets: the reference's Encode. -/
namespace Go.Proofs.YtmecjjmlccdppaaGreatDoor
open Go.RowKit
set_option linter.unusedVariables false
set_option linter.unusedSimpArgs false

set_option maxRecDepth 100000 in
set_option maxHeartbeats 8000000 in
theorem rencode1_any (w : World) (x : Rec) (hr : Rd w 0 w.heap.size x.oA (prps x.own)) (hx : x.wf) (hon : x.on ≤ 100000000) (hs : (sumR x).wf) (hE : recE x = 0) (hK : x.kind = 1) :
    Calls Tryz.prog 33 #[.agg x.cells.toArray] w (EncOk x w) := by
  have HCk := Lib.hid (fun W (hW : Ext w W) => rcheck_any W x (Rd.at hr hW (Nat.le_refl _)) hx)
  have HR := Lib.hid hr
  have HFr := Lib.hid hx.frm
  have HGu := Lib.hid hx.guid
  have HIx := Lib.hid hx.index
  have HCo := Lib.hid hx.count
  have HSu := Lib.hid hs
  have HOn := Lib.hid hx.own
  have HL := Lib.hid (ptext_length x.own)
  have HFit := Lib.hid (texts_fit x hE)
  have HSm := Lib.hid (texts_small x hE)
  have HEl := Lib.hid (encB_len x)
  have HB := Lib.hid (show encB x = [UInt8.ofNat x.kind.toNat] ++ puts (wB (recTexts x)).length 2 ++ wB (recTexts x) by rw [encB, if_pos hE])
  have HOut := Lib.hid (fun (e : Ending) (w' : World) (h : ∃ v, e = .returned (.tuple #[v, .int .i64 0]) ∧ w'.ownsRow w.heap.size 5 1 v (encB x).length (bytes (encB x)) ∧ Ext w w') => show EncOk x w e w' by
    obtain ⟨v, h1, h2⟩ := h
    exact ⟨v, by rw [hE]; exact h1, h2⟩)
  have HTx := Lib.hid (show recTexts x = recTexts x from rfl)
  unfold recTexts at HTx
  have HKO := Lib.hid (kindO x.kind (by omega))
  rw [hE] at HCk
  clear hr hx hs hE
  obtain ⟨B, hB⟩ : ∃ B, B = encB x := ⟨_, rfl⟩
  rw [← hB] at HEl HB HOut
  have HT := Lib.hid (show recTexts x = recTexts x from rfl)
  obtain ⟨tx, htx⟩ : ∃ tx, tx = recTexts x := ⟨_, rfl⟩
  rw [← htx] at HFit HSm HB
  obtain ⟨OUT, hOUT⟩ : ∃ OUT : Ending → World → Prop, OUT = EncOk x w := ⟨_, rfl⟩
  rw [← hOUT] at HOut ⊢
  clear hB hOUT HT HTx
  obtain ⟨kind, name, frm, guid, oA, on, oc, own, index, count, data, s0, s1, s2, s3⟩ := x
  simp only [Rec.cells] at HCk ⊢
  dsimp only at hK HB hon HR HFr HGu HIx HCo HOn HL HKO
  subst hK
  have HT := Lib.hid (show tx = [name, num8 frm, num8 guid] ++ ptext own by rw [htx]; rfl)
  clear htx
  obtain ⟨i0, hi0, hz0, hz1, hz2⟩ := info_parts infoT
  obtain ⟨j0, hj0, hy0, hy1, hy2⟩ := info_parts info5
  have HN := Lib.hid (fun (W : World) (hW : Ext w W) => (rtext_any W oA on oc own HOn.out (by omega) (Rd.at HR.out hW (Nat.le_refl _))))
  go_enter Tryz.func33, Tryz.ntmps33
  go_upto_region 1 with fail
  generalize hwH : World.alloc w _ = w1; have HH := Lib.hid (Heap.one hwH); clear hwH
  go_wp2_with (refine shl_load HH.out sizeRec (by kernel_rfl) rfl rfl rfl 0 rfl rfl ?_)
  refine (HCk.out w1 HH.out.ext).mono ?_
  rintro e w2 ⟨rfl, e2⟩
  have HH2 := Lib.hid (HH.out.later e2)
  clear HH e2 HCk
  have HH := HH2
  clear HH2
  go_wp2_with (first | (refine shl_load HH.out sizeSu (by kernel_rfl) rfl rfl rfl 0 rfl rfl ?_) | (refine shl_load1 HH.out rfl rfl rfl 0 rfl rfl (by decide +kernel) ?_))
  have HHd := Lib.hid HH.out.drew; clear HH; refine wp_region_held_drew (S := Heap w [.box w.heap.size [.int .i64 1, .string name, .int .i64 frm, .int .i64 guid, .slice oA on oc, .int .i64 index, .int .i64 count, .string data, .int .u64 s0, .int .u64 s1, .int .u64 s2, .int .u64 s3]]) (by kernel_rfl) HHd.out (fun hHeld => ?_); generalize hwd : World.drew w2 = wd at *; clear hwd; have HH0 := HHd; clear HHd
  refine takeL 0 (v := ?_) rfl (by kernel_rfl) (by kernel_rfl) (by kernel_rfl) (fun _ _ _ h => h) (by kernel_rfl) ?_ (by assumption) ?_; rotate_left; (focus (intro w hSw; (try dsimp only at hSw); go_simp <;> with_reducible rfl)); (try simp only [Act.put, List.setIfInBounds_toArray, List.set_cons_zero, List.set_cons_succ])
  refine takeL 1 rfl (by kernel_rfl) (by kernel_rfl) (by kernel_rfl) (fun _ _ _ h => h) (by kernel_rfl) (fun wT hST => sh_run_load1 hST rfl rfl 0 rfl rfl (by kernel_rfl)) hHeld ?_; (try simp only [Act.put, List.setIfInBounds_toArray, List.set_cons_zero, List.set_cons_succ])
  refine takeL 2 (v := ?_) rfl (by kernel_rfl) (by kernel_rfl) (by kernel_rfl) (fun _ _ _ h => h) (by kernel_rfl) ?_ (by assumption) ?_; rotate_left; (focus (intro w hSw; (try dsimp only at hSw); go_simp <;> with_reducible rfl)); (try simp only [Act.put, List.setIfInBounds_toArray, List.set_cons_zero, List.set_cons_succ])
  refine takeL 3 rfl (by kernel_rfl) (by kernel_rfl) (by kernel_rfl) (fun _ _ _ h => h) (by kernel_rfl) (fun wT hST => sh_run_load1 hST rfl rfl 0 rfl rfl (by kernel_rfl)) hHeld ?_; (try simp only [Act.put, List.setIfInBounds_toArray, List.set_cons_zero, List.set_cons_succ])
  refine takeL 5 (v := ?_) rfl (by kernel_rfl) (by kernel_rfl) (by kernel_rfl) (fun _ _ _ h => h) (by kernel_rfl) ?_ (by assumption) ?_; rotate_left; (focus (intro w hSw; (try dsimp only at hSw); go_simp <;> with_reducible rfl)); (try simp only [Act.put, List.setIfInBounds_toArray, List.set_cons_zero, List.set_cons_succ])
  refine takeL 6 rfl (by kernel_rfl) (by kernel_rfl) (by kernel_rfl) (fun _ _ _ h => h) (by kernel_rfl) (fun wT hST => sh_run_load1 hST rfl rfl 0 rfl rfl (by kernel_rfl)) hHeld ?_; (try simp only [Act.put, List.setIfInBounds_toArray, List.set_cons_zero, List.set_cons_succ])
  refine takeL 9 (v := ?_) rfl (by kernel_rfl) (by kernel_rfl) (by kernel_rfl) (fun _ _ _ h => h) (by kernel_rfl) ?_ (by assumption) ?_; rotate_left; (focus (intro w hSw; (try dsimp only at hSw); go_simp <;> with_reducible rfl)); (try simp only [Act.put, List.setIfInBounds_toArray, List.set_cons_zero, List.set_cons_succ])
  refine takeL 10 rfl (by kernel_rfl) (by kernel_rfl) (by kernel_rfl) (fun _ _ _ h => h) (by kernel_rfl) (fun wT hST => sh_run_load1 hST rfl rfl 0 rfl rfl (by kernel_rfl)) hHeld ?_; (try simp only [Act.put, List.setIfInBounds_toArray, List.set_cons_zero, List.set_cons_succ])
  clear hHeld
  refine oneL 4 rfl (by kernel_rfl) (by kernel_rfl) (fun K hK => ?_)
  go_simp; refine (rnum_any frm _ HFr.out.1 HFr.out.2).mono ?_; rintro e w3 ⟨rfl, ew3⟩; have HH3 := Lib.hid ((HH0).out.later ew3); clear HH0 ew3; go_wp2_with fail
  refine hK.out _ _ ((HH3).out.only 0 rfl) (fun hHeld => ?_); clear hK K; (try simp only [Act.put, List.setIfInBounds_toArray, List.set_cons_zero, List.set_cons_succ]); clear hHeld
  refine oneL 7 rfl (by kernel_rfl) (by kernel_rfl) (fun K hK => ?_)
  go_simp; refine (rnum_any guid _ HGu.out.1 HGu.out.2).mono ?_; rintro e w4 ⟨rfl, ew4⟩; have HH4 := Lib.hid ((HH3).out.later ew4); clear HH3 ew4; go_wp2_with fail
  refine hK.out _ _ ((HH4).out.only 0 rfl) (fun hHeld => ?_); clear hK K; (try simp only [Act.put, List.setIfInBounds_toArray, List.set_cons_zero, List.set_cons_succ]); clear hHeld
  refine twoH 8 11 rfl rfl (by kernel_rfl) (by kernel_rfl) (by kernel_rfl) (fun K hK => ?_) (fun K hK => ?_)
  · go_simp; generalize hwA : World.alloc _ _ = w5; have HH5 := Lib.hid ((HH4).out.allocRow hwA (n := 3) (size := 1) rfl (by simp [maxLen])); clear hwA HH4
    refine hK.out _ _ ((HH5).out.only 1 rfl) (fun hHeld => ?_); clear hK K; (try simp only [Act.put, List.setIfInBounds_toArray, List.set_cons_zero, List.set_cons_succ]); clear hHeld
    refine oneL 11 rfl (by kernel_rfl) (by kernel_rfl) (fun K hK => ?_)
    go_simp; refine (HN.out w5 HH5.out.ext).mono ?_; rintro e w6 ⟨vw6, rfl, hownw6, ew6⟩; obtain ⟨Aw6, cw6, rfl, _, _, _⟩ := own_form hownw6; have HH6 := Lib.hid ((HH5).out.addRow ew6 hownw6); clear HH5 hownw6 ew6; go_wp2_with fail
    refine hK.out _ _ ((HH6).out.only 2 rfl) (fun hHeld => ?_); clear hK K; (try simp only [Act.put, List.setIfInBounds_toArray, List.set_cons_zero, List.set_cons_succ]); clear hHeld
    refine oneL 12 rfl (by kernel_rfl) (by kernel_rfl) (fun K hK => ?_)
    refine sh_app (.tmp 30) (.tmp 33) _ rfl Tryz.underlying48 hi0 hz0 hz1 hz2 rfl (by omega) HH6.out 1 rfl rfl (m := on * 2) rfl (by rw [List.length_map, HL.out, ← HOn.out, Nat.mul_one]) (Rd.of_own (HH6.out.rowAt 0 rfl)) (by simp [Value.oneCell']) (by simp only [maxLen]; omega) (by omega) ?_
    rintro vt wt hht ⟨At, ct, rfl⟩
    have HHt := Lib.hid hht
    clear hht HH6
    refine hK.out _ _ ((HHt).out.only 2 rfl) (fun hHeld => ?_); clear hK K; (try simp only [Act.put, List.setIfInBounds_toArray, List.set_cons_zero, List.set_cons_succ])
    refine takeL 13 (v := ?_) rfl (by kernel_rfl) (by kernel_rfl) (by kernel_rfl) (fun _ _ _ h => h) (by kernel_rfl) ?_ (by assumption) ?_; rotate_left; (focus (intro w hSw; (try dsimp only at hSw); go_simp <;> with_reducible rfl)); (try simp only [Act.put, List.setIfInBounds_toArray, List.set_cons_zero, List.set_cons_succ])
    refine wpAnyH_done (by kernel_rfl) ?_ _
    have HRow := Lib.hid (show wt.ownsRow w.heap.size 9 1 (.slice At (3 + on * 2) ct) (3 + on * 2) (tx.map Value.string) by rw [HT.out, List.map_append]; exact HHt.out.rowAt 1 rfl)
    have HHc := Lib.hid (HHt.out.pair 1 2 rfl rfl rfl)
    clear HHt
    have HNx := Lib.hid (show tx.length = 3 + on * 2 by rw [HT.out]; rw [List.length_append, HL.out, ← HOn.out]; rfl)
    have hnb : (3 + on * 2) ≤ 1000000000 := by omega
    have HWr := Lib.hid (rwrite_any wt (At) (3 + on * 2) (ct) tx HNx.out.symm (by omega) ((Rd.of_own HRow.out).more (Nat.zero_le _) (Nat.le_refl _)))
    clear HRow
    go_wp2_with fail
    refine HWr.out.mono ?_
    rintro e w7 ⟨v7, rfl, hown7, e7⟩
    obtain ⟨A7, c7, rfl, _, _, _⟩ := own_form hown7
    have HH7 := Lib.hid (HHc.out.addRow e7 hown7)
    clear HHc hown7 e7 HWr hnb
    rw [HFit.out]
    have hlen : (wB tx).length ≤ 1000 := by have := HEl.out; rw [HB.out, List.length_append, List.length_append] at this; omega
    have HLt := Lib.hid (show B.length = 1 + 2 + (wB tx).length by rw [HB.out, List.length_append, List.length_append, puts_length]; rfl)
    generalize wB tx = bs at *
    obtain ⟨m, hm⟩ : ∃ m, m = bs.length := ⟨_, rfl⟩
    rw [← hm] at HH7 HB HLt hlen ⊢
    have HM := Lib.hid hm
    clear hm
    go_wp2_with fail
    have HL7 : Heap w [.box w.heap.size [.int .i64 1, .string name, .int .i64 frm, .int .i64 guid, .slice oA on oc, .int .i64 index, .int .i64 count, .string data, .int .u64 s0, .int .u64 s1, .int .u64 s2, .int .u64 s3]] w7.drew := (HH7.out.only 2 rfl).drew
    refine wp_region_held_drew (S := Heap w [.box w.heap.size [.int .i64 1, .string name, .int .i64 frm, .int .i64 guid, .slice oA on oc, .int .i64 index, .int .i64 count, .string data, .int .u64 s0, .int .u64 s1, .int .u64 s2, .int .u64 s3]]) (by kernel_rfl) HL7 (fun hHeld => ?_)
    have HH0 := Lib.hid HH7.out.drew
    clear HH7 HL7
    generalize hwd : World.drew w7 = we at *
    clear hwd
    refine takeL 0 (v := ?_) rfl (by kernel_rfl) (by kernel_rfl) (by kernel_rfl) (fun _ _ _ h => h) (by kernel_rfl) ?_ (by assumption) ?_; rotate_left; (focus (intro w hSw; (try dsimp only at hSw); go_simp <;> with_reducible rfl)); (try simp only [Act.put, List.setIfInBounds_toArray, List.set_cons_zero, List.set_cons_succ])
    refine takeL 1 rfl (by kernel_rfl) (by kernel_rfl) (by kernel_rfl) (fun _ _ _ h => h) (by kernel_rfl) (fun wT hST => sh_run_load1 hST rfl rfl 0 rfl rfl (by kernel_rfl)) hHeld ?_; (try simp only [Act.put, List.setIfInBounds_toArray, List.set_cons_zero, List.set_cons_succ])
    refine takeL 2 (v := ?_) rfl (by kernel_rfl) (by kernel_rfl) (by kernel_rfl) (fun _ _ _ h => h) (by kernel_rfl) ?_ (by assumption) ?_; rotate_left; (focus (intro w hSw; (try dsimp only at hSw); go_simp <;> with_reducible rfl)); (try simp only [Act.put, List.setIfInBounds_toArray, List.set_cons_zero, List.set_cons_succ])
    refine takeL 4 (v := ?_) rfl (by kernel_rfl) (by kernel_rfl) (by kernel_rfl) (fun _ _ _ h => h) (by kernel_rfl) ?_ (by assumption) ?_; rotate_left; (focus (intro w hSw; (try dsimp only at hSw); go_simp <;> with_reducible rfl)); (try simp only [Act.put, List.setIfInBounds_toArray, List.set_cons_zero, List.set_cons_succ])
    refine takeL 5 (v := ?_) rfl (by kernel_rfl) (by kernel_rfl) (by kernel_rfl) (fun _ _ _ h => h) (by kernel_rfl) ?_ (by assumption) ?_; rotate_left; (focus (intro w hSw; (try dsimp only at hSw); go_simp <;> with_reducible rfl)); (try simp only [Act.put, List.setIfInBounds_toArray, List.set_cons_zero, List.set_cons_succ])
    refine takeL 8 (v := ?_) rfl (by kernel_rfl) (by kernel_rfl) (by kernel_rfl) (fun _ _ _ h => h) (by kernel_rfl) ?_ (by assumption) ?_; rotate_left; (focus (intro w hSw; (try dsimp only at hSw); go_simp <;> with_reducible rfl)); (try simp only [Act.put, List.setIfInBounds_toArray, List.set_cons_zero, List.set_cons_succ])
    clear hHeld
    obtain ⟨i0, hi0, hz0, hz1, hz2⟩ := info_parts info5
    refine twoH 3 6 rfl rfl (by kernel_rfl) (by kernel_rfl) (by kernel_rfl) (fun K hK => ?_) (fun K hK => ?_)
    · go_simp; generalize hwA : World.alloc _ _ = w71; have HH71 := Lib.hid ((HH0).out.allocRow hwA (n := 1) (size := 1) rfl (by simp [maxLen])); clear hwA HH0
      refine hK.out _ _ ((HH71).out.only 3 rfl) (fun hHeld => ?_); clear hK K; (try simp only [Act.put, List.setIfInBounds_toArray, List.set_cons_zero, List.set_cons_succ]); clear hHeld
      refine oneL 6 rfl (by kernel_rfl) (by kernel_rfl) (fun K hK => ?_)
      go_simp; refine (rput_any (m : Int) _ 2 (by omega) rfl w71 (by omega) (by omega)).mono ?_; rintro e w8 ⟨vw8, rfl, hownw8, ew8⟩; obtain ⟨Aw8, cw8, rfl, _, _, _⟩ := own_form hownw8; have HH8 := Lib.hid ((HH71).out.addRow ew8 hownw8); clear HH71 hownw8 ew8; go_wp2_with fail
      refine hK.out _ _ ((HH8).out.only 4 rfl) (fun hHeld => ?_); clear hK K; (try simp only [Act.put, List.setIfInBounds_toArray, List.set_cons_zero, List.set_cons_succ]); clear hHeld
      refine oneL 7 rfl (by kernel_rfl) (by kernel_rfl) (fun K hK => ?_); refine sh_app (.tmp 60) (.tmp 63) _ rfl Tryz.underlying57 hj0 hy0 hy1 hy2 rfl (by omega) HH8.out 1 rfl rfl (m := 2) rfl (by rw [bytes_length, puts_length]) (Rd.of_own (HH8.out.rowAt 0 rfl)) (bytes_one _) (by simp only [maxLen]; omega) (by omega) ?_; rintro v9 w9 hh9 ⟨A9, c9, rfl⟩; have HH9 := Lib.hid hh9; clear hh9 HH8; refine hK.out _ _ ((HH9).out.only 4 rfl) (fun hHeld => ?_); clear hK K; (try simp only [Act.put, List.setIfInBounds_toArray, List.set_cons_zero, List.set_cons_succ]); clear hHeld; refine oneL 9 rfl (by kernel_rfl) (by kernel_rfl) (fun K hK => ?_); refine sh_app (.tmp 64) (.tmp 65) _ rfl Tryz.underlying57 hj0 hy0 hy1 hy2 rfl (by omega) HH9.out 1 rfl rfl (m := m) rfl (by rw [bytes_length, ← HM.out, Nat.mul_one]) (Rd.of_own (HH9.out.rowAt 2 rfl)) (bytes_one _) (by simp only [maxLen]; omega) (by omega) ?_; rintro v10 w10 hh10 ⟨A10, c10, rfl⟩; have HH10 := Lib.hid hh10; clear hh10 HH9; refine hK.out _ _ ((HH10).out.only 4 rfl) (fun hHeld => ?_); clear hK K; (try simp only [Act.put, List.setIfInBounds_toArray, List.set_cons_zero, List.set_cons_succ]); refine takeL 10 (v := ?_) rfl (by kernel_rfl) (by kernel_rfl) (by kernel_rfl) (fun _ _ _ h => h) (by kernel_rfl) ?_ (by assumption) ?_; rotate_left; (focus (intro w hSw; (try dsimp only at hSw); go_simp <;> with_reducible rfl)); (try simp only [Act.put, List.setIfInBounds_toArray, List.set_cons_zero, List.set_cons_succ]); refine takeL 11 (v := ?_) rfl (by kernel_rfl) (by kernel_rfl) (by kernel_rfl) (fun _ _ _ h => h) (by kernel_rfl) ?_ (by assumption) ?_; rotate_left; (focus (intro w hSw; (try dsimp only at hSw); go_simp <;> with_reducible rfl)); (try simp only [Act.put, List.setIfInBounds_toArray, List.set_cons_zero, List.set_cons_succ]); refine wpAnyH_done (by kernel_rfl) ?_ _; go_wp2_with fail; refine HOut.out _ _ ⟨_, rfl, ?_, HH10.out.ext⟩; have h9 := HH10.out.rowAt 1 rfl; rw [HLt.out, HB.out, bytes_append, bytes_append, HKO.out]; exact h9
    · go_simp; refine (rput_any (m : Int) _ 2 (by omega) rfl we (by omega) (by omega)).mono ?_; rintro e w71 ⟨vw71, rfl, hownw71, ew71⟩; obtain ⟨Aw71, cw71, rfl, _, _, _⟩ := own_form hownw71; have HH71 := Lib.hid ((HH0).out.addRow ew71 hownw71); clear HH0 hownw71 ew71; go_wp2_with fail
      refine hK.out _ _ ((HH71).out.only 3 rfl) (fun hHeld => ?_); clear hK K; (try simp only [Act.put, List.setIfInBounds_toArray, List.set_cons_zero, List.set_cons_succ]); clear hHeld
      refine oneL 3 rfl (by kernel_rfl) (by kernel_rfl) (fun K hK => ?_)
      go_simp; generalize hwA : World.alloc _ _ = w8; have HH8 := Lib.hid ((HH71).out.allocRow hwA (n := 1) (size := 1) rfl (by simp [maxLen])); clear hwA HH71
      refine hK.out _ _ ((HH8).out.only 4 rfl) (fun hHeld => ?_); clear hK K; (try simp only [Act.put, List.setIfInBounds_toArray, List.set_cons_zero, List.set_cons_succ]); clear hHeld
      refine oneL 7 rfl (by kernel_rfl) (by kernel_rfl) (fun K hK => ?_); refine sh_app (.tmp 60) (.tmp 63) _ rfl Tryz.underlying57 hj0 hy0 hy1 hy2 rfl (by omega) HH8.out 0 rfl rfl (m := 2) rfl (by rw [bytes_length, puts_length]) (Rd.of_own (HH8.out.rowAt 1 rfl)) (bytes_one _) (by simp only [maxLen]; omega) (by omega) ?_; rintro v9 w9 hh9 ⟨A9, c9, rfl⟩; have HH9 := Lib.hid hh9; clear hh9 HH8; refine hK.out _ _ ((HH9).out.only 4 rfl) (fun hHeld => ?_); clear hK K; (try simp only [Act.put, List.setIfInBounds_toArray, List.set_cons_zero, List.set_cons_succ]); clear hHeld; refine oneL 9 rfl (by kernel_rfl) (by kernel_rfl) (fun K hK => ?_); refine sh_app (.tmp 64) (.tmp 65) _ rfl Tryz.underlying57 hj0 hy0 hy1 hy2 rfl (by omega) HH9.out 0 rfl rfl (m := m) rfl (by rw [bytes_length, ← HM.out, Nat.mul_one]) (Rd.of_own (HH9.out.rowAt 2 rfl)) (bytes_one _) (by simp only [maxLen]; omega) (by omega) ?_; rintro v10 w10 hh10 ⟨A10, c10, rfl⟩; have HH10 := Lib.hid hh10; clear hh10 HH9; refine hK.out _ _ ((HH10).out.only 4 rfl) (fun hHeld => ?_); clear hK K; (try simp only [Act.put, List.setIfInBounds_toArray, List.set_cons_zero, List.set_cons_succ]); refine takeL 10 (v := ?_) rfl (by kernel_rfl) (by kernel_rfl) (by kernel_rfl) (fun _ _ _ h => h) (by kernel_rfl) ?_ (by assumption) ?_; rotate_left; (focus (intro w hSw; (try dsimp only at hSw); go_simp <;> with_reducible rfl)); (try simp only [Act.put, List.setIfInBounds_toArray, List.set_cons_zero, List.set_cons_succ]); refine takeL 11 (v := ?_) rfl (by kernel_rfl) (by kernel_rfl) (by kernel_rfl) (fun _ _ _ h => h) (by kernel_rfl) ?_ (by assumption) ?_; rotate_left; (focus (intro w hSw; (try dsimp only at hSw); go_simp <;> with_reducible rfl)); (try simp only [Act.put, List.setIfInBounds_toArray, List.set_cons_zero, List.set_cons_succ]); refine wpAnyH_done (by kernel_rfl) ?_ _; go_wp2_with fail; refine HOut.out _ _ ⟨_, rfl, ?_, HH10.out.ext⟩; have h9 := HH10.out.rowAt 0 rfl; rw [HLt.out, HB.out, bytes_append, bytes_append, HKO.out]; exact h9
  · go_simp; refine (HN.out w4 HH4.out.ext).mono ?_; rintro e w5 ⟨vw5, rfl, hownw5, ew5⟩; obtain ⟨Aw5, cw5, rfl, _, _, _⟩ := own_form hownw5; have HH5 := Lib.hid ((HH4).out.addRow ew5 hownw5); clear HH4 hownw5 ew5; go_wp2_with fail
    refine hK.out _ _ ((HH5).out.only 1 rfl) (fun hHeld => ?_); clear hK K; (try simp only [Act.put, List.setIfInBounds_toArray, List.set_cons_zero, List.set_cons_succ]); clear hHeld
    refine oneL 8 rfl (by kernel_rfl) (by kernel_rfl) (fun K hK => ?_)
    go_simp; generalize hwA : World.alloc _ _ = w6; have HH6 := Lib.hid ((HH5).out.allocRow hwA (n := 3) (size := 1) rfl (by simp [maxLen])); clear hwA HH5
    refine hK.out _ _ ((HH6).out.only 2 rfl) (fun hHeld => ?_); clear hK K; (try simp only [Act.put, List.setIfInBounds_toArray, List.set_cons_zero, List.set_cons_succ]); clear hHeld
    refine oneL 12 rfl (by kernel_rfl) (by kernel_rfl) (fun K hK => ?_)
    refine sh_app (.tmp 30) (.tmp 33) _ rfl Tryz.underlying48 hi0 hz0 hz1 hz2 rfl (by omega) HH6.out 0 rfl rfl (m := on * 2) rfl (by rw [List.length_map, HL.out, ← HOn.out, Nat.mul_one]) (Rd.of_own (HH6.out.rowAt 1 rfl)) (by simp [Value.oneCell']) (by simp only [maxLen]; omega) (by omega) ?_
    rintro vt wt hht ⟨At, ct, rfl⟩
    have HHt := Lib.hid hht
    clear hht HH6
    refine hK.out _ _ ((HHt).out.only 2 rfl) (fun hHeld => ?_); clear hK K; (try simp only [Act.put, List.setIfInBounds_toArray, List.set_cons_zero, List.set_cons_succ])
    refine takeL 13 (v := ?_) rfl (by kernel_rfl) (by kernel_rfl) (by kernel_rfl) (fun _ _ _ h => h) (by kernel_rfl) ?_ (by assumption) ?_; rotate_left; (focus (intro w hSw; (try dsimp only at hSw); go_simp <;> with_reducible rfl)); (try simp only [Act.put, List.setIfInBounds_toArray, List.set_cons_zero, List.set_cons_succ])
    refine wpAnyH_done (by kernel_rfl) ?_ _
    have HRow := Lib.hid (show wt.ownsRow w.heap.size 9 1 (.slice At (3 + on * 2) ct) (3 + on * 2) (tx.map Value.string) by rw [HT.out, List.map_append]; exact HHt.out.rowAt 0 rfl)
    have HHc := Lib.hid (HHt.out.pair 0 2 rfl rfl rfl)
    clear HHt
    have HNx := Lib.hid (show tx.length = 3 + on * 2 by rw [HT.out]; rw [List.length_append, HL.out, ← HOn.out]; rfl)
    have hnb : (3 + on * 2) ≤ 1000000000 := by omega
    have HWr := Lib.hid (rwrite_any wt (At) (3 + on * 2) (ct) tx HNx.out.symm (by omega) ((Rd.of_own HRow.out).more (Nat.zero_le _) (Nat.le_refl _)))
    clear HRow
    go_wp2_with fail
    refine HWr.out.mono ?_
    rintro e w7 ⟨v7, rfl, hown7, e7⟩
    obtain ⟨A7, c7, rfl, _, _, _⟩ := own_form hown7
    have HH7 := Lib.hid (HHc.out.addRow e7 hown7)
    clear HHc hown7 e7 HWr hnb
    rw [HFit.out]
    have hlen : (wB tx).length ≤ 1000 := by have := HEl.out; rw [HB.out, List.length_append, List.length_append] at this; omega
    have HLt := Lib.hid (show B.length = 1 + 2 + (wB tx).length by rw [HB.out, List.length_append, List.length_append, puts_length]; rfl)
    generalize wB tx = bs at *
    obtain ⟨m, hm⟩ : ∃ m, m = bs.length := ⟨_, rfl⟩
    rw [← hm] at HH7 HB HLt hlen ⊢
    have HM := Lib.hid hm
    clear hm
    go_wp2_with fail
    have HL7 : Heap w [.box w.heap.size [.int .i64 1, .string name, .int .i64 frm, .int .i64 guid, .slice oA on oc, .int .i64 index, .int .i64 count, .string data, .int .u64 s0, .int .u64 s1, .int .u64 s2, .int .u64 s3]] w7.drew := (HH7.out.only 2 rfl).drew
    refine wp_region_held_drew (S := Heap w [.box w.heap.size [.int .i64 1, .string name, .int .i64 frm, .int .i64 guid, .slice oA on oc, .int .i64 index, .int .i64 count, .string data, .int .u64 s0, .int .u64 s1, .int .u64 s2, .int .u64 s3]]) (by kernel_rfl) HL7 (fun hHeld => ?_)
    have HH0 := Lib.hid HH7.out.drew
    clear HH7 HL7
    generalize hwd : World.drew w7 = we at *
    clear hwd
    refine takeL 0 (v := ?_) rfl (by kernel_rfl) (by kernel_rfl) (by kernel_rfl) (fun _ _ _ h => h) (by kernel_rfl) ?_ (by assumption) ?_; rotate_left; (focus (intro w hSw; (try dsimp only at hSw); go_simp <;> with_reducible rfl)); (try simp only [Act.put, List.setIfInBounds_toArray, List.set_cons_zero, List.set_cons_succ])
    refine takeL 1 rfl (by kernel_rfl) (by kernel_rfl) (by kernel_rfl) (fun _ _ _ h => h) (by kernel_rfl) (fun wT hST => sh_run_load1 hST rfl rfl 0 rfl rfl (by kernel_rfl)) hHeld ?_; (try simp only [Act.put, List.setIfInBounds_toArray, List.set_cons_zero, List.set_cons_succ])
    refine takeL 2 (v := ?_) rfl (by kernel_rfl) (by kernel_rfl) (by kernel_rfl) (fun _ _ _ h => h) (by kernel_rfl) ?_ (by assumption) ?_; rotate_left; (focus (intro w hSw; (try dsimp only at hSw); go_simp <;> with_reducible rfl)); (try simp only [Act.put, List.setIfInBounds_toArray, List.set_cons_zero, List.set_cons_succ])
    refine takeL 4 (v := ?_) rfl (by kernel_rfl) (by kernel_rfl) (by kernel_rfl) (fun _ _ _ h => h) (by kernel_rfl) ?_ (by assumption) ?_; rotate_left; (focus (intro w hSw; (try dsimp only at hSw); go_simp <;> with_reducible rfl)); (try simp only [Act.put, List.setIfInBounds_toArray, List.set_cons_zero, List.set_cons_succ])
    refine takeL 5 (v := ?_) rfl (by kernel_rfl) (by kernel_rfl) (by kernel_rfl) (fun _ _ _ h => h) (by kernel_rfl) ?_ (by assumption) ?_; rotate_left; (focus (intro w hSw; (try dsimp only at hSw); go_simp <;> with_reducible rfl)); (try simp only [Act.put, List.setIfInBounds_toArray, List.set_cons_zero, List.set_cons_succ])
    refine takeL 8 (v := ?_) rfl (by kernel_rfl) (by kernel_rfl) (by kernel_rfl) (fun _ _ _ h => h) (by kernel_rfl) ?_ (by assumption) ?_; rotate_left; (focus (intro w hSw; (try dsimp only at hSw); go_simp <;> with_reducible rfl)); (try simp only [Act.put, List.setIfInBounds_toArray, List.set_cons_zero, List.set_cons_succ])
    clear hHeld
    obtain ⟨i0, hi0, hz0, hz1, hz2⟩ := info_parts info5
    refine twoH 3 6 rfl rfl (by kernel_rfl) (by kernel_rfl) (by kernel_rfl) (fun K hK => ?_) (fun K hK => ?_)
    · go_simp; generalize hwA : World.alloc _ _ = w71; have HH71 := Lib.hid ((HH0).out.allocRow hwA (n := 1) (size := 1) rfl (by simp [maxLen])); clear hwA HH0
      refine hK.out _ _ ((HH71).out.only 3 rfl) (fun hHeld => ?_); clear hK K; (try simp only [Act.put, List.setIfInBounds_toArray, List.set_cons_zero, List.set_cons_succ]); clear hHeld
      refine oneL 6 rfl (by kernel_rfl) (by kernel_rfl) (fun K hK => ?_)
      go_simp; refine (rput_any (m : Int) _ 2 (by omega) rfl w71 (by omega) (by omega)).mono ?_; rintro e w8 ⟨vw8, rfl, hownw8, ew8⟩; obtain ⟨Aw8, cw8, rfl, _, _, _⟩ := own_form hownw8; have HH8 := Lib.hid ((HH71).out.addRow ew8 hownw8); clear HH71 hownw8 ew8; go_wp2_with fail
      refine hK.out _ _ ((HH8).out.only 4 rfl) (fun hHeld => ?_); clear hK K; (try simp only [Act.put, List.setIfInBounds_toArray, List.set_cons_zero, List.set_cons_succ]); clear hHeld
      refine oneL 7 rfl (by kernel_rfl) (by kernel_rfl) (fun K hK => ?_); refine sh_app (.tmp 60) (.tmp 63) _ rfl Tryz.underlying57 hj0 hy0 hy1 hy2 rfl (by omega) HH8.out 1 rfl rfl (m := 2) rfl (by rw [bytes_length, puts_length]) (Rd.of_own (HH8.out.rowAt 0 rfl)) (bytes_one _) (by simp only [maxLen]; omega) (by omega) ?_; rintro v9 w9 hh9 ⟨A9, c9, rfl⟩; have HH9 := Lib.hid hh9; clear hh9 HH8; refine hK.out _ _ ((HH9).out.only 4 rfl) (fun hHeld => ?_); clear hK K; (try simp only [Act.put, List.setIfInBounds_toArray, List.set_cons_zero, List.set_cons_succ]); clear hHeld; refine oneL 9 rfl (by kernel_rfl) (by kernel_rfl) (fun K hK => ?_); refine sh_app (.tmp 64) (.tmp 65) _ rfl Tryz.underlying57 hj0 hy0 hy1 hy2 rfl (by omega) HH9.out 1 rfl rfl (m := m) rfl (by rw [bytes_length, ← HM.out, Nat.mul_one]) (Rd.of_own (HH9.out.rowAt 2 rfl)) (bytes_one _) (by simp only [maxLen]; omega) (by omega) ?_; rintro v10 w10 hh10 ⟨A10, c10, rfl⟩; have HH10 := Lib.hid hh10; clear hh10 HH9; refine hK.out _ _ ((HH10).out.only 4 rfl) (fun hHeld => ?_); clear hK K; (try simp only [Act.put, List.setIfInBounds_toArray, List.set_cons_zero, List.set_cons_succ]); refine takeL 10 (v := ?_) rfl (by kernel_rfl) (by kernel_rfl) (by kernel_rfl) (fun _ _ _ h => h) (by kernel_rfl) ?_ (by assumption) ?_; rotate_left; (focus (intro w hSw; (try dsimp only at hSw); go_simp <;> with_reducible rfl)); (try simp only [Act.put, List.setIfInBounds_toArray, List.set_cons_zero, List.set_cons_succ]); refine takeL 11 (v := ?_) rfl (by kernel_rfl) (by kernel_rfl) (by kernel_rfl) (fun _ _ _ h => h) (by kernel_rfl) ?_ (by assumption) ?_; rotate_left; (focus (intro w hSw; (try dsimp only at hSw); go_simp <;> with_reducible rfl)); (try simp only [Act.put, List.setIfInBounds_toArray, List.set_cons_zero, List.set_cons_succ]); refine wpAnyH_done (by kernel_rfl) ?_ _; go_wp2_with fail; refine HOut.out _ _ ⟨_, rfl, ?_, HH10.out.ext⟩; have h9 := HH10.out.rowAt 1 rfl; rw [HLt.out, HB.out, bytes_append, bytes_append, HKO.out]; exact h9
    · go_simp; refine (rput_any (m : Int) _ 2 (by omega) rfl we (by omega) (by omega)).mono ?_; rintro e w71 ⟨vw71, rfl, hownw71, ew71⟩; obtain ⟨Aw71, cw71, rfl, _, _, _⟩ := own_form hownw71; have HH71 := Lib.hid ((HH0).out.addRow ew71 hownw71); clear HH0 hownw71 ew71; go_wp2_with fail
      refine hK.out _ _ ((HH71).out.only 3 rfl) (fun hHeld => ?_); clear hK K; (try simp only [Act.put, List.setIfInBounds_toArray, List.set_cons_zero, List.set_cons_succ]); clear hHeld
      refine oneL 3 rfl (by kernel_rfl) (by kernel_rfl) (fun K hK => ?_)
      go_simp; generalize hwA : World.alloc _ _ = w8; have HH8 := Lib.hid ((HH71).out.allocRow hwA (n := 1) (size := 1) rfl (by simp [maxLen])); clear hwA HH71
      refine hK.out _ _ ((HH8).out.only 4 rfl) (fun hHeld => ?_); clear hK K; (try simp only [Act.put, List.setIfInBounds_toArray, List.set_cons_zero, List.set_cons_succ]); clear hHeld
      refine oneL 7 rfl (by kernel_rfl) (by kernel_rfl) (fun K hK => ?_); refine sh_app (.tmp 60) (.tmp 63) _ rfl Tryz.underlying57 hj0 hy0 hy1 hy2 rfl (by omega) HH8.out 0 rfl rfl (m := 2) rfl (by rw [bytes_length, puts_length]) (Rd.of_own (HH8.out.rowAt 1 rfl)) (bytes_one _) (by simp only [maxLen]; omega) (by omega) ?_; rintro v9 w9 hh9 ⟨A9, c9, rfl⟩; have HH9 := Lib.hid hh9; clear hh9 HH8; refine hK.out _ _ ((HH9).out.only 4 rfl) (fun hHeld => ?_); clear hK K; (try simp only [Act.put, List.setIfInBounds_toArray, List.set_cons_zero, List.set_cons_succ]); clear hHeld; refine oneL 9 rfl (by kernel_rfl) (by kernel_rfl) (fun K hK => ?_); refine sh_app (.tmp 64) (.tmp 65) _ rfl Tryz.underlying57 hj0 hy0 hy1 hy2 rfl (by omega) HH9.out 0 rfl rfl (m := m) rfl (by rw [bytes_length, ← HM.out, Nat.mul_one]) (Rd.of_own (HH9.out.rowAt 2 rfl)) (bytes_one _) (by simp only [maxLen]; omega) (by omega) ?_; rintro v10 w10 hh10 ⟨A10, c10, rfl⟩; have HH10 := Lib.hid hh10; clear hh10 HH9; refine hK.out _ _ ((HH10).out.only 4 rfl) (fun hHeld => ?_); clear hK K; (try simp only [Act.put, List.setIfInBounds_toArray, List.set_cons_zero, List.set_cons_succ]); refine takeL 10 (v := ?_) rfl (by kernel_rfl) (by kernel_rfl) (by kernel_rfl) (fun _ _ _ h => h) (by kernel_rfl) ?_ (by assumption) ?_; rotate_left; (focus (intro w hSw; (try dsimp only at hSw); go_simp <;> with_reducible rfl)); (try simp only [Act.put, List.setIfInBounds_toArray, List.set_cons_zero, List.set_cons_succ]); refine takeL 11 (v := ?_) rfl (by kernel_rfl) (by kernel_rfl) (by kernel_rfl) (fun _ _ _ h => h) (by kernel_rfl) ?_ (by assumption) ?_; rotate_left; (focus (intro w hSw; (try dsimp only at hSw); go_simp <;> with_reducible rfl)); (try simp only [Act.put, List.setIfInBounds_toArray, List.set_cons_zero, List.set_cons_succ]); refine wpAnyH_done (by kernel_rfl) ?_ _; go_wp2_with fail; refine HOut.out _ _ ⟨_, rfl, ?_, HH10.out.ext⟩; have h9 := HH10.out.rowAt 0 rfl; rw [HLt.out, HB.out, bytes_append, bytes_append, HKO.out]; exact h9

set_option maxRecDepth 100000 in
set_option maxHeartbeats 8000000 in
theorem rencode2_any (w : World) (x : Rec) (hr : Rd w 0 w.heap.size x.oA (prps x.own)) (hx : x.wf) (hon : x.on ≤ 100000000) (hs : (sumR x).wf) (hE : recE x = 0) (hK : x.kind = 2) :
    Calls Tryz.prog 33 #[.agg x.cells.toArray] w (EncOk x w) := by
  have HCk := Lib.hid (fun W (hW : Ext w W) => rcheck_any W x (Rd.at hr hW (Nat.le_refl _)) hx)
  have HR := Lib.hid hr
  have HFr := Lib.hid hx.frm
  have HGu := Lib.hid hx.guid
  have HIx := Lib.hid hx.index
  have HCo := Lib.hid hx.count
  have HSu := Lib.hid hs
  have HOn := Lib.hid hx.own
  have HL := Lib.hid (ptext_length x.own)
  have HFit := Lib.hid (texts_fit x hE)
  have HSm := Lib.hid (texts_small x hE)
  have HEl := Lib.hid (encB_len x)
  have HB := Lib.hid (show encB x = [UInt8.ofNat x.kind.toNat] ++ puts (wB (recTexts x)).length 2 ++ wB (recTexts x) by rw [encB, if_pos hE])
  have HOut := Lib.hid (fun (e : Ending) (w' : World) (h : ∃ v, e = .returned (.tuple #[v, .int .i64 0]) ∧ w'.ownsRow w.heap.size 5 1 v (encB x).length (bytes (encB x)) ∧ Ext w w') => show EncOk x w e w' by
    obtain ⟨v, h1, h2⟩ := h
    exact ⟨v, by rw [hE]; exact h1, h2⟩)
  have HTx := Lib.hid (show recTexts x = recTexts x from rfl)
  unfold recTexts at HTx
  have HKO := Lib.hid (kindO x.kind (by omega))
  rw [hE] at HCk
  clear hr hx hs hE
  obtain ⟨B, hB⟩ : ∃ B, B = encB x := ⟨_, rfl⟩
  rw [← hB] at HEl HB HOut
  have HT := Lib.hid (show recTexts x = recTexts x from rfl)
  obtain ⟨tx, htx⟩ : ∃ tx, tx = recTexts x := ⟨_, rfl⟩
  rw [← htx] at HFit HSm HB
  obtain ⟨OUT, hOUT⟩ : ∃ OUT : Ending → World → Prop, OUT = EncOk x w := ⟨_, rfl⟩
  rw [← hOUT] at HOut ⊢
  clear hB hOUT HT HTx
  obtain ⟨kind, name, frm, guid, oA, on, oc, own, index, count, data, s0, s1, s2, s3⟩ := x
  simp only [Rec.cells] at HCk ⊢
  dsimp only at hK HB hon HR HFr HGu HIx HCo HOn HL HKO
  subst hK
  have HT := Lib.hid (show tx = [num8 index, data] by rw [htx]; rfl)
  clear htx
  obtain ⟨i0, hi0, hz0, hz1, hz2⟩ := info_parts infoT
  obtain ⟨j0, hj0, hy0, hy1, hy2⟩ := info_parts info5
  have HN := Lib.hid (fun (W : World) (hW : Ext w W) => (rtext_any W oA on oc own HOn.out (by omega) (Rd.at HR.out hW (Nat.le_refl _))))
  go_enter Tryz.func33, Tryz.ntmps33
  go_upto_region 1 with fail
  generalize hwH : World.alloc w _ = w1; have HH := Lib.hid (Heap.one hwH); clear hwH
  go_wp2_with (refine shl_load HH.out sizeRec (by kernel_rfl) rfl rfl rfl 0 rfl rfl ?_)
  refine (HCk.out w1 HH.out.ext).mono ?_
  rintro e w2 ⟨rfl, e2⟩
  have HH2 := Lib.hid (HH.out.later e2)
  clear HH e2 HCk
  have HH := HH2
  clear HH2
  go_wp2_with (first | (refine shl_load HH.out sizeSu (by kernel_rfl) rfl rfl rfl 0 rfl rfl ?_) | (refine shl_load1 HH.out rfl rfl rfl 0 rfl rfl (by decide +kernel) ?_))
  have HHd := Lib.hid HH.out.drew; clear HH; refine wp_region_held_drew (S := Heap w [.box w.heap.size [.int .i64 2, .string name, .int .i64 frm, .int .i64 guid, .slice oA on oc, .int .i64 index, .int .i64 count, .string data, .int .u64 s0, .int .u64 s1, .int .u64 s2, .int .u64 s3]]) (by kernel_rfl) HHd.out (fun hHeld => ?_); generalize hwd : World.drew w2 = wd at *; clear hwd; have HH0 := HHd; clear HHd
  refine takeL 0 (v := ?_) rfl (by kernel_rfl) (by kernel_rfl) (by kernel_rfl) (fun _ _ _ h => h) (by kernel_rfl) ?_ (by assumption) ?_; rotate_left; (focus (intro w hSw; (try dsimp only at hSw); go_simp <;> with_reducible rfl)); (try simp only [Act.put, List.setIfInBounds_toArray, List.set_cons_zero, List.set_cons_succ])
  refine takeL 1 rfl (by kernel_rfl) (by kernel_rfl) (by kernel_rfl) (fun _ _ _ h => h) (by kernel_rfl) (fun wT hST => sh_run_load1 hST rfl rfl 0 rfl rfl (by kernel_rfl)) hHeld ?_; (try simp only [Act.put, List.setIfInBounds_toArray, List.set_cons_zero, List.set_cons_succ])
  refine takeL 3 (v := ?_) rfl (by kernel_rfl) (by kernel_rfl) (by kernel_rfl) (fun _ _ _ h => h) (by kernel_rfl) ?_ (by assumption) ?_; rotate_left; (focus (intro w hSw; (try dsimp only at hSw); go_simp <;> with_reducible rfl)); (try simp only [Act.put, List.setIfInBounds_toArray, List.set_cons_zero, List.set_cons_succ])
  refine takeL 4 rfl (by kernel_rfl) (by kernel_rfl) (by kernel_rfl) (fun _ _ _ h => h) (by kernel_rfl) (fun wT hST => sh_run_load1 hST rfl rfl 0 rfl rfl (by kernel_rfl)) hHeld ?_; (try simp only [Act.put, List.setIfInBounds_toArray, List.set_cons_zero, List.set_cons_succ])
  clear hHeld
  refine oneL 2 rfl (by kernel_rfl) (by kernel_rfl) (fun K hK => ?_)
  go_simp; refine (rnum_any index _ HIx.out.1 HIx.out.2).mono ?_; rintro e w3 ⟨rfl, ew3⟩; have HH3 := Lib.hid ((HH0).out.later ew3); clear HH0 ew3; go_wp2_with fail
  refine hK.out _ _ ((HH3).out.only 0 rfl) (fun hHeld => ?_); clear hK K; (try simp only [Act.put, List.setIfInBounds_toArray, List.set_cons_zero, List.set_cons_succ]); clear hHeld
  refine oneL 5 rfl (by kernel_rfl) (by kernel_rfl) (fun K hK => ?_)
  go_simp; generalize hwA : World.alloc _ _ = wt; have HHt := Lib.hid ((HH3).out.allocRow hwA (n := 2) (size := 1) rfl (by simp [maxLen])); clear hwA HH3
  refine hK.out _ _ ((HHt).out.only 1 rfl) (fun hHeld => ?_); clear hK K; (try simp only [Act.put, List.setIfInBounds_toArray, List.set_cons_zero, List.set_cons_succ])
  refine takeL 6 (v := ?_) rfl (by kernel_rfl) (by kernel_rfl) (by kernel_rfl) (fun _ _ _ h => h) (by kernel_rfl) ?_ (by assumption) ?_; rotate_left; (focus (intro w hSw; (try dsimp only at hSw); go_simp <;> with_reducible rfl)); (try simp only [Act.put, List.setIfInBounds_toArray, List.set_cons_zero, List.set_cons_succ])
  refine wpAnyH_done (by kernel_rfl) ?_ _
  have HRow := Lib.hid (show wt.ownsRow w.heap.size 9 1 (.slice (some ⟨w3.heap.size, 0, none⟩) 2 2) 2 (tx.map Value.string) by rw [HT.out]; exact HHt.out.rowAt 0 rfl)
  have HHc := Lib.hid (HHt.out.pair 0 1 rfl rfl rfl)
  clear HHt
  have HNx := Lib.hid (show tx.length = 2 by rw [HT.out]; rfl)
  have hnb : (2) ≤ 1000000000 := by omega
  have HWr := Lib.hid (rwrite_any wt (some ⟨w3.heap.size, 0, none⟩) (2) (2) tx HNx.out.symm (by omega) ((Rd.of_own HRow.out).more (Nat.zero_le _) (Nat.le_refl _)))
  clear HRow
  go_wp2_with fail
  refine HWr.out.mono ?_
  rintro e w7 ⟨v7, rfl, hown7, e7⟩
  obtain ⟨A7, c7, rfl, _, _, _⟩ := own_form hown7
  have HH7 := Lib.hid (HHc.out.addRow e7 hown7)
  clear HHc hown7 e7 HWr hnb
  rw [HFit.out]
  have hlen : (wB tx).length ≤ 1000 := by have := HEl.out; rw [HB.out, List.length_append, List.length_append] at this; omega
  have HLt := Lib.hid (show B.length = 1 + 2 + (wB tx).length by rw [HB.out, List.length_append, List.length_append, puts_length]; rfl)
  generalize wB tx = bs at *
  obtain ⟨m, hm⟩ : ∃ m, m = bs.length := ⟨_, rfl⟩
  rw [← hm] at HH7 HB HLt hlen ⊢
  have HM := Lib.hid hm
  clear hm
  go_wp2_with fail
  have HL7 : Heap w [.box w.heap.size [.int .i64 2, .string name, .int .i64 frm, .int .i64 guid, .slice oA on oc, .int .i64 index, .int .i64 count, .string data, .int .u64 s0, .int .u64 s1, .int .u64 s2, .int .u64 s3]] w7.drew := (HH7.out.only 2 rfl).drew
  refine wp_region_held_drew (S := Heap w [.box w.heap.size [.int .i64 2, .string name, .int .i64 frm, .int .i64 guid, .slice oA on oc, .int .i64 index, .int .i64 count, .string data, .int .u64 s0, .int .u64 s1, .int .u64 s2, .int .u64 s3]]) (by kernel_rfl) HL7 (fun hHeld => ?_)
  have HH0 := Lib.hid HH7.out.drew
  clear HH7 HL7
  generalize hwd : World.drew w7 = we at *
  clear hwd
  refine takeL 0 (v := ?_) rfl (by kernel_rfl) (by kernel_rfl) (by kernel_rfl) (fun _ _ _ h => h) (by kernel_rfl) ?_ (by assumption) ?_; rotate_left; (focus (intro w hSw; (try dsimp only at hSw); go_simp <;> with_reducible rfl)); (try simp only [Act.put, List.setIfInBounds_toArray, List.set_cons_zero, List.set_cons_succ])
  refine takeL 1 rfl (by kernel_rfl) (by kernel_rfl) (by kernel_rfl) (fun _ _ _ h => h) (by kernel_rfl) (fun wT hST => sh_run_load1 hST rfl rfl 0 rfl rfl (by kernel_rfl)) hHeld ?_; (try simp only [Act.put, List.setIfInBounds_toArray, List.set_cons_zero, List.set_cons_succ])
  refine takeL 2 (v := ?_) rfl (by kernel_rfl) (by kernel_rfl) (by kernel_rfl) (fun _ _ _ h => h) (by kernel_rfl) ?_ (by assumption) ?_; rotate_left; (focus (intro w hSw; (try dsimp only at hSw); go_simp <;> with_reducible rfl)); (try simp only [Act.put, List.setIfInBounds_toArray, List.set_cons_zero, List.set_cons_succ])
  refine takeL 4 (v := ?_) rfl (by kernel_rfl) (by kernel_rfl) (by kernel_rfl) (fun _ _ _ h => h) (by kernel_rfl) ?_ (by assumption) ?_; rotate_left; (focus (intro w hSw; (try dsimp only at hSw); go_simp <;> with_reducible rfl)); (try simp only [Act.put, List.setIfInBounds_toArray, List.set_cons_zero, List.set_cons_succ])
  refine takeL 5 (v := ?_) rfl (by kernel_rfl) (by kernel_rfl) (by kernel_rfl) (fun _ _ _ h => h) (by kernel_rfl) ?_ (by assumption) ?_; rotate_left; (focus (intro w hSw; (try dsimp only at hSw); go_simp <;> with_reducible rfl)); (try simp only [Act.put, List.setIfInBounds_toArray, List.set_cons_zero, List.set_cons_succ])
  refine takeL 8 (v := ?_) rfl (by kernel_rfl) (by kernel_rfl) (by kernel_rfl) (fun _ _ _ h => h) (by kernel_rfl) ?_ (by assumption) ?_; rotate_left; (focus (intro w hSw; (try dsimp only at hSw); go_simp <;> with_reducible rfl)); (try simp only [Act.put, List.setIfInBounds_toArray, List.set_cons_zero, List.set_cons_succ])
  clear hHeld
  obtain ⟨i0, hi0, hz0, hz1, hz2⟩ := info_parts info5
  refine twoH 3 6 rfl rfl (by kernel_rfl) (by kernel_rfl) (by kernel_rfl) (fun K hK => ?_) (fun K hK => ?_)
  · go_simp; generalize hwA : World.alloc _ _ = w71; have HH71 := Lib.hid ((HH0).out.allocRow hwA (n := 1) (size := 1) rfl (by simp [maxLen])); clear hwA HH0
    refine hK.out _ _ ((HH71).out.only 3 rfl) (fun hHeld => ?_); clear hK K; (try simp only [Act.put, List.setIfInBounds_toArray, List.set_cons_zero, List.set_cons_succ]); clear hHeld
    refine oneL 6 rfl (by kernel_rfl) (by kernel_rfl) (fun K hK => ?_)
    go_simp; refine (rput_any (m : Int) _ 2 (by omega) rfl w71 (by omega) (by omega)).mono ?_; rintro e w8 ⟨vw8, rfl, hownw8, ew8⟩; obtain ⟨Aw8, cw8, rfl, _, _, _⟩ := own_form hownw8; have HH8 := Lib.hid ((HH71).out.addRow ew8 hownw8); clear HH71 hownw8 ew8; go_wp2_with fail
    refine hK.out _ _ ((HH8).out.only 4 rfl) (fun hHeld => ?_); clear hK K; (try simp only [Act.put, List.setIfInBounds_toArray, List.set_cons_zero, List.set_cons_succ]); clear hHeld
    refine oneL 7 rfl (by kernel_rfl) (by kernel_rfl) (fun K hK => ?_); refine sh_app (.tmp 60) (.tmp 63) _ rfl Tryz.underlying57 hj0 hy0 hy1 hy2 rfl (by omega) HH8.out 1 rfl rfl (m := 2) rfl (by rw [bytes_length, puts_length]) (Rd.of_own (HH8.out.rowAt 0 rfl)) (bytes_one _) (by simp only [maxLen]; omega) (by omega) ?_; rintro v9 w9 hh9 ⟨A9, c9, rfl⟩; have HH9 := Lib.hid hh9; clear hh9 HH8; refine hK.out _ _ ((HH9).out.only 4 rfl) (fun hHeld => ?_); clear hK K; (try simp only [Act.put, List.setIfInBounds_toArray, List.set_cons_zero, List.set_cons_succ]); clear hHeld; refine oneL 9 rfl (by kernel_rfl) (by kernel_rfl) (fun K hK => ?_); refine sh_app (.tmp 64) (.tmp 65) _ rfl Tryz.underlying57 hj0 hy0 hy1 hy2 rfl (by omega) HH9.out 1 rfl rfl (m := m) rfl (by rw [bytes_length, ← HM.out, Nat.mul_one]) (Rd.of_own (HH9.out.rowAt 2 rfl)) (bytes_one _) (by simp only [maxLen]; omega) (by omega) ?_; rintro v10 w10 hh10 ⟨A10, c10, rfl⟩; have HH10 := Lib.hid hh10; clear hh10 HH9; refine hK.out _ _ ((HH10).out.only 4 rfl) (fun hHeld => ?_); clear hK K; (try simp only [Act.put, List.setIfInBounds_toArray, List.set_cons_zero, List.set_cons_succ]); refine takeL 10 (v := ?_) rfl (by kernel_rfl) (by kernel_rfl) (by kernel_rfl) (fun _ _ _ h => h) (by kernel_rfl) ?_ (by assumption) ?_; rotate_left; (focus (intro w hSw; (try dsimp only at hSw); go_simp <;> with_reducible rfl)); (try simp only [Act.put, List.setIfInBounds_toArray, List.set_cons_zero, List.set_cons_succ]); refine takeL 11 (v := ?_) rfl (by kernel_rfl) (by kernel_rfl) (by kernel_rfl) (fun _ _ _ h => h) (by kernel_rfl) ?_ (by assumption) ?_; rotate_left; (focus (intro w hSw; (try dsimp only at hSw); go_simp <;> with_reducible rfl)); (try simp only [Act.put, List.setIfInBounds_toArray, List.set_cons_zero, List.set_cons_succ]); refine wpAnyH_done (by kernel_rfl) ?_ _; go_wp2_with fail; refine HOut.out _ _ ⟨_, rfl, ?_, HH10.out.ext⟩; have h9 := HH10.out.rowAt 1 rfl; rw [HLt.out, HB.out, bytes_append, bytes_append, HKO.out]; exact h9
  · go_simp; refine (rput_any (m : Int) _ 2 (by omega) rfl we (by omega) (by omega)).mono ?_; rintro e w71 ⟨vw71, rfl, hownw71, ew71⟩; obtain ⟨Aw71, cw71, rfl, _, _, _⟩ := own_form hownw71; have HH71 := Lib.hid ((HH0).out.addRow ew71 hownw71); clear HH0 hownw71 ew71; go_wp2_with fail
    refine hK.out _ _ ((HH71).out.only 3 rfl) (fun hHeld => ?_); clear hK K; (try simp only [Act.put, List.setIfInBounds_toArray, List.set_cons_zero, List.set_cons_succ]); clear hHeld
    refine oneL 3 rfl (by kernel_rfl) (by kernel_rfl) (fun K hK => ?_)
    go_simp; generalize hwA : World.alloc _ _ = w8; have HH8 := Lib.hid ((HH71).out.allocRow hwA (n := 1) (size := 1) rfl (by simp [maxLen])); clear hwA HH71
    refine hK.out _ _ ((HH8).out.only 4 rfl) (fun hHeld => ?_); clear hK K; (try simp only [Act.put, List.setIfInBounds_toArray, List.set_cons_zero, List.set_cons_succ]); clear hHeld
    refine oneL 7 rfl (by kernel_rfl) (by kernel_rfl) (fun K hK => ?_); refine sh_app (.tmp 60) (.tmp 63) _ rfl Tryz.underlying57 hj0 hy0 hy1 hy2 rfl (by omega) HH8.out 0 rfl rfl (m := 2) rfl (by rw [bytes_length, puts_length]) (Rd.of_own (HH8.out.rowAt 1 rfl)) (bytes_one _) (by simp only [maxLen]; omega) (by omega) ?_; rintro v9 w9 hh9 ⟨A9, c9, rfl⟩; have HH9 := Lib.hid hh9; clear hh9 HH8; refine hK.out _ _ ((HH9).out.only 4 rfl) (fun hHeld => ?_); clear hK K; (try simp only [Act.put, List.setIfInBounds_toArray, List.set_cons_zero, List.set_cons_succ]); clear hHeld; refine oneL 9 rfl (by kernel_rfl) (by kernel_rfl) (fun K hK => ?_); refine sh_app (.tmp 64) (.tmp 65) _ rfl Tryz.underlying57 hj0 hy0 hy1 hy2 rfl (by omega) HH9.out 0 rfl rfl (m := m) rfl (by rw [bytes_length, ← HM.out, Nat.mul_one]) (Rd.of_own (HH9.out.rowAt 2 rfl)) (bytes_one _) (by simp only [maxLen]; omega) (by omega) ?_; rintro v10 w10 hh10 ⟨A10, c10, rfl⟩; have HH10 := Lib.hid hh10; clear hh10 HH9; refine hK.out _ _ ((HH10).out.only 4 rfl) (fun hHeld => ?_); clear hK K; (try simp only [Act.put, List.setIfInBounds_toArray, List.set_cons_zero, List.set_cons_succ]); refine takeL 10 (v := ?_) rfl (by kernel_rfl) (by kernel_rfl) (by kernel_rfl) (fun _ _ _ h => h) (by kernel_rfl) ?_ (by assumption) ?_; rotate_left; (focus (intro w hSw; (try dsimp only at hSw); go_simp <;> with_reducible rfl)); (try simp only [Act.put, List.setIfInBounds_toArray, List.set_cons_zero, List.set_cons_succ]); refine takeL 11 (v := ?_) rfl (by kernel_rfl) (by kernel_rfl) (by kernel_rfl) (fun _ _ _ h => h) (by kernel_rfl) ?_ (by assumption) ?_; rotate_left; (focus (intro w hSw; (try dsimp only at hSw); go_simp <;> with_reducible rfl)); (try simp only [Act.put, List.setIfInBounds_toArray, List.set_cons_zero, List.set_cons_succ]); refine wpAnyH_done (by kernel_rfl) ?_ _; go_wp2_with fail; refine HOut.out _ _ ⟨_, rfl, ?_, HH10.out.ext⟩; have h9 := HH10.out.rowAt 0 rfl; rw [HLt.out, HB.out, bytes_append, bytes_append, HKO.out]; exact h9

set_option maxRecDepth 100000 in
set_option maxHeartbeats 8000000 in
theorem rencode3_any (w : World) (x : Rec) (hr : Rd w 0 w.heap.size x.oA (prps x.own)) (hx : x.wf) (hon : x.on ≤ 100000000) (hs : (sumR x).wf) (hE : recE x = 0) (hK : x.kind = 3) :
    Calls Tryz.prog 33 #[.agg x.cells.toArray] w (EncOk x w) := by
  have HCk := Lib.hid (fun W (hW : Ext w W) => rcheck_any W x (Rd.at hr hW (Nat.le_refl _)) hx)
  have HR := Lib.hid hr
  have HFr := Lib.hid hx.frm
  have HGu := Lib.hid hx.guid
  have HIx := Lib.hid hx.index
  have HCo := Lib.hid hx.count
  have HSu := Lib.hid hs
  have HOn := Lib.hid hx.own
  have HL := Lib.hid (ptext_length x.own)
  have HFit := Lib.hid (texts_fit x hE)
  have HSm := Lib.hid (texts_small x hE)
  have HEl := Lib.hid (encB_len x)
  have HB := Lib.hid (show encB x = [UInt8.ofNat x.kind.toNat] ++ puts (wB (recTexts x)).length 2 ++ wB (recTexts x) by rw [encB, if_pos hE])
  have HOut := Lib.hid (fun (e : Ending) (w' : World) (h : ∃ v, e = .returned (.tuple #[v, .int .i64 0]) ∧ w'.ownsRow w.heap.size 5 1 v (encB x).length (bytes (encB x)) ∧ Ext w w') => show EncOk x w e w' by
    obtain ⟨v, h1, h2⟩ := h
    exact ⟨v, by rw [hE]; exact h1, h2⟩)
  have HTx := Lib.hid (show recTexts x = recTexts x from rfl)
  unfold recTexts at HTx
  have HKO := Lib.hid (kindO x.kind (by omega))
  rw [hE] at HCk
  clear hr hx hs hE
  obtain ⟨B, hB⟩ : ∃ B, B = encB x := ⟨_, rfl⟩
  rw [← hB] at HEl HB HOut
  have HT := Lib.hid (show recTexts x = recTexts x from rfl)
  obtain ⟨tx, htx⟩ : ∃ tx, tx = recTexts x := ⟨_, rfl⟩
  rw [← htx] at HFit HSm HB
  obtain ⟨OUT, hOUT⟩ : ∃ OUT : Ending → World → Prop, OUT = EncOk x w := ⟨_, rfl⟩
  rw [← hOUT] at HOut ⊢
  clear hB hOUT HT HTx
  obtain ⟨kind, name, frm, guid, oA, on, oc, own, index, count, data, s0, s1, s2, s3⟩ := x
  simp only [Rec.cells] at HCk ⊢
  dsimp only at hK HB hon HR HFr HGu HIx HCo HOn HL HKO
  subst hK
  have HT := Lib.hid (show tx = [num8 index, num8 count] by rw [htx]; rfl)
  clear htx
  obtain ⟨i0, hi0, hz0, hz1, hz2⟩ := info_parts infoT
  obtain ⟨j0, hj0, hy0, hy1, hy2⟩ := info_parts info5
  have HN := Lib.hid (fun (W : World) (hW : Ext w W) => (rtext_any W oA on oc own HOn.out (by omega) (Rd.at HR.out hW (Nat.le_refl _))))
  go_enter Tryz.func33, Tryz.ntmps33
  go_upto_region 1 with fail
  generalize hwH : World.alloc w _ = w1; have HH := Lib.hid (Heap.one hwH); clear hwH
  go_wp2_with (refine shl_load HH.out sizeRec (by kernel_rfl) rfl rfl rfl 0 rfl rfl ?_)
  refine (HCk.out w1 HH.out.ext).mono ?_
  rintro e w2 ⟨rfl, e2⟩
  have HH2 := Lib.hid (HH.out.later e2)
  clear HH e2 HCk
  have HH := HH2
  clear HH2
  go_wp2_with (first | (refine shl_load HH.out sizeSu (by kernel_rfl) rfl rfl rfl 0 rfl rfl ?_) | (refine shl_load1 HH.out rfl rfl rfl 0 rfl rfl (by decide +kernel) ?_))
  have HHd := Lib.hid HH.out.drew; clear HH; refine wp_region_held_drew (S := Heap w [.box w.heap.size [.int .i64 3, .string name, .int .i64 frm, .int .i64 guid, .slice oA on oc, .int .i64 index, .int .i64 count, .string data, .int .u64 s0, .int .u64 s1, .int .u64 s2, .int .u64 s3]]) (by kernel_rfl) HHd.out (fun hHeld => ?_); generalize hwd : World.drew w2 = wd at *; clear hwd; have HH0 := HHd; clear HHd
  refine takeL 0 (v := ?_) rfl (by kernel_rfl) (by kernel_rfl) (by kernel_rfl) (fun _ _ _ h => h) (by kernel_rfl) ?_ (by assumption) ?_; rotate_left; (focus (intro w hSw; (try dsimp only at hSw); go_simp <;> with_reducible rfl)); (try simp only [Act.put, List.setIfInBounds_toArray, List.set_cons_zero, List.set_cons_succ])
  refine takeL 1 rfl (by kernel_rfl) (by kernel_rfl) (by kernel_rfl) (fun _ _ _ h => h) (by kernel_rfl) (fun wT hST => sh_run_load1 hST rfl rfl 0 rfl rfl (by kernel_rfl)) hHeld ?_; (try simp only [Act.put, List.setIfInBounds_toArray, List.set_cons_zero, List.set_cons_succ])
  refine takeL 3 (v := ?_) rfl (by kernel_rfl) (by kernel_rfl) (by kernel_rfl) (fun _ _ _ h => h) (by kernel_rfl) ?_ (by assumption) ?_; rotate_left; (focus (intro w hSw; (try dsimp only at hSw); go_simp <;> with_reducible rfl)); (try simp only [Act.put, List.setIfInBounds_toArray, List.set_cons_zero, List.set_cons_succ])
  refine takeL 4 rfl (by kernel_rfl) (by kernel_rfl) (by kernel_rfl) (fun _ _ _ h => h) (by kernel_rfl) (fun wT hST => sh_run_load1 hST rfl rfl 0 rfl rfl (by kernel_rfl)) hHeld ?_; (try simp only [Act.put, List.setIfInBounds_toArray, List.set_cons_zero, List.set_cons_succ])
  clear hHeld
  refine oneL 2 rfl (by kernel_rfl) (by kernel_rfl) (fun K hK => ?_)
  go_simp; refine (rnum_any index _ HIx.out.1 HIx.out.2).mono ?_; rintro e w3 ⟨rfl, ew3⟩; have HH3 := Lib.hid ((HH0).out.later ew3); clear HH0 ew3; go_wp2_with fail
  refine hK.out _ _ ((HH3).out.only 0 rfl) (fun hHeld => ?_); clear hK K; (try simp only [Act.put, List.setIfInBounds_toArray, List.set_cons_zero, List.set_cons_succ]); clear hHeld
  refine oneL 5 rfl (by kernel_rfl) (by kernel_rfl) (fun K hK => ?_)
  go_simp; refine (rnum_any count _ HCo.out.1 HCo.out.2).mono ?_; rintro e w4 ⟨rfl, ew4⟩; have HH4 := Lib.hid ((HH3).out.later ew4); clear HH3 ew4; go_wp2_with fail
  refine hK.out _ _ ((HH4).out.only 0 rfl) (fun hHeld => ?_); clear hK K; (try simp only [Act.put, List.setIfInBounds_toArray, List.set_cons_zero, List.set_cons_succ]); clear hHeld
  refine oneL 6 rfl (by kernel_rfl) (by kernel_rfl) (fun K hK => ?_)
  go_simp; generalize hwA : World.alloc _ _ = wt; have HHt := Lib.hid ((HH4).out.allocRow hwA (n := 2) (size := 1) rfl (by simp [maxLen])); clear hwA HH4
  refine hK.out _ _ ((HHt).out.only 1 rfl) (fun hHeld => ?_); clear hK K; (try simp only [Act.put, List.setIfInBounds_toArray, List.set_cons_zero, List.set_cons_succ])
  refine takeL 7 (v := ?_) rfl (by kernel_rfl) (by kernel_rfl) (by kernel_rfl) (fun _ _ _ h => h) (by kernel_rfl) ?_ (by assumption) ?_; rotate_left; (focus (intro w hSw; (try dsimp only at hSw); go_simp <;> with_reducible rfl)); (try simp only [Act.put, List.setIfInBounds_toArray, List.set_cons_zero, List.set_cons_succ])
  refine wpAnyH_done (by kernel_rfl) ?_ _
  have HRow := Lib.hid (show wt.ownsRow w.heap.size 9 1 (.slice (some ⟨w4.heap.size, 0, none⟩) 2 2) 2 (tx.map Value.string) by rw [HT.out]; exact HHt.out.rowAt 0 rfl)
  have HHc := Lib.hid (HHt.out.pair 0 1 rfl rfl rfl)
  clear HHt
  have HNx := Lib.hid (show tx.length = 2 by rw [HT.out]; rfl)
  have hnb : (2) ≤ 1000000000 := by omega
  have HWr := Lib.hid (rwrite_any wt (some ⟨w4.heap.size, 0, none⟩) (2) (2) tx HNx.out.symm (by omega) ((Rd.of_own HRow.out).more (Nat.zero_le _) (Nat.le_refl _)))
  clear HRow
  go_wp2_with fail
  refine HWr.out.mono ?_
  rintro e w7 ⟨v7, rfl, hown7, e7⟩
  obtain ⟨A7, c7, rfl, _, _, _⟩ := own_form hown7
  have HH7 := Lib.hid (HHc.out.addRow e7 hown7)
  clear HHc hown7 e7 HWr hnb
  rw [HFit.out]
  have hlen : (wB tx).length ≤ 1000 := by have := HEl.out; rw [HB.out, List.length_append, List.length_append] at this; omega
  have HLt := Lib.hid (show B.length = 1 + 2 + (wB tx).length by rw [HB.out, List.length_append, List.length_append, puts_length]; rfl)
  generalize wB tx = bs at *
  obtain ⟨m, hm⟩ : ∃ m, m = bs.length := ⟨_, rfl⟩
  rw [← hm] at HH7 HB HLt hlen ⊢
  have HM := Lib.hid hm
  clear hm
  go_wp2_with fail
  have HL7 : Heap w [.box w.heap.size [.int .i64 3, .string name, .int .i64 frm, .int .i64 guid, .slice oA on oc, .int .i64 index, .int .i64 count, .string data, .int .u64 s0, .int .u64 s1, .int .u64 s2, .int .u64 s3]] w7.drew := (HH7.out.only 2 rfl).drew
  refine wp_region_held_drew (S := Heap w [.box w.heap.size [.int .i64 3, .string name, .int .i64 frm, .int .i64 guid, .slice oA on oc, .int .i64 index, .int .i64 count, .string data, .int .u64 s0, .int .u64 s1, .int .u64 s2, .int .u64 s3]]) (by kernel_rfl) HL7 (fun hHeld => ?_)
  have HH0 := Lib.hid HH7.out.drew
  clear HH7 HL7
  generalize hwd : World.drew w7 = we at *
  clear hwd
  refine takeL 0 (v := ?_) rfl (by kernel_rfl) (by kernel_rfl) (by kernel_rfl) (fun _ _ _ h => h) (by kernel_rfl) ?_ (by assumption) ?_; rotate_left; (focus (intro w hSw; (try dsimp only at hSw); go_simp <;> with_reducible rfl)); (try simp only [Act.put, List.setIfInBounds_toArray, List.set_cons_zero, List.set_cons_succ])
  refine takeL 1 rfl (by kernel_rfl) (by kernel_rfl) (by kernel_rfl) (fun _ _ _ h => h) (by kernel_rfl) (fun wT hST => sh_run_load1 hST rfl rfl 0 rfl rfl (by kernel_rfl)) hHeld ?_; (try simp only [Act.put, List.setIfInBounds_toArray, List.set_cons_zero, List.set_cons_succ])
  refine takeL 2 (v := ?_) rfl (by kernel_rfl) (by kernel_rfl) (by kernel_rfl) (fun _ _ _ h => h) (by kernel_rfl) ?_ (by assumption) ?_; rotate_left; (focus (intro w hSw; (try dsimp only at hSw); go_simp <;> with_reducible rfl)); (try simp only [Act.put, List.setIfInBounds_toArray, List.set_cons_zero, List.set_cons_succ])
  refine takeL 4 (v := ?_) rfl (by kernel_rfl) (by kernel_rfl) (by kernel_rfl) (fun _ _ _ h => h) (by kernel_rfl) ?_ (by assumption) ?_; rotate_left; (focus (intro w hSw; (try dsimp only at hSw); go_simp <;> with_reducible rfl)); (try simp only [Act.put, List.setIfInBounds_toArray, List.set_cons_zero, List.set_cons_succ])
  refine takeL 5 (v := ?_) rfl (by kernel_rfl) (by kernel_rfl) (by kernel_rfl) (fun _ _ _ h => h) (by kernel_rfl) ?_ (by assumption) ?_; rotate_left; (focus (intro w hSw; (try dsimp only at hSw); go_simp <;> with_reducible rfl)); (try simp only [Act.put, List.setIfInBounds_toArray, List.set_cons_zero, List.set_cons_succ])
  refine takeL 8 (v := ?_) rfl (by kernel_rfl) (by kernel_rfl) (by kernel_rfl) (fun _ _ _ h => h) (by kernel_rfl) ?_ (by assumption) ?_; rotate_left; (focus (intro w hSw; (try dsimp only at hSw); go_simp <;> with_reducible rfl)); (try simp only [Act.put, List.setIfInBounds_toArray, List.set_cons_zero, List.set_cons_succ])
  clear hHeld
  obtain ⟨i0, hi0, hz0, hz1, hz2⟩ := info_parts info5
  refine twoH 3 6 rfl rfl (by kernel_rfl) (by kernel_rfl) (by kernel_rfl) (fun K hK => ?_) (fun K hK => ?_)
  · go_simp; generalize hwA : World.alloc _ _ = w71; have HH71 := Lib.hid ((HH0).out.allocRow hwA (n := 1) (size := 1) rfl (by simp [maxLen])); clear hwA HH0
    refine hK.out _ _ ((HH71).out.only 3 rfl) (fun hHeld => ?_); clear hK K; (try simp only [Act.put, List.setIfInBounds_toArray, List.set_cons_zero, List.set_cons_succ]); clear hHeld
    refine oneL 6 rfl (by kernel_rfl) (by kernel_rfl) (fun K hK => ?_)
    go_simp; refine (rput_any (m : Int) _ 2 (by omega) rfl w71 (by omega) (by omega)).mono ?_; rintro e w8 ⟨vw8, rfl, hownw8, ew8⟩; obtain ⟨Aw8, cw8, rfl, _, _, _⟩ := own_form hownw8; have HH8 := Lib.hid ((HH71).out.addRow ew8 hownw8); clear HH71 hownw8 ew8; go_wp2_with fail
    refine hK.out _ _ ((HH8).out.only 4 rfl) (fun hHeld => ?_); clear hK K; (try simp only [Act.put, List.setIfInBounds_toArray, List.set_cons_zero, List.set_cons_succ]); clear hHeld
    refine oneL 7 rfl (by kernel_rfl) (by kernel_rfl) (fun K hK => ?_); refine sh_app (.tmp 60) (.tmp 63) _ rfl Tryz.underlying57 hj0 hy0 hy1 hy2 rfl (by omega) HH8.out 1 rfl rfl (m := 2) rfl (by rw [bytes_length, puts_length]) (Rd.of_own (HH8.out.rowAt 0 rfl)) (bytes_one _) (by simp only [maxLen]; omega) (by omega) ?_; rintro v9 w9 hh9 ⟨A9, c9, rfl⟩; have HH9 := Lib.hid hh9; clear hh9 HH8; refine hK.out _ _ ((HH9).out.only 4 rfl) (fun hHeld => ?_); clear hK K; (try simp only [Act.put, List.setIfInBounds_toArray, List.set_cons_zero, List.set_cons_succ]); clear hHeld; refine oneL 9 rfl (by kernel_rfl) (by kernel_rfl) (fun K hK => ?_); refine sh_app (.tmp 64) (.tmp 65) _ rfl Tryz.underlying57 hj0 hy0 hy1 hy2 rfl (by omega) HH9.out 1 rfl rfl (m := m) rfl (by rw [bytes_length, ← HM.out, Nat.mul_one]) (Rd.of_own (HH9.out.rowAt 2 rfl)) (bytes_one _) (by simp only [maxLen]; omega) (by omega) ?_; rintro v10 w10 hh10 ⟨A10, c10, rfl⟩; have HH10 := Lib.hid hh10; clear hh10 HH9; refine hK.out _ _ ((HH10).out.only 4 rfl) (fun hHeld => ?_); clear hK K; (try simp only [Act.put, List.setIfInBounds_toArray, List.set_cons_zero, List.set_cons_succ]); refine takeL 10 (v := ?_) rfl (by kernel_rfl) (by kernel_rfl) (by kernel_rfl) (fun _ _ _ h => h) (by kernel_rfl) ?_ (by assumption) ?_; rotate_left; (focus (intro w hSw; (try dsimp only at hSw); go_simp <;> with_reducible rfl)); (try simp only [Act.put, List.setIfInBounds_toArray, List.set_cons_zero, List.set_cons_succ]); refine takeL 11 (v := ?_) rfl (by kernel_rfl) (by kernel_rfl) (by kernel_rfl) (fun _ _ _ h => h) (by kernel_rfl) ?_ (by assumption) ?_; rotate_left; (focus (intro w hSw; (try dsimp only at hSw); go_simp <;> with_reducible rfl)); (try simp only [Act.put, List.setIfInBounds_toArray, List.set_cons_zero, List.set_cons_succ]); refine wpAnyH_done (by kernel_rfl) ?_ _; go_wp2_with fail; refine HOut.out _ _ ⟨_, rfl, ?_, HH10.out.ext⟩; have h9 := HH10.out.rowAt 1 rfl; rw [HLt.out, HB.out, bytes_append, bytes_append, HKO.out]; exact h9
  · go_simp; refine (rput_any (m : Int) _ 2 (by omega) rfl we (by omega) (by omega)).mono ?_; rintro e w71 ⟨vw71, rfl, hownw71, ew71⟩; obtain ⟨Aw71, cw71, rfl, _, _, _⟩ := own_form hownw71; have HH71 := Lib.hid ((HH0).out.addRow ew71 hownw71); clear HH0 hownw71 ew71; go_wp2_with fail
    refine hK.out _ _ ((HH71).out.only 3 rfl) (fun hHeld => ?_); clear hK K; (try simp only [Act.put, List.setIfInBounds_toArray, List.set_cons_zero, List.set_cons_succ]); clear hHeld
    refine oneL 3 rfl (by kernel_rfl) (by kernel_rfl) (fun K hK => ?_)
    go_simp; generalize hwA : World.alloc _ _ = w8; have HH8 := Lib.hid ((HH71).out.allocRow hwA (n := 1) (size := 1) rfl (by simp [maxLen])); clear hwA HH71
    refine hK.out _ _ ((HH8).out.only 4 rfl) (fun hHeld => ?_); clear hK K; (try simp only [Act.put, List.setIfInBounds_toArray, List.set_cons_zero, List.set_cons_succ]); clear hHeld
    refine oneL 7 rfl (by kernel_rfl) (by kernel_rfl) (fun K hK => ?_); refine sh_app (.tmp 60) (.tmp 63) _ rfl Tryz.underlying57 hj0 hy0 hy1 hy2 rfl (by omega) HH8.out 0 rfl rfl (m := 2) rfl (by rw [bytes_length, puts_length]) (Rd.of_own (HH8.out.rowAt 1 rfl)) (bytes_one _) (by simp only [maxLen]; omega) (by omega) ?_; rintro v9 w9 hh9 ⟨A9, c9, rfl⟩; have HH9 := Lib.hid hh9; clear hh9 HH8; refine hK.out _ _ ((HH9).out.only 4 rfl) (fun hHeld => ?_); clear hK K; (try simp only [Act.put, List.setIfInBounds_toArray, List.set_cons_zero, List.set_cons_succ]); clear hHeld; refine oneL 9 rfl (by kernel_rfl) (by kernel_rfl) (fun K hK => ?_); refine sh_app (.tmp 64) (.tmp 65) _ rfl Tryz.underlying57 hj0 hy0 hy1 hy2 rfl (by omega) HH9.out 0 rfl rfl (m := m) rfl (by rw [bytes_length, ← HM.out, Nat.mul_one]) (Rd.of_own (HH9.out.rowAt 2 rfl)) (bytes_one _) (by simp only [maxLen]; omega) (by omega) ?_; rintro v10 w10 hh10 ⟨A10, c10, rfl⟩; have HH10 := Lib.hid hh10; clear hh10 HH9; refine hK.out _ _ ((HH10).out.only 4 rfl) (fun hHeld => ?_); clear hK K; (try simp only [Act.put, List.setIfInBounds_toArray, List.set_cons_zero, List.set_cons_succ]); refine takeL 10 (v := ?_) rfl (by kernel_rfl) (by kernel_rfl) (by kernel_rfl) (fun _ _ _ h => h) (by kernel_rfl) ?_ (by assumption) ?_; rotate_left; (focus (intro w hSw; (try dsimp only at hSw); go_simp <;> with_reducible rfl)); (try simp only [Act.put, List.setIfInBounds_toArray, List.set_cons_zero, List.set_cons_succ]); refine takeL 11 (v := ?_) rfl (by kernel_rfl) (by kernel_rfl) (by kernel_rfl) (fun _ _ _ h => h) (by kernel_rfl) ?_ (by assumption) ?_; rotate_left; (focus (intro w hSw; (try dsimp only at hSw); go_simp <;> with_reducible rfl)); (try simp only [Act.put, List.setIfInBounds_toArray, List.set_cons_zero, List.set_cons_succ]); refine wpAnyH_done (by kernel_rfl) ?_ _; go_wp2_with fail; refine HOut.out _ _ ⟨_, rfl, ?_, HH10.out.ext⟩; have h9 := HH10.out.rowAt 0 rfl; rw [HLt.out, HB.out, bytes_append, bytes_append, HKO.out]; exact h9

set_option maxRecDepth 100000 in
set_option maxHeartbeats 8000000 in
theorem rencode4_any (w : World) (x : Rec) (hr : Rd w 0 w.heap.size x.oA (prps x.own)) (hx : x.wf) (hon : x.on ≤ 100000000) (hs : (sumR x).wf) (hE : recE x = 0) (hK : x.kind = 4) :
    Calls Tryz.prog 33 #[.agg x.cells.toArray] w (EncOk x w) := by
  have HCk := Lib.hid (fun W (hW : Ext w W) => rcheck_any W x (Rd.at hr hW (Nat.le_refl _)) hx)
  have HR := Lib.hid hr
  have HFr := Lib.hid hx.frm
  have HGu := Lib.hid hx.guid
  have HIx := Lib.hid hx.index
  have HCo := Lib.hid hx.count
  have HSu := Lib.hid hs
  have HOn := Lib.hid hx.own
  have HL := Lib.hid (ptext_length x.own)
  have HFit := Lib.hid (texts_fit x hE)
  have HSm := Lib.hid (texts_small x hE)
  have HEl := Lib.hid (encB_len x)
  have HB := Lib.hid (show encB x = [UInt8.ofNat x.kind.toNat] ++ puts (wB (recTexts x)).length 2 ++ wB (recTexts x) by rw [encB, if_pos hE])
  have HOut := Lib.hid (fun (e : Ending) (w' : World) (h : ∃ v, e = .returned (.tuple #[v, .int .i64 0]) ∧ w'.ownsRow w.heap.size 5 1 v (encB x).length (bytes (encB x)) ∧ Ext w w') => show EncOk x w e w' by
    obtain ⟨v, h1, h2⟩ := h
    exact ⟨v, by rw [hE]; exact h1, h2⟩)
  have HTx := Lib.hid (show recTexts x = recTexts x from rfl)
  unfold recTexts at HTx
  have HKO := Lib.hid (kindO x.kind (by omega))
  rw [hE] at HCk
  clear hr hx hs hE
  obtain ⟨B, hB⟩ : ∃ B, B = encB x := ⟨_, rfl⟩
  rw [← hB] at HEl HB HOut
  have HT := Lib.hid (show recTexts x = recTexts x from rfl)
  obtain ⟨tx, htx⟩ : ∃ tx, tx = recTexts x := ⟨_, rfl⟩
  rw [← htx] at HFit HSm HB
  obtain ⟨OUT, hOUT⟩ : ∃ OUT : Ending → World → Prop, OUT = EncOk x w := ⟨_, rfl⟩
  rw [← hOUT] at HOut ⊢
  clear hB hOUT HT HTx
  obtain ⟨kind, name, frm, guid, oA, on, oc, own, index, count, data, s0, s1, s2, s3⟩ := x
  simp only [Rec.cells] at HCk ⊢
  dsimp only at hK HB hon HR HFr HGu HIx HCo HOn HL HKO
  subst hK
  have HT := Lib.hid (show tx = [⟨(sumO (sumR ⟨4, name, frm, guid, oA, on, oc, own, index, count, data, s0, s1, s2, s3⟩)).toArray⟩] by rw [htx]; rfl)
  clear htx
  obtain ⟨i0, hi0, hz0, hz1, hz2⟩ := info_parts infoT
  obtain ⟨j0, hj0, hy0, hy1, hy2⟩ := info_parts info5
  have HN := Lib.hid (fun (W : World) (hW : Ext w W) => (rtext_any W oA on oc own HOn.out (by omega) (Rd.at HR.out hW (Nat.le_refl _))))
  go_enter Tryz.func33, Tryz.ntmps33
  go_upto_region 1 with fail
  generalize hwH : World.alloc w _ = w1; have HH := Lib.hid (Heap.one hwH); clear hwH
  go_wp2_with (refine shl_load HH.out sizeRec (by kernel_rfl) rfl rfl rfl 0 rfl rfl ?_)
  refine (HCk.out w1 HH.out.ext).mono ?_
  rintro e w2 ⟨rfl, e2⟩
  have HH2 := Lib.hid (HH.out.later e2)
  clear HH e2 HCk
  have HH := HH2
  clear HH2
  go_wp2_with (first | (refine shl_load HH.out sizeSu (by kernel_rfl) rfl rfl rfl 0 rfl rfl ?_) | (refine shl_load1 HH.out rfl rfl rfl 0 rfl rfl (by decide +kernel) ?_))
  have HC := Lib.hid (fun W => show Calls Tryz.prog 65 #[.agg #[.int .u64 s0, .int .u64 s1, .int .u64 s2, .int .u64 s3]] W fun e w' => ∃ v, e = .returned v ∧ w'.ownsRow W.heap.size 5 1 v 32 (bytes (sumO (sumR ⟨4, name, frm, guid, oA, on, oc, own, index, count, data, s0, s1, s2, s3⟩))) ∧ Ext W w' from sumoctets_any ⟨s0, s1, s2, s3⟩ W HSu.out)
  have HLO := Lib.hid (sumO_length (sumR ⟨4, name, frm, guid, oA, on, oc, own, index, count, data, s0, s1, s2, s3⟩))
  clear HSu
  generalize hO : sumO (sumR ⟨4, name, frm, guid, oA, on, oc, own, index, count, data, s0, s1, s2, s3⟩) = O at *
  clear hO
  refine (HC.out w2).mono ?_
  rintro e w3 ⟨v3, rfl, hown3, e3⟩
  obtain ⟨A3, c3, rfl, _, _, _⟩ := own_form hown3
  have hcv := run_conv_str (P := Tryz.prog) w3 57 9 5 Tryz.underlying57 Tryz.underlying5 Tryz.underlying9 _ _ A3 32 c3 O HLO.out.symm (Rd.of_own hown3)
  have HH3 := Lib.hid (HH.out.later e3)
  clear HH hown3 e3
  go_wp2_with fail
  generalize hwA : World.alloc _ _ = wt
  have HHt := Lib.hid (HH3.out.allocRow hwA (n := 1) (size := 1) rfl (by simp [maxLen]))
  clear hwA HH3 hcv
  have HRow := Lib.hid (show wt.ownsRow w.heap.size 9 1 (.slice (some ⟨w3.heap.size, 0, none⟩) 1 1) 1 (tx.map Value.string) by rw [HT.out]; exact HHt.out.rowAt 0 rfl)
  have HHc := Lib.hid (HHt.out.pair 0 1 rfl rfl rfl)
  clear HHt
  have HNx := Lib.hid (show tx.length = 1 by rw [HT.out]; rfl)
  have hnb : (1) ≤ 1000000000 := by omega
  have HWr := Lib.hid (rwrite_any wt (some ⟨w3.heap.size, 0, none⟩) (1) (1) tx HNx.out.symm (by omega) ((Rd.of_own HRow.out).more (Nat.zero_le _) (Nat.le_refl _)))
  clear HRow
  refine HWr.out.mono ?_
  rintro e w7 ⟨v7, rfl, hown7, e7⟩
  obtain ⟨A7, c7, rfl, _, _, _⟩ := own_form hown7
  have HH7 := Lib.hid (HHc.out.addRow e7 hown7)
  clear HHc hown7 e7 HWr hnb
  rw [HFit.out]
  have hlen : (wB tx).length ≤ 1000 := by have := HEl.out; rw [HB.out, List.length_append, List.length_append] at this; omega
  have HLt := Lib.hid (show B.length = 1 + 2 + (wB tx).length by rw [HB.out, List.length_append, List.length_append, puts_length]; rfl)
  generalize wB tx = bs at *
  obtain ⟨m, hm⟩ : ∃ m, m = bs.length := ⟨_, rfl⟩
  rw [← hm] at HH7 HB HLt hlen ⊢
  have HM := Lib.hid hm
  clear hm
  go_wp2_with fail
  have HL7 : Heap w [.box w.heap.size [.int .i64 4, .string name, .int .i64 frm, .int .i64 guid, .slice oA on oc, .int .i64 index, .int .i64 count, .string data, .int .u64 s0, .int .u64 s1, .int .u64 s2, .int .u64 s3]] w7.drew := (HH7.out.only 2 rfl).drew
  refine wp_region_held_drew (S := Heap w [.box w.heap.size [.int .i64 4, .string name, .int .i64 frm, .int .i64 guid, .slice oA on oc, .int .i64 index, .int .i64 count, .string data, .int .u64 s0, .int .u64 s1, .int .u64 s2, .int .u64 s3]]) (by kernel_rfl) HL7 (fun hHeld => ?_)
  have HH0 := Lib.hid HH7.out.drew
  clear HH7 HL7
  generalize hwd : World.drew w7 = we at *
  clear hwd
  refine takeL 0 (v := ?_) rfl (by kernel_rfl) (by kernel_rfl) (by kernel_rfl) (fun _ _ _ h => h) (by kernel_rfl) ?_ (by assumption) ?_; rotate_left; (focus (intro w hSw; (try dsimp only at hSw); go_simp <;> with_reducible rfl)); (try simp only [Act.put, List.setIfInBounds_toArray, List.set_cons_zero, List.set_cons_succ])
  refine takeL 1 rfl (by kernel_rfl) (by kernel_rfl) (by kernel_rfl) (fun _ _ _ h => h) (by kernel_rfl) (fun wT hST => sh_run_load1 hST rfl rfl 0 rfl rfl (by kernel_rfl)) hHeld ?_; (try simp only [Act.put, List.setIfInBounds_toArray, List.set_cons_zero, List.set_cons_succ])
  refine takeL 2 (v := ?_) rfl (by kernel_rfl) (by kernel_rfl) (by kernel_rfl) (fun _ _ _ h => h) (by kernel_rfl) ?_ (by assumption) ?_; rotate_left; (focus (intro w hSw; (try dsimp only at hSw); go_simp <;> with_reducible rfl)); (try simp only [Act.put, List.setIfInBounds_toArray, List.set_cons_zero, List.set_cons_succ])
  refine takeL 4 (v := ?_) rfl (by kernel_rfl) (by kernel_rfl) (by kernel_rfl) (fun _ _ _ h => h) (by kernel_rfl) ?_ (by assumption) ?_; rotate_left; (focus (intro w hSw; (try dsimp only at hSw); go_simp <;> with_reducible rfl)); (try simp only [Act.put, List.setIfInBounds_toArray, List.set_cons_zero, List.set_cons_succ])
  refine takeL 5 (v := ?_) rfl (by kernel_rfl) (by kernel_rfl) (by kernel_rfl) (fun _ _ _ h => h) (by kernel_rfl) ?_ (by assumption) ?_; rotate_left; (focus (intro w hSw; (try dsimp only at hSw); go_simp <;> with_reducible rfl)); (try simp only [Act.put, List.setIfInBounds_toArray, List.set_cons_zero, List.set_cons_succ])
  refine takeL 8 (v := ?_) rfl (by kernel_rfl) (by kernel_rfl) (by kernel_rfl) (fun _ _ _ h => h) (by kernel_rfl) ?_ (by assumption) ?_; rotate_left; (focus (intro w hSw; (try dsimp only at hSw); go_simp <;> with_reducible rfl)); (try simp only [Act.put, List.setIfInBounds_toArray, List.set_cons_zero, List.set_cons_succ])
  clear hHeld
  obtain ⟨i0, hi0, hz0, hz1, hz2⟩ := info_parts info5
  refine twoH 3 6 rfl rfl (by kernel_rfl) (by kernel_rfl) (by kernel_rfl) (fun K hK => ?_) (fun K hK => ?_)
  · go_simp; generalize hwA : World.alloc _ _ = w71; have HH71 := Lib.hid ((HH0).out.allocRow hwA (n := 1) (size := 1) rfl (by simp [maxLen])); clear hwA HH0
    refine hK.out _ _ ((HH71).out.only 3 rfl) (fun hHeld => ?_); clear hK K; (try simp only [Act.put, List.setIfInBounds_toArray, List.set_cons_zero, List.set_cons_succ]); clear hHeld
    refine oneL 6 rfl (by kernel_rfl) (by kernel_rfl) (fun K hK => ?_)
    go_simp; refine (rput_any (m : Int) _ 2 (by omega) rfl w71 (by omega) (by omega)).mono ?_; rintro e w8 ⟨vw8, rfl, hownw8, ew8⟩; obtain ⟨Aw8, cw8, rfl, _, _, _⟩ := own_form hownw8; have HH8 := Lib.hid ((HH71).out.addRow ew8 hownw8); clear HH71 hownw8 ew8; go_wp2_with fail
    refine hK.out _ _ ((HH8).out.only 4 rfl) (fun hHeld => ?_); clear hK K; (try simp only [Act.put, List.setIfInBounds_toArray, List.set_cons_zero, List.set_cons_succ]); clear hHeld
    refine oneL 7 rfl (by kernel_rfl) (by kernel_rfl) (fun K hK => ?_); refine sh_app (.tmp 60) (.tmp 63) _ rfl Tryz.underlying57 hj0 hy0 hy1 hy2 rfl (by omega) HH8.out 1 rfl rfl (m := 2) rfl (by rw [bytes_length, puts_length]) (Rd.of_own (HH8.out.rowAt 0 rfl)) (bytes_one _) (by simp only [maxLen]; omega) (by omega) ?_; rintro v9 w9 hh9 ⟨A9, c9, rfl⟩; have HH9 := Lib.hid hh9; clear hh9 HH8; refine hK.out _ _ ((HH9).out.only 4 rfl) (fun hHeld => ?_); clear hK K; (try simp only [Act.put, List.setIfInBounds_toArray, List.set_cons_zero, List.set_cons_succ]); clear hHeld; refine oneL 9 rfl (by kernel_rfl) (by kernel_rfl) (fun K hK => ?_); refine sh_app (.tmp 64) (.tmp 65) _ rfl Tryz.underlying57 hj0 hy0 hy1 hy2 rfl (by omega) HH9.out 1 rfl rfl (m := m) rfl (by rw [bytes_length, ← HM.out, Nat.mul_one]) (Rd.of_own (HH9.out.rowAt 2 rfl)) (bytes_one _) (by simp only [maxLen]; omega) (by omega) ?_; rintro v10 w10 hh10 ⟨A10, c10, rfl⟩; have HH10 := Lib.hid hh10; clear hh10 HH9; refine hK.out _ _ ((HH10).out.only 4 rfl) (fun hHeld => ?_); clear hK K; (try simp only [Act.put, List.setIfInBounds_toArray, List.set_cons_zero, List.set_cons_succ]); refine takeL 10 (v := ?_) rfl (by kernel_rfl) (by kernel_rfl) (by kernel_rfl) (fun _ _ _ h => h) (by kernel_rfl) ?_ (by assumption) ?_; rotate_left; (focus (intro w hSw; (try dsimp only at hSw); go_simp <;> with_reducible rfl)); (try simp only [Act.put, List.setIfInBounds_toArray, List.set_cons_zero, List.set_cons_succ]); refine takeL 11 (v := ?_) rfl (by kernel_rfl) (by kernel_rfl) (by kernel_rfl) (fun _ _ _ h => h) (by kernel_rfl) ?_ (by assumption) ?_; rotate_left; (focus (intro w hSw; (try dsimp only at hSw); go_simp <;> with_reducible rfl)); (try simp only [Act.put, List.setIfInBounds_toArray, List.set_cons_zero, List.set_cons_succ]); refine wpAnyH_done (by kernel_rfl) ?_ _; go_wp2_with fail; refine HOut.out _ _ ⟨_, rfl, ?_, HH10.out.ext⟩; have h9 := HH10.out.rowAt 1 rfl; rw [HLt.out, HB.out, bytes_append, bytes_append, HKO.out]; exact h9
  · go_simp; refine (rput_any (m : Int) _ 2 (by omega) rfl we (by omega) (by omega)).mono ?_; rintro e w71 ⟨vw71, rfl, hownw71, ew71⟩; obtain ⟨Aw71, cw71, rfl, _, _, _⟩ := own_form hownw71; have HH71 := Lib.hid ((HH0).out.addRow ew71 hownw71); clear HH0 hownw71 ew71; go_wp2_with fail
    refine hK.out _ _ ((HH71).out.only 3 rfl) (fun hHeld => ?_); clear hK K; (try simp only [Act.put, List.setIfInBounds_toArray, List.set_cons_zero, List.set_cons_succ]); clear hHeld
    refine oneL 3 rfl (by kernel_rfl) (by kernel_rfl) (fun K hK => ?_)
    go_simp; generalize hwA : World.alloc _ _ = w8; have HH8 := Lib.hid ((HH71).out.allocRow hwA (n := 1) (size := 1) rfl (by simp [maxLen])); clear hwA HH71
    refine hK.out _ _ ((HH8).out.only 4 rfl) (fun hHeld => ?_); clear hK K; (try simp only [Act.put, List.setIfInBounds_toArray, List.set_cons_zero, List.set_cons_succ]); clear hHeld
    refine oneL 7 rfl (by kernel_rfl) (by kernel_rfl) (fun K hK => ?_); refine sh_app (.tmp 60) (.tmp 63) _ rfl Tryz.underlying57 hj0 hy0 hy1 hy2 rfl (by omega) HH8.out 0 rfl rfl (m := 2) rfl (by rw [bytes_length, puts_length]) (Rd.of_own (HH8.out.rowAt 1 rfl)) (bytes_one _) (by simp only [maxLen]; omega) (by omega) ?_; rintro v9 w9 hh9 ⟨A9, c9, rfl⟩; have HH9 := Lib.hid hh9; clear hh9 HH8; refine hK.out _ _ ((HH9).out.only 4 rfl) (fun hHeld => ?_); clear hK K; (try simp only [Act.put, List.setIfInBounds_toArray, List.set_cons_zero, List.set_cons_succ]); clear hHeld; refine oneL 9 rfl (by kernel_rfl) (by kernel_rfl) (fun K hK => ?_); refine sh_app (.tmp 64) (.tmp 65) _ rfl Tryz.underlying57 hj0 hy0 hy1 hy2 rfl (by omega) HH9.out 0 rfl rfl (m := m) rfl (by rw [bytes_length, ← HM.out, Nat.mul_one]) (Rd.of_own (HH9.out.rowAt 2 rfl)) (bytes_one _) (by simp only [maxLen]; omega) (by omega) ?_; rintro v10 w10 hh10 ⟨A10, c10, rfl⟩; have HH10 := Lib.hid hh10; clear hh10 HH9; refine hK.out _ _ ((HH10).out.only 4 rfl) (fun hHeld => ?_); clear hK K; (try simp only [Act.put, List.setIfInBounds_toArray, List.set_cons_zero, List.set_cons_succ]); refine takeL 10 (v := ?_) rfl (by kernel_rfl) (by kernel_rfl) (by kernel_rfl) (fun _ _ _ h => h) (by kernel_rfl) ?_ (by assumption) ?_; rotate_left; (focus (intro w hSw; (try dsimp only at hSw); go_simp <;> with_reducible rfl)); (try simp only [Act.put, List.setIfInBounds_toArray, List.set_cons_zero, List.set_cons_succ]); refine takeL 11 (v := ?_) rfl (by kernel_rfl) (by kernel_rfl) (by kernel_rfl) (fun _ _ _ h => h) (by kernel_rfl) ?_ (by assumption) ?_; rotate_left; (focus (intro w hSw; (try dsimp only at hSw); go_simp <;> with_reducible rfl)); (try simp only [Act.put, List.setIfInBounds_toArray, List.set_cons_zero, List.set_cons_succ]); refine wpAnyH_done (by kernel_rfl) ?_ _; go_wp2_with fail; refine HOut.out _ _ ⟨_, rfl, ?_, HH10.out.ext⟩; have h9 := HH10.out.rowAt 0 rfl; rw [HLt.out, HB.out, bytes_append, bytes_append, HKO.out]; exact h9

set_option maxRecDepth 100000 in
set_option maxHeartbeats 8000000 in
theorem rencodeX_any (w : World) (x : Rec) (hr : Rd w 0 w.heap.size x.oA (prps x.own)) (hx : x.wf) (hE : recE x ≠ 0) :
    Calls Tryz.prog 33 #[.agg x.cells.toArray] w (EncOk x w) := by
  have HCk := Lib.hid (fun W (hW : Ext w W) => rcheck_any W x (Rd.at hr hW (Nat.le_refl _)) hx)
  have HOut := Lib.hid (fun (e : Ending) (w' : World) (h : e = .returned (.tuple #[.slice none 0 0, .int .i64 (recE x)]) ∧ Ext w w') => show EncOk x w e w' from
    ⟨_, h.1, by rw [encB, if_neg hE]; exact World.ownsRow_nil _ _ _ _, h.2⟩)
  have d1 : (recE x != 0) = true := by simpa using hE
  clear hr hx hE
  generalize recE x = E at *
  obtain ⟨OUT, hOUT⟩ : ∃ OUT : Ending → World → Prop, OUT = EncOk x w := ⟨_, rfl⟩
  rw [← hOUT] at HOut ⊢
  clear hOUT
  obtain ⟨kind, name, frm, guid, oA, on, oc, own, index, count, data, s0, s1, s2, s3⟩ := x
  simp only [Rec.cells] at HCk ⊢
  go_enter Tryz.func33, Tryz.ntmps33
  go_upto_region 1 with fail
  generalize hwH : World.alloc w _ = w1; have HH := Lib.hid (Heap.one hwH); clear hwH
  go_wp2_with (refine shl_load HH.out sizeRec (by kernel_rfl) rfl rfl rfl 0 rfl rfl ?_)
  refine (HCk.out w1 HH.out.ext).mono ?_
  rintro e w2 ⟨rfl, e2⟩
  go_wp2_with fail
  exact HOut.out _ _ ⟨rfl, HH.out.ext.trans e2⟩
theorem rencode_any (w : World) (x : Rec) (hr : Rd w 0 w.heap.size x.oA (prps x.own)) (hx : x.wf) (hon : x.on ≤ 100000000) (hs : (sumR x).wf) :
    Calls Tryz.prog 33 #[.agg x.cells.toArray] w (EncOk x w) := by
  by_cases hE : recE x = 0
  · obtain ⟨h1, h2⟩ := kind_bd x hE
    rcases (show x.kind = 1 ∨ x.kind = 2 ∨ x.kind = 3 ∨ x.kind = 4 by omega) with h | h | h | h
    · exact rencode1_any w x hr hx hon hs hE h
    · exact rencode2_any w x hr hx hon hs hE h
    · exact rencode3_any w x hr hx hon hs hE h
    · exact rencode4_any w x hr hx hon hs hE h
  · exact rencodeX_any w x hr hx hE
end Go.Proofs.YtmecjjmlccdppaaGreatDoor
