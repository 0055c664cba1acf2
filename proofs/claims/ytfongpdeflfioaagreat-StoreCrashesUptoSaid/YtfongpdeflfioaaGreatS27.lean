/- The texts Scr, Five in one file. -/
import Derived.Test.YtfongpdeflfioaaGreatS25
import Derived.Test.YtfongpdeflfioaaGreatS26
import Derived.Test.YtfongpdeflfioaaGreatS5
import Derived.Test.YtfongpdeflfioaaGreatS18
import Derived.Test.YtfongpdeflfioaaGreatS2
/- godownlaw10.StoreCrashes: the law's walk. -/
namespace Go.Proofs.YtfongpdeflfioaaGreat
open Go.RowKit Go.Maps Go.Sort Go.Shelf
set_option linter.unusedVariables false
set_option linter.unusedSimpArgs false
set_option maxRecDepth 100000 in
set_option maxHeartbeats 8000000 in
theorem scrashes_any (w : World) (n cut0 : Int) (a b : Sl Ob) (kA : Option Addr) (kn kc : Nat) (ks : List Bool) (hn : (Lit.int .i64 n).wf = true) (hc : (Lit.int .i64 cut0).wf = true) (ha : Sl.At w 0 w.heap.size Ob.cells (Ob.At w 0 w.heap.size) a) (hb : Sl.At w 0 w.heap.size Ob.cells (Ob.At w 0 w.heap.size) b) (hk : Ks w kA kn kc ks) :
    Calls Tryz.prog 4 #[.int .i64 n, a.val, b.val, .int .i64 cut0, .slice kA kn kc] w fun e w' => e = .returned (.bool true) ∧ Ext w w' := by
  have HGa := Lib.hid (fun W (hW : Ext w W) => good_any W a (Sl.At.imp ha (rd_on hW (Nat.le_refl _) _ _) (fun x hx => Ob.At.on hx hW (Nat.le_refl _))))
  have HGb := Lib.hid (fun W (hW : Ext w W) => good_any W b (Sl.At.imp hb (rd_on hW (Nat.le_refl _) _ _) (fun x hx => Ob.At.on hx hW (Nat.le_refl _))))
  have HSz := Lib.hid (fun W => size_any W n hn)
  have HKs := Lib.hid (fun W (hW : Ext w W) => show Ks W kA kn kc ks from ⟨hk.len, hk.le, Rd.at hk.rd hW (Nat.le_refl _)⟩)
  have hcb : -9223372036854775808 ≤ cut0 ∧ cut0 ≤ 9223372036854775807 := by
    simp only [Lit.wf, Bool.and_eq_true, decide_eq_true_eq] at hc
    exact hc
  clear ha hb hk hn hc
  obtain ⟨aA, an, ac, ax⟩ := a
  obtain ⟨bA, bn, bc, bx⟩ := b
  simp only [Sl.val] at *
  go_enter Tryz.func4, Tryz.ntmps4
  have HH := Lib.hid (Heap.start w)
  go_upto_region 3 with (go_at_call 16; (with_reducible refine (alive10_any _).mono ?_); rintro e wC ⟨rfl, eC⟩; have HHn := Lib.hid (HH.out.later eC); clear HH eC; have HH := HHn; clear HHn)
  go_wp2_with fail
  refine (HSz.out _).mono ?_
  rintro e w1 ⟨k, rfl, k1, k2, rfl⟩
  go_wp2_with fail
  refine (first_yes w1 k (by omega) (by omega)).mono ?_
  rintro e w2 ⟨s, rfl, habs, hho, hw0, hS, e2⟩
  have HH2 := Lib.hid (HH.out.addLook e2 (J := fun W => Sto.At W w1.heap.size w2.heap.size s) (fun _ _ hr hh => hh.imp hr) (Nat.le_refl _) (Nat.le_refl _) hS)
  have HSf := Lib.hid (⟨hho, hw0, by have := congrArg Abs.u habs; show s.ub.txg = 2; rw [show s.ub = _ from this]; rfl⟩ : s.abs.holds ∧ s.dev.waits.n = 0 ∧ s.ub.txg = 2)
  clear HH habs hho hw0 hS e2 HSz k1 k2
  have HH := HH2
  clear HH2
  have HCm := Lib.hid (fun (W : World) (its : List It) (i : Nat) (hH : Heap w its W) (hi : its[i]? = some (It.look (fun W => Sto.At W w1.heap.size w2.heap.size s) w1.heap.size w2.heap.size (fun _ _ hr hh => hh.imp hr))) (g : Sl Ob) (hg : Gd 400 g.xs) (hl : Sl.At W 0 W.heap.size Ob.cells (Ob.At W 0 W.heap.size) g) =>
    commit_good W s ((hH.lookAt i hi).2.imp fun _ _ hr => hr.more (Nat.zero_le _) (hH.lookAt i hi).1) HSf.out.1 HSf.out.2.1 (by rw [HSf.out.2.2]; decide) g hg hl)
  go_upto_region 4 with (first | (refine shl_store (HH.out.alloc _ _) sizeSto rfl rfl rfl rfl 0 rfl rfl rfl rfl ?_; clear HH; intro wS HHS; have HH := Lib.hid HHS; clear HHS))
  go_wp2_with fail
  refine (HGa.out _ HH.out.ext).mono ?_
  rintro e w4 ⟨ga, rfl, hga, gaat, e4⟩
  have HH2 := Lib.hid (HH.out.later e4)
  clear HH HGa e4
  have HH := HH2
  clear HH2
  simp only [Sl.val]
  go_wp2_with fail
  refine (HGb.out _ HH.out.ext).mono ?_
  rintro e w5 ⟨gb, rfl, hgb, gbat, e5⟩
  have HH2 := Lib.hid (HH.out.later e5)
  have HGA := Lib.hid (fun W (hW : Ext w5 W) => show Sl.At W 0 W.heap.size Ob.cells (Ob.At W 0 W.heap.size) ga from Sl.At.imp gaat (rd_on (e5.trans hW) (Nat.le_refl _) _ _) (fun x hx => Ob.At.on hx (e5.trans hW) (Nat.le_refl _)))
  have HGB := Lib.hid (fun W (hW : Ext w5 W) => show Sl.At W 0 W.heap.size Ob.cells (Ob.At W 0 W.heap.size) gb from Sl.At.imp gbat (rd_on hW (Nat.le_refl _) _ _) (fun x hx => Ob.At.on hx hW (Nat.le_refl _)))
  have HGg := Lib.hid (⟨hga, hgb⟩ : Gd 400 ga.xs ∧ Gd 400 gb.xs)
  clear HH HGb e5 gaat gbat hga hgb
  have HH := HH2
  clear HH2
  simp only [Sl.val]
  go_upto_region 5 with fail
  go_wp2_with (refine shl_load HH.out sizeSto (by kernel_rfl) rfl rfl rfl 0 rfl rfl ?_)
  refine (HCm.out _ _ 1 HH.out rfl ga HGg.out.1 (HGA.out _ (Ext.refl _))).mono ?_
  have HEw := Lib.hid HH.out.ext
  clear HCm
  rintro e w6 (⟨rfl, e6⟩ | ⟨t, acts, A, c, WW, rfl, _, _, _, hlaw, htA, e6⟩)
  · have HH2 := Lib.hid (HH.out.later e6)
    clear HH e6
    have HH := HH2
    clear HH2
    go_wp2_with (first | (refine shl_store (HH.out.alloc _ _) sizeSto rfl rfl rfl rfl 0 rfl rfl rfl rfl ?_; clear HH; intro wS HHS; have HH := Lib.hid HHS; clear HHS) | (go_at_call 21; (refine (num10_any _ _).mono ?_); rintro e wN ⟨rfl, rfl⟩))
    go_ret
    exact ⟨rfl, HH.out.ext⟩
  · have HH2 := Lib.hid ((Heap.start w5).addLook e6 (J := fun W => Sto.At W w5.heap.size w6.heap.size t) (fun _ _ hr hh => hh.imp hr) (Nat.le_refl _) (Nat.le_refl _) htA)
    have HTl := Lib.hid (⟨hlaw.holds, hlaw.wait, by rw [hlaw.txg, HSf.out.2.2]; decide, hlaw.kd⟩ : t.abs.holds ∧ t.dev.waits.n = 0 ∧ t.ub.txg < 1099511627776 ∧ t.abs.O.map (fun o => (o.1, o.2.1)) = ga.xs.map fun x => (x.key, x.data.xs))
    clear HH hlaw htA e6 HSf
    have HH := HH2
    clear HH2
    simp only [Sto.cells, Dev.cells, Sl.val]
    go_upto_region 6 with (refine shl_store (HH.out.alloc _ _) sizeSto rfl rfl rfl rfl 0 rfl rfl rfl rfl ?_; clear HH; intro wS HHS; have HH := Lib.hid HHS; clear HHS)
    obtain ⟨tb, htb⟩ : ∃ b, b = w6.heap.size := ⟨_, rfl⟩
    rw [← htb] at HH ⊢
    have HTb := Lib.hid htb
    clear htb
    go_upto_region 8 with (go_at_call 21; (refine (num10_any _ _).mono ?_); rintro e wN ⟨rfl, rfl⟩)
    go_wp2_with (refine shl_load HH.out sizeSto (by kernel_rfl) rfl rfl rfl 0 rfl rfl ?_)
    have HT := Lib.hid (show Sto.At wN 0 wN.heap.size t from (HH.out.lookAt 1 rfl).2.imp fun _ _ hr => hr.more (Nat.zero_le _) (HH.out.lookAt 1 rfl).1)
    refine (commit_good wN t HT.out HTl.out.1 HTl.out.2.1 HTl.out.2.2.1 gb HGg.out.2 (HGB.out _ HH.out.ext)).mono ?_
    have HEw2 := Lib.hid (HEw.out.trans HH.out.ext)
    have HEn := Lib.hid HH.out.ext
    rintro e w8 (⟨rfl, e8⟩ | ⟨u, acts2, A2, c2, W2, rfl, hm1, hm2, hac, hlaw, huA, e8⟩)
    · have HH2 := Lib.hid (HH.out.later e8)
      clear HH e8
      have HH := HH2
      clear HH2
      go_wp2_with (first | (refine shl_store (HH.out.alloc _ _) sizeSto rfl rfl rfl rfl 0 rfl rfl rfl rfl ?_; clear HH; intro wS HHS; have HH := Lib.hid HHS; clear HHS) | (go_at_call 21; (refine (num10_any _ _).mono ?_); rintro e wN ⟨rfl, rfl⟩))
      go_ret
      exact ⟨rfl, HEw.out.trans HH.out.ext⟩
    · have HT8 := Lib.hid (fun (W : World) (hW : Ext w8 W) => show Sto.At W 0 W.heap.size t from HT.out.on (e8.trans hW) (Nat.le_refl _))
      have HU8 := Lib.hid (fun (W : World) (hW : Ext w8 W) => show Sto.At W 0 W.heap.size u from (huA.on hW (Nat.le_refl _)).imp fun _ _ hr => hr.m0)
      have hbx := HH.out.boxAt 0 rfl
      have hx0 := hbx.cell 0 _ rfl
      have hx1 := hbx.cell 1 _ rfl
      have hx2 := hbx.cell 2 _ rfl
      have hx3 := hbx.cell 3 _ rfl
      have hx4 := hbx.cell 4 _ rfl
      have HTB := Lib.hid (fun (W : World) (hW : Ext w8 W) => show W.cell? ⟨tb, 0, none⟩ = some (.slice t.dev.secs.A t.dev.secs.n t.dev.secs.c) ∧ W.cell? ⟨tb, 1, none⟩ = some (.slice t.dev.waits.A t.dev.waits.n t.dev.waits.c) ∧ W.cell? ⟨tb, 2, none⟩ = some (.int .i64 t.ub.txg) ∧ W.cell? ⟨tb, 3, none⟩ = some (.int .i64 t.ub.first) ∧ W.cell? ⟨tb, 4, none⟩ = some (.int .i64 t.ub.objs) from
        ⟨(Below.cell (e8.trans hW) hbx.lt).trans hx0, (Below.cell (e8.trans hW) hbx.lt).trans hx1, (Below.cell (e8.trans hW) hbx.lt).trans hx2, (Below.cell (e8.trans hW) hbx.lt).trans hx3, (Below.cell (e8.trans hW) hbx.lt).trans hx4⟩)
      have HEw3 := Lib.hid (HEw2.out.trans e8)
      have HAc := Lib.hid (fun (W : World) (hW : Ext w8 W) => show Acs W A2 acts2.length c2 acts2 from hac.on hW)
      have HLw := Lib.hid hlaw
      have hlen : acts2.length = W2.length + 3 := by
        have := congrArg List.length hlaw.acts
        simpa using this
      have hfew := hlaw.few
      have hm8 : acts2.length ≤ 8193 := by omega
      have hm3 : 3 ≤ acts2.length := by omega
      clear HH hbx hx0 hx1 hx2 hx3 hx4 hac hlaw huA HT HTb hlen hfew HEw
      have HGA8 := Lib.hid (fun W (hW : Ext w8 W) => HGA.out W ((HEn.out.trans e8).trans hW))
      have HGB8 := Lib.hid (fun W (hW : Ext w8 W) => HGB.out W ((HEn.out.trans e8).trans hW))
      clear HGA HGB HEn HEw2 e8
      have HH := Lib.hid (Heap.start w8)
      simp only [Sto.cells, Dev.cells, Sl.val]
      have t1 := Int.tmod_lt_of_pos cut0 (show (0 : Int) < (acts2.length : Int) + 1 by omega)
      have t2 := Int.lt_tmod_of_pos cut0 (show (0 : Int) < (acts2.length : Int) + 1 by omega)
      obtain ⟨m, hm⟩ : ∃ m, m = acts2.length := ⟨_, rfl⟩
      rw [← hm] at t1 t2 hm8 hm3 hm1 ⊢
      have HM := Lib.hid hm
      clear hm
      go_upto_region 12 with (first | (refine shl_store (HH.out.alloc _ _) sizeSto rfl rfl rfl rfl 0 rfl rfl rfl rfl ?_; clear HH; intro wS HHS; have HH := Lib.hid HHS; clear HHS) | (go_at_call 21; (refine (num10_any _ _).mono ?_); rintro e wN ⟨rfl, rfl⟩))
      obtain ⟨cq, hcq, hcm⟩ : ∃ cq : Nat, (cut0.tmod ((m : Int) + 1) + (m : Int) + 1) % ((m : Int) + 1) = (cq : Int) ∧ cq ≤ m := by
        have q1 := Int.emod_nonneg (cut0.tmod ((m : Int) + 1) + (m : Int) + 1) (show ((m : Int) + 1) ≠ 0 by omega)
        have q2 := Int.emod_lt_of_pos (cut0.tmod ((m : Int) + 1) + (m : Int) + 1) (show (0 : Int) < (m : Int) + 1 by omega)
        exact ⟨((cut0.tmod ((m : Int) + 1) + (m : Int) + 1) % ((m : Int) + 1)).toNat, by omega, by omega⟩
      rw [hcq]
      clear hcq t1 t2 hcb
      obtain ⟨ub, hub⟩ : ∃ b, b = w8.heap.size := ⟨_, rfl⟩
      rw [← hub] at HH ⊢
      clear hub
      have HH2 := Lib.hid (show Heap w8 [.box ub [.slice u.dev.secs.A u.dev.secs.n u.dev.secs.c, .slice u.dev.waits.A u.dev.waits.n u.dev.waits.c, .int .i64 u.ub.txg, .int .i64 u.ub.first, .int .i64 u.ub.objs, .slice u.objs.A u.objs.n u.objs.c, .slice u.idx.A u.idx.n u.idx.c]] wN from HH.out)
      clear HH
      have HH := HH2
      clear HH2
      have HCd := Lib.hid (fun (W : World) (hW : Ext w8 W) => show Calls Tryz.prog 22 #[.agg #[.slice t.dev.secs.A t.dev.secs.n t.dev.secs.c, .slice t.dev.waits.A t.dev.waits.n t.dev.waits.c], .slice A2 cq c2] W (fun e w' => ∃ d : Dev, e = .returned (.tuple #[.agg d.cells.toArray, .int .i64 0]) ∧ chkE d = 0 ∧ d.waits.n ≤ 100000 ∧
          (∀ kp, (cq < acts2.length ∧ (⟨setV kp d.wv d.secv d.waits.n, t.abs.u, t.abs.O, t.abs.X⟩ : Abs).holds) ∨ (acts2.length ≤ cq + 1 ∧ setV kp d.wv d.secv d.waits.n = u.abs.S)) ∧ Dev.At w' W.heap.size w'.heap.size d ∧ Ext W w') from
        cut_do (w0 := w8) HLw.out HTl.out.1 HTl.out.2.1 (HT8.out W hW) (HAc.out W hW) (by rw [← HM.out]; omega) cq (by rw [← HM.out]; exact hcm))
      have HS2 := Lib.hid (fun (W : World) (hW : Ext w8 W) => show W.cell? ⟨tb, 0, none⟩ = some (.slice t.dev.secs.A t.dev.secs.n t.dev.secs.c) ∧ W.cell? ⟨tb, 1, none⟩ = some (.slice t.dev.waits.A t.dev.waits.n t.dev.waits.c) from ⟨(HTB.out W hW).1, (HTB.out W hW).2.1⟩)
      obtain ⟨i0, hi0, hz0, hz1, hz2⟩ := info_parts infoAct
      have hsl := fun W => run_sl_uptoN (P := Tryz.prog) W 50 106 i0 Tryz.underlying50 hi0 A2 m c2 cq (cq : Int) rfl (by omega)
      go_cut [19, 20] from 84 to 92 (fun v19 v20 wx => ∃ (db : Nat) (d : Dev) (lo hi : Nat), v19 = .pointer (some ⟨db, 0, none⟩) ∧ v20 = .int .i64 0 ∧ Hid (w8.heap.size ≤ lo) ∧ Hid (chkE d = 0 ∧ d.waits.n ≤ 100000 ∧
          ∀ kp, (cq < acts2.length ∧ (⟨setV kp d.wv d.secv d.waits.n, t.abs.u, t.abs.O, t.abs.X⟩ : Abs).holds) ∨ (acts2.length ≤ cq + 1 ∧ setV kp d.wv d.secv d.waits.n = u.abs.S)) ∧
          Hid (Heap w8 [.box db [.slice d.secs.A d.secs.n d.secs.c, .slice d.waits.A d.waits.n d.waits.c], It.look (fun W => Dev.At W lo hi d) lo hi (fun _ _ hr hh => hh.imp hr), .box ub [.slice u.dev.secs.A u.dev.secs.n u.dev.secs.c, .slice u.dev.waits.A u.dev.waits.n u.dev.waits.c, .int .i64 u.ub.txg, .int .i64 u.ub.first, .int .i64 u.ub.objs, .slice u.objs.A u.objs.n u.objs.c, .slice u.idx.A u.idx.n u.idx.c]] wx))
      case first =>
        refine wp_noP ?_
        have HHd := Lib.hid HH.out.drew
        clear HH
        refine wp_region_held_drew (S := fun W => W.cell? ⟨tb, 0, none⟩ = some (.slice t.dev.secs.A t.dev.secs.n t.dev.secs.c) ∧ W.cell? ⟨tb, 1, none⟩ = some (.slice t.dev.waits.A t.dev.waits.n t.dev.waits.c)) (by kernel_rfl) (HS2.out _ HHd.out.ext) (fun hHeld => ?_)
        generalize World.drew _ = wd at *
        refine tS 0 ?_; (try simp only [Act.put, lyA, lyB, lyC])
        refine tS 1 ?_; (try simp only [Act.put, lyA, lyB, lyC])
        refine tS 2 ?_; (try simp only [Act.put, lyA, lyB, lyC])
        refine tS 3 ?_; (try simp only [Act.put, lyA, lyB, lyC])
        refine tS 4 ?_; (try simp only [Act.put, lyA, lyB, lyC])
        clear hHeld hsl hz0 hz1 hz2 hi0
        refine twoH 5 9 rfl rfl (by kernel_rfl) (by kernel_rfl) (by kernel_rfl) (fun K hK => ?_) (fun K hK => ?_)
        · go_simp
          refine (HCd.out wd HHd.out.ext).mono ?_
          rintro e w2' ⟨d, rfl, hck, hwn, hout, hd, e2⟩
          have HH2 := Lib.hid (HHd.out.addLook e2 (J := fun W => Dev.At W wd.heap.size w2'.heap.size d) (fun _ _ hr hh => hh.imp hr) (Nat.le_refl _) (Nat.le_refl _) hd)
          have HD := Lib.hid (show chkE d = 0 ∧ d.waits.n ≤ 100000 ∧ ∀ kp, (cq < acts2.length ∧ (⟨setV kp d.wv d.secv d.waits.n, t.abs.u, t.abs.O, t.abs.X⟩ : Abs).holds) ∨ (acts2.length ≤ cq + 1 ∧ setV kp d.wv d.secv d.waits.n = u.abs.S) from ⟨hck, hwn, hout⟩)
          have HLo := Lib.hid HHd.out.ext.size
          clear HHd hck hwn hout hd e2
          simp only [Dev.cells, Sl.val]
          go_wp2_with fail
          refine hK.out _ _ (HS2.out _ HH2.out.ext) (fun hHeld => ?_)
          clear hK K
          (try simp only [Act.put, lyA, lyB, lyC])
          refine tS 6 ?_; (try simp only [Act.put, lyA, lyB, lyC])
          refine tS 7 ?_; (try simp only [Act.put, lyA, lyB, lyC])
          refine tS 8 ?_; (try simp only [Act.put, lyA, lyB, lyC])
          clear hHeld
          refine oS 9 (fun K hK => ?_)
          go_simp
          generalize hwA : World.alloc _ _ = w3
          have HH3 := Lib.hid (HH2.out.allocE hwA)
          clear hwA HH2
          refine hK.out _ _ (HS2.out _ HH3.out.ext) (fun hHeld => ?_)
          clear hK K hHeld
          (try simp only [Act.put, lyA, lyB, lyC])
          refine oS 10 (fun K hK => ?_); refine sh_store HH3.out sizeDev rfl rfl rfl 0 rfl rfl (Nat.le_of_ble_eq_true rfl) rfl ?_; intro w5 hh5; have HH5 := Lib.hid hh5; clear hh5 HH3; refine hK.out _ _ (HS2.out _ HH5.out.ext) (fun hHeld => ?_); clear hK K; (try simp only [Act.put, lyA, lyB, lyC]); refine tS 11 ?_; (try simp only [Act.put, lyA, lyB, lyC]); refine wpAnyH_done (by kernel_rfl) ?_ _; simp only [noP]; clear hHeld; go_wp2_with fail; go_meet
          exact ⟨_, d, _, _, rfl, rfl, HLo, HD, HH5⟩
        · go_simp
          generalize hwA : World.alloc _ _ = w3
          have HH2 := Lib.hid (HHd.out.allocE hwA)
          clear hwA HHd
          refine hK.out _ _ (HS2.out _ HH2.out.ext) (fun hHeld => ?_)
          clear hK K hHeld
          (try simp only [Act.put, lyA, lyB, lyC])
          refine oS 5 (fun K hK => ?_)
          go_simp
          refine (HCd.out w3 HH2.out.ext).mono ?_
          rintro e w2' ⟨d, rfl, hck, hwn, hout, hd, e2⟩
          have HH3 := Lib.hid (HH2.out.addLook e2 (J := fun W => Dev.At W w3.heap.size w2'.heap.size d) (fun _ _ hr hh => hh.imp hr) (Nat.le_refl _) (Nat.le_refl _) hd)
          have HD := Lib.hid (show chkE d = 0 ∧ d.waits.n ≤ 100000 ∧ ∀ kp, (cq < acts2.length ∧ (⟨setV kp d.wv d.secv d.waits.n, t.abs.u, t.abs.O, t.abs.X⟩ : Abs).holds) ∨ (acts2.length ≤ cq + 1 ∧ setV kp d.wv d.secv d.waits.n = u.abs.S) from ⟨hck, hwn, hout⟩)
          have HLo := Lib.hid HH2.out.ext.size
          clear HH2 hck hwn hout hd e2
          simp only [Dev.cells, Sl.val]
          go_wp2_with fail
          refine hK.out _ _ (HS2.out _ HH3.out.ext) (fun hHeld => ?_)
          clear hK K
          (try simp only [Act.put, lyA, lyB, lyC])
          refine tS 6 ?_; (try simp only [Act.put, lyA, lyB, lyC])
          refine tS 7 ?_; (try simp only [Act.put, lyA, lyB, lyC])
          refine tS 8 ?_; (try simp only [Act.put, lyA, lyB, lyC])
          clear hHeld
          refine oS 10 (fun K hK => ?_); refine sh_store HH3.out sizeDev rfl rfl rfl 1 rfl rfl (Nat.le_of_ble_eq_true rfl) rfl ?_; intro w5 hh5; have HH5 := Lib.hid hh5; clear hh5 HH3; refine hK.out _ _ (HS2.out _ HH5.out.ext) (fun hHeld => ?_); clear hK K; (try simp only [Act.put, lyA, lyB, lyC]); refine tS 11 ?_; (try simp only [Act.put, lyA, lyB, lyC]); refine wpAnyH_done (by kernel_rfl) ?_ _; simp only [noP]; clear hHeld; go_wp2_with fail; go_meet
          exact ⟨_, d, _, _, rfl, rfl, HLo, HD, Lib.hid (HH5.out.pick [1, 0, 2] (by decide) rfl rfl)⟩
      case rest =>
        clear HH HCd hsl hz0 hz1 hz2 hi0 HAc
        obtain ⟨db, d, lo, hi, rfl, rfl, HLo, HD, HH⟩ := hcut
        have HCr := Lib.hid (fun (W : World) (its : List It) (i : Nat) (hH : Heap w8 its W) (hi' : its[i]? = some (It.look (fun W => Dev.At W lo hi d) lo hi (fun _ _ hr hh => hh.imp hr))) (hKs : Ks W kA kn kc ks) =>
          crash_yes d W ((hH.lookAt i hi').2.imp fun _ _ hr => hr.more (Nat.zero_le _) (hH.lookAt i hi').1) HD.out.1 (by have := HD.out.2.1; omega) kA kn kc ks hKs)
        go_upto_region 13 with fail
        go_wp2_with (refine shl_load HH.out sizeDev (by kernel_rfl) rfl rfl rfl 0 rfl rfl ?_)
        refine (HCr.out _ _ 1 HH.out rfl (HKs.out _ (HEw3.out.trans HH.out.ext))).mono ?_
        rintro e w10 ⟨⟨d2, rfl, hv2, hq2, hn2, hd2⟩, e10⟩
        have HH2 := Lib.hid (HH.out.addLook e10 (J := fun W => Dev.At W wc.heap.size w10.heap.size d2) (fun _ _ hr hh => hh.imp hr) (Nat.le_refl _) (Nat.le_refl _) hd2)
        have HD2 := Lib.hid (show (cq < acts2.length ∧ (⟨d2.secv, t.abs.u, t.abs.O, t.abs.X⟩ : Abs).holds) ∨ (acts2.length ≤ cq + 1 ∧ d2.secv = u.abs.S) by rw [hv2]; exact HD.out.2.2 _)
        have HW2 := Lib.hid (show d2.waits.n = 0 by rw [hq2])
        clear HH HCr hv2 hq2 hn2 hd2 e10 HD HLo
        have HH := HH2
        clear HH2
        simp only [Dev.cells, Sl.val]
        go_upto_region 14 with (refine shl_store HH.out sizeDev rfl rfl rfl rfl 1 rfl rfl rfl rfl ?_; clear HH; intro wS HHS; have HH := Lib.hid HHS; clear HHS)
        have HH2 := Lib.hid (show Heap w8 (It.look (fun W => Dev.At W wc.heap.size w10.heap.size d2) wc.heap.size w10.heap.size (fun _ _ hr hh => hh.imp hr) :: .box db [.slice d2.secs.A d2.secs.n d2.secs.c, .slice d2.waits.A d2.waits.n d2.waits.c] :: _ :: .box ub [.slice u.dev.secs.A u.dev.secs.n u.dev.secs.c, .slice u.dev.waits.A u.dev.waits.n u.dev.waits.c, .int .i64 u.ub.txg, .int .i64 u.ub.first, .int .i64 u.ub.objs, .slice u.objs.A u.objs.n u.objs.c, .slice u.idx.A u.idx.n u.idx.c] :: []) wS from HH.out)
        clear HH
        have HH := HH2
        clear HH2
        have HOp := Lib.hid (fun (W : World) (its : List It) (i : Nat) (hH : Heap w8 its W) (hi' : its[i]? = some (It.look (fun W => Dev.At W wc.heap.size w10.heap.size d2) wc.heap.size w10.heap.size (fun _ _ hr hh => hh.imp hr))) =>
          show Calls Tryz.prog 24 #[.agg d2.cells.toArray] W fun e w' => ∃ o : Sto, e = .returned (.tuple #[.agg o.cells.toArray, .int .i64 0]) ∧ ((cq < acts2.length ∧ o.ub = t.ub ∧ o.objs.xs.map kdO = ga.xs.map kdO) ∨ (acts2.length ≤ cq + 1 ∧ o.ub = u.ub ∧ o.objs.xs.map kdO = gb.xs.map kdO)) ∧ Sto.At w' W.heap.size w'.heap.size o ∧ Ext W w' from by
            have hD : Dev.At W 0 W.heap.size d2 := (hH.lookAt i hi').2.imp fun _ _ hr => hr.more (Nat.zero_le _) (hH.lookAt i hi').1
            have hkd : ∀ (o : Sto) (O : List ObS), o.abs.O = O → o.objs.xs.map kdO = O.map fun o => (o.1, o.2.1) := fun o O h => by
              rw [← h]
              show _ = (o.objs.xs.map strip).map _
              rw [List.map_map]; rfl
            rcases HD2.out with ⟨h1, h2⟩ | ⟨h1, h2⟩
            · refine (open_ok W d2 hD HW2.out _ rfl h2).mono ?_
              rintro e w' ⟨o, rfl, ho, _, hoA, ee⟩
              exact ⟨o, rfl, .inl ⟨h1, congrArg Abs.u ho, (hkd o _ (congrArg Abs.O ho)).trans HTl.out.2.2.2⟩, hoA, ee⟩
            · refine (open_ok W d2 hD HW2.out u.abs h2 HLw.out.holds).mono ?_
              rintro e w' ⟨o, rfl, ho, _, hoA, ee⟩
              exact ⟨o, rfl, .inr ⟨h1, congrArg Abs.u ho, (hkd o _ (congrArg Abs.O ho)).trans HLw.out.kd⟩, hoA, ee⟩)
        clear HD2 HW2
        go_wp2_with (refine shl_load HH.out sizeDev (by kernel_rfl) rfl rfl rfl 1 rfl rfl ?_)
        refine (HOp.out _ _ 0 HH.out rfl).mono ?_
        rintro e w12 ⟨o, rfl, ho, hoA, e12⟩
        have HH2 := Lib.hid (HH.out.addLook e12 (J := fun W => Sto.At W wS.heap.size w12.heap.size o) (fun _ _ hr hh => hh.imp hr) (Nat.le_refl _) (Nat.le_refl _) hoA)
        have HO := Lib.hid ho
        clear HH HOp ho hoA e12
        have HH := HH2
        clear HH2
        simp only [Sto.cells, Dev.cells, Sl.val]
        go_upto_region 15 with (refine shl_store (HH.out.alloc _ _) sizeSto rfl rfl rfl rfl 0 rfl rfl rfl rfl ?_; clear HH; intro wS HHS; have HH := Lib.hid HHS; clear HHS)
        obtain ⟨qb, hqb⟩ : ∃ b, b = w12.heap.size := ⟨_, rfl⟩
        rw [← hqb] at HH ⊢
        clear hqb
        obtain ⟨⟨⟨oSA, oSn, oSc, oSx⟩, ⟨oWA, oWn, oWc, oWx⟩⟩, oub, ⟨oOA, oOn, oOc, oOx⟩, ⟨oIA, oIn, oIc, oIx⟩⟩ := o
        have HH2 := Lib.hid (show Heap w8 (.box qb [.slice oSA oSn oSc, .slice oWA oWn oWc, .int .i64 oub.txg, .int .i64 oub.first, .int .i64 oub.objs, .slice oOA oOn oOc, .slice oIA oIn oIc] :: It.look (fun W => Sto.At W _ _ ⟨⟨⟨oSA, oSn, oSc, oSx⟩, ⟨oWA, oWn, oWc, oWx⟩⟩, oub, ⟨oOA, oOn, oOc, oOx⟩, ⟨oIA, oIn, oIc, oIx⟩⟩) _ _ _ :: _ :: _ :: _ :: .box ub [.slice u.dev.secs.A u.dev.secs.n u.dev.secs.c, .slice u.dev.waits.A u.dev.waits.n u.dev.waits.c, .int .i64 u.ub.txg, .int .i64 u.ub.first, .int .i64 u.ub.objs, .slice u.objs.A u.objs.n u.objs.c, .slice u.idx.A u.idx.n u.idx.c] :: []) wS from HH.out)
        clear HH
        have HH := HH2
        clear HH2
        go_upto_region 17 with (go_at_call 21; (refine (num10_any _ _).mono ?_); rintro e wN ⟨rfl, rfl⟩)
        go_wp2_with (refine shl_load HH.out sizeSto (by kernel_rfl) rfl rfl rfl 0 rfl rfl ?_)
        have HTx := Lib.hid (show u.ub.txg ≠ t.ub.txg by rw [HLw.out.txg]; omega)
        have HC2 := Lib.hid (fun (W : World) (hW : Ext w8 W) => (HTB.out W hW).2.2)
        rcases HO.out with ⟨h1, rfl, h3⟩ | ⟨h1, rfl, h3⟩
        · have hB1 : hsB oOx ga.xs = true := decide_eq_true h3
          refine (hst_any wN ⟨⟨⟨oSA, oSn, oSc, oSx⟩, ⟨oWA, oWn, oWc, oWx⟩⟩, t.ub, ⟨oOA, oOn, oOc, oOx⟩, ⟨oIA, oIn, oIc, oIx⟩⟩ ga ((HH.out.lookAt 1 rfl).2.imp fun _ _ hr => hr.more (Nat.zero_le _) (HH.out.lookAt 1 rfl).1) (HGA8.out _ HH.out.ext)).mono ?_
          rintro e w13 ⟨rfl, e13⟩
          rw [hB1]
          have HH2 := Lib.hid (HH.out.later e13)
          clear HH e13 hB1 h3 HO
          have HH := HH2
          clear HH2
          have g2 := (HH.out.boxAt 0 rfl).cell 2 _ rfl
          have g3 := (HH.out.boxAt 0 rfl).cell 3 _ rfl
          have g4 := (HH.out.boxAt 0 rfl).cell 4 _ rfl
          obtain ⟨c2', c3', c4'⟩ := HC2.out _ HH.out.ext
          go_upto_region 18 with fail
          clear g2 g3 g4 c2' c3' c4'
          go_wp2_with (refine shl_load HH.out sizeSto (by kernel_rfl) rfl rfl rfl 0 rfl rfl ?_)
          refine (hst_any w13 ⟨⟨⟨oSA, oSn, oSc, oSx⟩, ⟨oWA, oWn, oWc, oWx⟩⟩, t.ub, ⟨oOA, oOn, oOc, oOx⟩, ⟨oIA, oIn, oIc, oIx⟩⟩ gb ((HH.out.lookAt 1 rfl).2.imp fun _ _ hr => hr.more (Nat.zero_le _) (HH.out.lookAt 1 rfl).1) (HGB8.out _ HH.out.ext)).mono ?_
          rintro e w14 ⟨rfl, e14⟩
          generalize hsB oOx gb.xs = B2
          have HH2 := Lib.hid (HH.out.later e14)
          clear HH e14
          have HH := HH2
          clear HH2
          have g2 := (HH.out.boxAt 0 rfl).cell 2 _ rfl
          have g3 := (HH.out.boxAt 0 rfl).cell 3 _ rfl
          have g4 := (HH.out.boxAt 0 rfl).cell 4 _ rfl
          have c2' := (HH.out.boxAt 5 rfl).cell 2 _ rfl
          have c3' := (HH.out.boxAt 5 rfl).cell 3 _ rfl
          have c4' := (HH.out.boxAt 5 rfl).cell 4 _ rfl
          have hne : (t.ub.txg == u.ub.txg) = false := by rw [beq_eq_false_iff_ne]; exact fun e => HTx.out e.symm
          have hne2 : ¬ t.ub.txg = u.ub.txg := fun e => HTx.out e.symm
          have hcm2 : cq < m := by rw [HM.out]; exact h1
          have hq0 : ((cq : Int) == (m : Int)) = false := by rw [beq_eq_false_iff_ne]; omega
          have HEn := Lib.hid (HEw3.out.trans HH.out.ext)
          clear HTx h1
          cases B2 with
          | false =>
            by_cases hq : cq + 1 < m
            · have hq1 : (cq : Int) < (m : Int) - 1 := by omega
              go_wp2_with fail
              go_ret
              exact ⟨rfl, HEn.out⟩
            · have hq1 : ¬ (cq : Int) < (m : Int) - 1 := by omega
              go_wp2_with fail
              go_ret
              exact ⟨rfl, HEn.out⟩
          | true =>
            by_cases hq : cq + 1 < m
            · have hq1 : (cq : Int) < (m : Int) - 1 := by omega
              go_wp2_with fail
              go_ret
              exact ⟨rfl, HEn.out⟩
            · have hq1 : ¬ (cq : Int) < (m : Int) - 1 := by omega
              go_wp2_with fail
              go_ret
              exact ⟨rfl, HEn.out⟩
        · refine (hst_any wN ⟨⟨⟨oSA, oSn, oSc, oSx⟩, ⟨oWA, oWn, oWc, oWx⟩⟩, u.ub, ⟨oOA, oOn, oOc, oOx⟩, ⟨oIA, oIn, oIc, oIx⟩⟩ ga ((HH.out.lookAt 1 rfl).2.imp fun _ _ hr => hr.more (Nat.zero_le _) (HH.out.lookAt 1 rfl).1) (HGA8.out _ HH.out.ext)).mono ?_
          rintro e w13 ⟨rfl, e13⟩
          generalize hsB oOx ga.xs = B1
          have HH2 := Lib.hid (HH.out.later e13)
          clear HH e13 HO
          have HH := HH2
          clear HH2
          have H3 := Lib.hid h3
          have g2 := (HH.out.boxAt 0 rfl).cell 2 _ rfl
          have g3 := (HH.out.boxAt 0 rfl).cell 3 _ rfl
          have g4 := (HH.out.boxAt 0 rfl).cell 4 _ rfl
          obtain ⟨c2', c3', c4'⟩ := HC2.out _ HH.out.ext
          have hne : (u.ub.txg == t.ub.txg) = false := by rw [beq_eq_false_iff_ne]; exact HTx.out
          have hne2 : ¬ u.ub.txg = t.ub.txg := HTx.out
          have hcm2 : m ≤ cq + 1 := by rw [HM.out]; exact h1
          clear HTx h1 h3
          cases B1 with
          | false =>
            go_upto_region 18 with fail
            clear g2 g3 g4 c2' c3' c4' hne hne2
            go_wp2_with (refine shl_load HH.out sizeSto (by kernel_rfl) rfl rfl rfl 0 rfl rfl ?_)
            have hB2 : hsB oOx gb.xs = true := decide_eq_true H3.out
            refine (hst_any w13 ⟨⟨⟨oSA, oSn, oSc, oSx⟩, ⟨oWA, oWn, oWc, oWx⟩⟩, u.ub, ⟨oOA, oOn, oOc, oOx⟩, ⟨oIA, oIn, oIc, oIx⟩⟩ gb ((HH.out.lookAt 1 rfl).2.imp fun _ _ hr => hr.more (Nat.zero_le _) (HH.out.lookAt 1 rfl).1) (HGB8.out _ HH.out.ext)).mono ?_
            rintro e w14 ⟨rfl, e14⟩
            rw [hB2]
            have HH2 := Lib.hid (HH.out.later e14)
            clear HH e14 hB2
            have HH := HH2
            clear HH2
            have g2 := (HH.out.boxAt 0 rfl).cell 2 _ rfl
            have g3 := (HH.out.boxAt 0 rfl).cell 3 _ rfl
            have g4 := (HH.out.boxAt 0 rfl).cell 4 _ rfl
            have c2' := (HH.out.boxAt 5 rfl).cell 2 _ rfl
            have c3' := (HH.out.boxAt 5 rfl).cell 3 _ rfl
            have c4' := (HH.out.boxAt 5 rfl).cell 4 _ rfl
            have HEn := Lib.hid (HEw3.out.trans HH.out.ext)
            by_cases hq : cq = m
            · have hq0 : ((cq : Int) == (m : Int)) = true := by rw [beq_iff_eq]; omega
              clear hcm2 hq
              go_wp2_with fail
              go_ret
              exact ⟨rfl, HEn.out⟩
            · have hq0 : ((cq : Int) == (m : Int)) = false := by rw [beq_eq_false_iff_ne]; omega
              have hq1 : ¬ (cq : Int) < (m : Int) - 1 := by omega
              clear hcm2 hq
              go_wp2_with fail
              go_ret
              exact ⟨rfl, HEn.out⟩
          | true =>
            go_upto_region 18 with fail
            clear g2 g3 g4 c2' c3' c4' hne hne2
            go_wp2_with (refine shl_load HH.out sizeSto (by kernel_rfl) rfl rfl rfl 0 rfl rfl ?_)
            have hB2 : hsB oOx gb.xs = true := decide_eq_true H3.out
            refine (hst_any w13 ⟨⟨⟨oSA, oSn, oSc, oSx⟩, ⟨oWA, oWn, oWc, oWx⟩⟩, u.ub, ⟨oOA, oOn, oOc, oOx⟩, ⟨oIA, oIn, oIc, oIx⟩⟩ gb ((HH.out.lookAt 1 rfl).2.imp fun _ _ hr => hr.more (Nat.zero_le _) (HH.out.lookAt 1 rfl).1) (HGB8.out _ HH.out.ext)).mono ?_
            rintro e w14 ⟨rfl, e14⟩
            rw [hB2]
            have HH2 := Lib.hid (HH.out.later e14)
            clear HH e14 hB2
            have HH := HH2
            clear HH2
            have g2 := (HH.out.boxAt 0 rfl).cell 2 _ rfl
            have g3 := (HH.out.boxAt 0 rfl).cell 3 _ rfl
            have g4 := (HH.out.boxAt 0 rfl).cell 4 _ rfl
            have c2' := (HH.out.boxAt 5 rfl).cell 2 _ rfl
            have c3' := (HH.out.boxAt 5 rfl).cell 3 _ rfl
            have c4' := (HH.out.boxAt 5 rfl).cell 4 _ rfl
            have HEn := Lib.hid (HEw3.out.trans HH.out.ext)
            by_cases hq : cq = m
            · have hq0 : ((cq : Int) == (m : Int)) = true := by rw [beq_iff_eq]; omega
              clear hcm2 hq
              go_wp2_with fail
              go_ret
              exact ⟨rfl, HEn.out⟩
            · have hq0 : ((cq : Int) == (m : Int)) = false := by rw [beq_eq_false_iff_ne]; omega
              have hq1 : ¬ (cq : Int) < (m : Int) - 1 := by omega
              clear hcm2 hq
              go_wp2_with fail
              go_ret
              exact ⟨rfl, HEn.out⟩
end Go.Proofs.YtfongpdeflfioaaGreat
/- Five parameters; flags that come in. -/
namespace Go.Proofs.YtfongpdeflfioaaGreat.opm
open Go.RowKit Go.ChangeShapes Go.WideShapes Go.ChangeAt
set_option linter.unusedVariables false
section
variable {H : Type} {enc : TypeId × Value → H} {P : Program} {w : World} {base : Nat} {spare : Nat → Bool} {held : Bool}
theorem trodAll_five {t t' t'' t3 t4 : TypeId} {args : Array Value} {ds : List (DataW H)} {ps : List MemPlace} (h : DataW.TrodAll enc P w base spare held [t, t', t'', t3, t4] args.toList ds ps) :
    ∃ v v' v'' v3 v4 d d' d'' d3 d4 p p' p'' p3 p4, args = #[v, v', v'', v3, v4] ∧ ds = [d, d', d'', d3, d4] ∧ ps = p ++ p' ++ p'' ++ p3 ++ p4 ∧ DataW.Trod enc P w base spare held t v d p ∧ DataW.Trod enc P w base spare held t' v' d' p' ∧ DataW.Trod enc P w base spare held t'' v'' d'' p'' ∧ DataW.Trod enc P w base spare held t3 v3 d3 p3 ∧ DataW.Trod enc P w base spare held t4 v4 d4 p4 := by
  obtain ⟨v, vs, d, ds', p, q, hargs, rfl, rfl, hd, hrest⟩ := trodAll_cons h
  obtain ⟨v', vs', d', ds'', p', q', rfl, rfl, rfl, hd', hrest'⟩ := trodAll_cons hrest
  obtain ⟨v'', vs'', d'', ds''', p'', q'', rfl, rfl, rfl, hd'', hrest''⟩ := trodAll_cons hrest'
  obtain ⟨v3, vs3, d3, ds3, p3, q3, rfl, rfl, rfl, hd3, hrest3⟩ := trodAll_cons hrest''
  obtain ⟨v4, vs4, d4, ds4, p4, q4, rfl, rfl, rfl, hd4, hrest4⟩ := trodAll_cons hrest3
  obtain ⟨rfl, rfl, rfl⟩ := trodAll_nil hrest4
  refine ⟨v, v', v'', v3, v4, d, d', d'', d3, d4, p, p', p'', p3, p4, ?_, rfl, by simp [List.append_assoc], hd, hd', hd'', hd3, hd4⟩
  rw [← Array.toList_inj, hargs]
end
section
variable {H : Type} {enc : TypeId × Value → H} {w : World}
theorem opens_bools : Opens enc Tryz.prog w 45 (fun s : Sl Bool => [s.val]) (fun s => Ks w s.A s.n s.c s.xs) (fun _ => 0) :=
  (opens_slice 1 (cells := boolc) Tryz.underlying45 (by kernel_rfl) (by omega) (fun _ => rfl) (opens_of (opb.opens_bool Tryz.underlying4))).map (fun s => s) (fun _ _ => rfl) (fun s h => ⟨h.len, Nat.le_trans h.le h.cap, h.rd⟩) (fun s h => Nat.zero_le _)
end
end Go.Proofs.YtfongpdeflfioaaGreat.opm
