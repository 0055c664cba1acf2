/- The texts Sck, Cat in one file. -/
import Derived.Test.YtfongpdeflfioaaGreatS8
import Derived.Test.YtfongpdeflfioaaGreatS2
import Derived.Test.YtfongpdeflfioaaGreatS4
import Derived.Lib.AppendZeros
import Derived.Deep.Cut
/- store.Check. -/
namespace Go.Proofs.YtfongpdeflfioaaGreat
open Go.RowKit Go.Maps Go.Sort Go.Shelf
set_option linter.unusedVariables false
set_option linter.unusedSimpArgs false
theorem sizeDev : (Tryz.prog.info? 25).map (·.size) = some 2 := by kernel_rfl
theorem sizeUb : (Tryz.prog.info? 27).map (·.size) = some 3 := by kernel_rfl
theorem sizeSto : (Tryz.prog.info? 31).map (·.size) = some 7 := by kernel_rfl
theorem sizeOb : (Tryz.prog.info? 35).map (·.size) = some 3 := by kernel_rfl
structure Sto.small (s : Sto) : Prop where
  objs : s.objs.n ≤ 10000000
  locs : ∀ x ∈ s.objs.xs, x.locs.n ≤ 10000000
  used : (usedL s).length ≤ 10000000
def idxOk (s : Sto) : Bool := decide (wE (idxT s.objs.xs) = 0) && (decide (s.objs.n = 0) || decide (s.idx.n = cntP (wB (idxT s.objs.xs)).length)) && (decide (0 < s.objs.n) || decide (s.idx.n = 0))
def objOk (s : Sto) : Bool := decide (s.objs.n ≤ 256) && decide ((s.objs.n : Int) = s.ub.objs) && risB s.objs.xs && !s.objs.xs.any oddB
def headOk (s : Sto) : Bool := decide (chkE s.dev = 0) && decide (ubE s.ub = 0) && decide (s.dev.waits.n = 0)
def sOk (s : Sto) : Bool := headOk s && objOk s && decide (spE (s.dev.secs.n : Int) (usedL s) = 0) && idxOk s
def sCk (s : Sto) : Int := if sOk s = true then 0 else 9
theorem wB_len (l : List ByteArray) : (wB l).length ≤ 70000000 := by
  unfold wB
  split
  · rename_i h
    unfold wE at h
    split at h
    · cases h
    · split at h
      · cases h
      · rename_i h1 h2
        have h3 := acc_len l l.length (by simpa using h2) (Nat.le_refl _)
        have h4 : acc l l.length = flat l := by rw [acc, List.take_length]; rfl
        rw [h4] at h3
        have : l.length * 65539 ≤ 1024 * 65539 := Nat.mul_le_mul_right _ (by omega)
        omega
  · exact Nat.zero_le _
theorem own_form2 {w : World} {base : Nat} {e : TypeId} {size n : Nat} {A : Option Addr} {c : Nat} {xs : List Value} (h : w.ownsRow base e size (.slice A n c) n xs) : n ≤ c ∧ c ≤ maxLen := by
  obtain ⟨A', c', he, h1, h2, _⟩ := own_form h
  cases he
  exact ⟨h1, h2⟩
theorem call_sodd : ∀ args w, (callFunc 43 args).run Tryz.prog w = .ok (.enter 43 args) w := callF Tryz.func43 (by kernel_rfl) rfl
set_option maxRecDepth 100000 in
set_option maxHeartbeats 8000000 in
theorem scheck_any (w : World) (s : Sto) (h : Sto.At w 0 w.heap.size s) (hs : s.small) : Calls Tryz.prog 13 #[.agg s.cells.toArray] w fun e w' => e = .returned (.int .i64 (sCk s)) ∧ Ext w w' := by
  have on := fun W (hW : Ext w W) => Sto.At.on h hW (Nat.le_refl _)
  have HD := Lib.hid (fun W (hW : Ext w W) => chk_any s.dev W (on W hW).dev)
  have HU := Lib.hid (fun W => ucheck_any W s.ub h.ub)
  have HRi := Lib.hid (fun W (hW : Ext w W) => rising_any W s.objs (on W hW).objs)
  have HO := Lib.hid (fun W (hW : Ext w W) => conb_any W s.objs.A s.objs.n s.objs.c s.objs.xs h.objs.len (Nat.le_trans hs.objs (by decide)) (on W hW).objs.rd oddB (.func (.func 43) #[] #[]) 43 #[] rfl call_sodd
    (fun x hx w2 e2 => sodd_any w2 x (Nat.le_trans (Nat.le_trans (h.objs.all x hx).data.le (h.objs.all x hx).data.cap) (by decide)) (Nat.le_trans (hs.locs x hx) (by decide))))
  have HUs := Lib.hid (fun W (hW : Ext w W) => used_any W s (on W hW) hs.used)
  have HSp := Lib.hid (fun W A c (hr : Rd W 0 W.heap.size A (ints (usedL s))) (hc : (usedL s).length ≤ c) (hm : c ≤ maxLen) => show Calls Tryz.prog 44 #[.int .i64 (s.dev.secs.n : Int), .slice A (usedL s).length c] W (fun e w' => e = .returned (.int .i64 (spE (s.dev.secs.n : Int) (usedL s))) ∧ Ext W w') from spcheck_any W (s.dev.secs.n : Int) ⟨A, (usedL s).length, c, usedL s⟩ ⟨rfl, hc, hm, by rw [ints_flat]; exact hr, fun y hy => by
    rcases List.mem_append.1 hy with hy | hy
    · exact h.idx.all y hy
    · obtain ⟨x, hx, hy⟩ := List.mem_flatMap.1 hy
      exact (h.objs.all x hx).locs.all y hy⟩ hs.used)
  have HIx := Lib.hid (fun W (hW : Ext w W) => index_any W s.objs (on W hW).objs hs.objs hs.locs)
  have HV := Lib.hid (show sOk s = (headOk s && objOk s && decide (spE (s.dev.secs.n : Int) (usedL s) = 0) && idxOk s) from rfl)
  have HVh := Lib.hid (show headOk s = (decide (chkE s.dev = 0) && decide (ubE s.ub = 0) && decide (s.dev.waits.n = 0)) from rfl)
  have HVo := Lib.hid (show objOk s = (decide (s.objs.n ≤ 256) && decide ((s.objs.n : Int) = s.ub.objs) && risB s.objs.xs && !s.objs.xs.any oddB) from rfl)
  have HVi := Lib.hid (show idxOk s = (decide (wE (idxT s.objs.xs) = 0) && (decide (s.objs.n = 0) || decide (s.idx.n = cntP (wB (idxT s.objs.xs)).length)) && (decide (0 < s.objs.n) || decide (s.idx.n = 0))) from rfl)
  have HW := Lib.hid (show sCk s = if sOk s = true then 0 else 9 from rfl)
  have hon := hs.objs
  have hul := hs.used
  have hin : s.idx.n ≤ 10000000 := by
    have h1 := hs.used
    rw [usedL, List.length_append] at h1
    have := h.idx.len
    omega
  have hbl := wB_len (idxT s.objs.xs)
  clear on h hs
  generalize sCk s = V at *
  generalize sOk s = V1 at *
  generalize headOk s = V2 at *
  generalize objOk s = V3 at *
  generalize idxOk s = V4 at *
  generalize chkE s.dev = ED at *
  generalize ubE s.ub = EU at *
  generalize risB s.objs.xs = BR at *
  generalize s.objs.xs.any oddB = BO at *
  generalize idxT s.objs.xs = TX at *
  generalize spE (s.dev.secs.n : Int) (usedL s) = ES at *
  generalize usedL s = U at *
  obtain ⟨⟨⟨sA, sn, sc, sx⟩, ⟨wA, wn, wc, wx⟩⟩, ⟨t, f, o⟩, ⟨oA, on, oc, ox⟩, ⟨iA, im, ic, ix⟩⟩ := s
  simp only [Sto.cells, Dev.cells, Ub.cells, Sl.val] at *
  have k9 : Hid (V1 = false → V = 9) := Lib.hid fun h => by rw [HW.out, h]; rfl
  have k0 : Hid (V1 = true → V = 0) := Lib.hid fun h => by rw [HW.out, h]; rfl
  clear HW
  go_enter Tryz.func13, Tryz.ntmps13
  go_upto_region 1 with fail
  generalize hwH : World.alloc w _ = w1; have HH := Lib.hid (Heap.one hwH); clear hwH
  by_cases d1 : ED = 0
  · subst d1
    by_cases d2 : EU = 0
    · subst d2
      by_cases d3 : wn = 0
      · subst d3
        go_upto_region 3 with (first | (refine shl_load HH.out sizeDev (by kernel_rfl) rfl rfl rfl 0 rfl rfl ?_) | (refine shl_load1 HH.out rfl rfl rfl 0 rfl rfl (by decide +kernel) ?_) | (go_big_want; refine sh_load HH.out sizeUb (by kernel_rfl) rfl rfl 0 rfl (Nat.le_of_ble_eq_true rfl) ?_) | (go_big_want; refine sh_load1 HH.out rfl rfl 0 rfl rfl (by decide +kernel) ?_) | (go_at_call 39; (with_reducible refine (HD.out _ HH.out.ext).mono ?_); rintro e wC ⟨rfl, eC⟩; have HHn := Lib.hid (HH.out.later eC); clear HH eC; have HH := HHn; clear HHn) | (go_at_call 40; (with_reducible refine (HU.out _).mono ?_); rintro e wC ⟨rfl, eC⟩; have HHn := Lib.hid (HH.out.later eC); clear HH eC; have HH := HHn; clear HHn))
        have HV2 := Lib.hid (show V2 = true by rw [HVh.out]; rfl)
        clear HVh HD HU
        by_cases d4 : 256 < on
        · have HE := Lib.hid (k9.out (by rw [HV.out, HVo.out]; simp; omega))
          go_wp2_with (first | (refine shl_load1 HH.out rfl rfl rfl 0 rfl rfl (by decide +kernel) ?_) | (go_big_want; refine sh_load1 HH.out rfl rfl 0 rfl rfl (by decide +kernel) ?_) | (go_at_call 41; (with_reducible refine (HRi.out _ HH.out.ext).mono ?_); rintro e wC ⟨rfl, eC⟩; have HHn := Lib.hid (HH.out.later eC); clear HH eC; have HH := HHn; clear HHn) | (go_at_call 42; (with_reducible refine (HO.out _ HH.out.ext).mono ?_); rintro e wC ⟨rfl, eC⟩; have HHn := Lib.hid (HH.out.later eC); clear HH eC; have HH := HHn; clear HHn))
          go_ret
          exact ⟨retI HE.out.symm, HH.out.ext⟩
        · have q4 : decide ((256 : Int) < (on : Int)) = false := by simp; omega
          by_cases d5 : (on : Int) = o
          · subst d5
            cases BR
            · have HE := Lib.hid (k9.out (by rw [HV.out, HVo.out]; simp))
              go_wp2_with (first | (refine shl_load1 HH.out rfl rfl rfl 0 rfl rfl (by decide +kernel) ?_) | (go_big_want; refine sh_load1 HH.out rfl rfl 0 rfl rfl (by decide +kernel) ?_) | (go_at_call 41; (with_reducible refine (HRi.out _ HH.out.ext).mono ?_); rintro e wC ⟨rfl, eC⟩; have HHn := Lib.hid (HH.out.later eC); clear HH eC; have HH := HHn; clear HHn) | (go_at_call 42; (with_reducible refine (HO.out _ HH.out.ext).mono ?_); rintro e wC ⟨rfl, eC⟩; have HHn := Lib.hid (HH.out.later eC); clear HH eC; have HH := HHn; clear HHn))
              go_ret
              exact ⟨retI HE.out.symm, HH.out.ext⟩
            · cases BO
              · have HV3 := Lib.hid (show V3 = true by rw [HVo.out]; simp; omega)
                clear HVo
                go_upto_region 5 with (first | (refine shl_load1 HH.out rfl rfl rfl 0 rfl rfl (by decide +kernel) ?_) | (go_big_want; refine sh_load1 HH.out rfl rfl 0 rfl rfl (by decide +kernel) ?_) | (go_at_call 41; (with_reducible refine (HRi.out _ HH.out.ext).mono ?_); rintro e wC ⟨rfl, eC⟩; have HHn := Lib.hid (HH.out.later eC); clear HH eC; have HH := HHn; clear HHn) | (go_at_call 42; (with_reducible refine (HO.out _ HH.out.ext).mono ?_); rintro e wC ⟨rfl, eC⟩; have HHn := Lib.hid (HH.out.later eC); clear HH eC; have HH := HHn; clear HHn))
                clear HO HRi
                have HHd := Lib.hid HH.out.drew
                clear HH
                refine wp_region_held_drew (S := Heap w [_]) (by kernel_rfl) (HHd.out.only 0 rfl) (fun hHeld => ?_)
                generalize hwd : World.drew _ = wd at *
                clear hwd
                refine tS 0 ?_; (try simp only [Act.put, lyA, lyB, lyC])
                refine tS 1 ?_; (try simp only [Act.put, lyA, lyB, lyC])
                refine tG 2 rfl (fun wT hST => sh_run_load1 hST rfl rfl 0 rfl rfl (by kernel_rfl)) hHeld ?_; (try simp only [Act.put, lyA, lyB, lyC])
                refine tS 3 ?_; (try simp only [Act.put, lyA, lyB, lyC])
                refine tG 4 rfl (fun wT hST => sh_run_load hST sizeSto (by kernel_rfl) rfl rfl 0 rfl (Nat.le_of_ble_eq_true rfl)) hHeld ?_; (try simp only [Act.put, lyA, lyB, lyC])
                refine oS 5 (fun K hK => ?_)
                go_simp; refine (HUs.out wd HHd.out.ext).mono ?_; rintro e w2 ⟨vw2, rfl, hownw2, ew2⟩; obtain ⟨Aw2, cw2, rfl, _, _, _⟩ := own_form hownw2; have HH2 := Lib.hid ((HHd).out.addRow ew2 hownw2); clear HHd hownw2 ew2; go_wp2_with fail
                refine hK.out _ _ ((HH2).out.only 1 rfl) (fun hHeld => ?_); clear hK K; (try simp only [Act.put, lyA, lyB, lyC])
                refine oS 6 (fun K hK => ?_)
                go_simp
                refine (HSp.out w2 _ _ ((HH2.out.rowRd 0 rfl).m0) (own_form2 (HH2.out.rowAt 0 rfl)).1 (own_form2 (HH2.out.rowAt 0 rfl)).2).mono ?_
                rintro e w3 ⟨rfl, e3⟩
                have HH3 := Lib.hid (HH2.out.later e3)
                clear HH2 e3 HSp HUs
                go_wp2_with fail
                refine hK.out _ _ ((HH3).out.only 1 rfl) (fun hHeld => ?_); clear hK K; (try simp only [Act.put, lyA, lyB, lyC])
                by_cases d6 : ES = 0
                · subst d6
                  refine tS 7 ?_; (try simp only [Act.put, lyA, lyB, lyC])
                  refine wpAnyH_done (by kernel_rfl) ?_ _
                  have HH := Lib.hid (HH3.out.only 1 rfl)
                  clear HH3
                  go_upto_region 7 with fail
                  go_upto_region 8 with (first | (refine shl_load1 HH.out rfl rfl rfl 0 rfl rfl (by decide +kernel) ?_) | (go_at_call 46; refine (HIx.out _ HH.out.ext).mono ?_; rintro e w4 ⟨v4, rfl, hr4, e4⟩; obtain ⟨A4, c4, rfl, _, _, _⟩ := own_form hr4; have HH4 := Lib.hid (HH.out.later e4); clear HH hr4 e4; have HH := HH4; clear HH4))
                  clear HIx
                  have HHd := Lib.hid HH.out.drew
                  clear HH
                  have HC := Lib.hid (fun W => count_any W (wB TX).length (by omega))
                  generalize cntP (wB TX).length = CN at *
                  generalize (wB TX).length = BL at *
                  refine wp_region_held_drew (S := Heap w [_]) (by kernel_rfl) (HHd.out.only 0 rfl) (fun hHeld => ?_)
                  generalize hwd : World.drew _ = wd at *
                  clear hwd
                  by_cases d7 : wE TX = 0
                  · rw [d7] at HVi ⊢
                    clear d7
                    by_cases d8 : on = 0
                    · subst d8
                      by_cases d9 : im = 0
                      · subst d9
                        have HE := Lib.hid (k0.out (by rw [HV.out, HV2.out, HV3.out, HVi.out]; rfl))
                        refine tS 0 ?_; (try simp only [Act.put, lyA, lyB, lyC])
                        refine tS 1 ?_; (try simp only [Act.put, lyA, lyB, lyC])
                        refine tS 2 ?_; (try simp only [Act.put, lyA, lyB, lyC])
                        refine tS 3 ?_; (try simp only [Act.put, lyA, lyB, lyC])
                        refine tG 4 rfl (fun wT hST => sh_run_load1 hST rfl rfl 0 rfl rfl (by kernel_rfl)) hHeld ?_; (try simp only [Act.put, lyA, lyB, lyC])
                        refine tS 5 ?_; (try simp only [Act.put, lyA, lyB, lyC])
                        refine tS 6 ?_; (try simp only [Act.put, lyA, lyB, lyC])
                        refine tS 7 ?_; (try simp only [Act.put, lyA, lyB, lyC])
                        refine sS 8 ?_; (try simp only [Act.put, lyA, lyB, lyC])
                        refine sS 9 ?_; (try simp only [Act.put, lyA, lyB, lyC])
                        refine sS 10 ?_; (try simp only [Act.put, lyA, lyB, lyC])
                        refine sS 11 ?_; (try simp only [Act.put, lyA, lyB, lyC])
                        refine sS 12 ?_; (try simp only [Act.put, lyA, lyB, lyC])
                        refine sS 13 ?_; (try simp only [Act.put, lyA, lyB, lyC])
                        refine sS 14 ?_; (try simp only [Act.put, lyA, lyB, lyC])
                        refine tS 15 ?_; (try simp only [Act.put, lyA, lyB, lyC])
                        refine tS 16 ?_; (try simp only [Act.put, lyA, lyB, lyC])
                        refine tS 17 ?_; (try simp only [Act.put, lyA, lyB, lyC])
                        refine tS 18 ?_; (try simp only [Act.put, lyA, lyB, lyC])
                        refine tG 19 rfl (fun wT hST => sh_run_load1 hST rfl rfl 0 rfl rfl (by kernel_rfl)) hHeld ?_; (try simp only [Act.put, lyA, lyB, lyC])
                        refine tS 20 ?_; (try simp only [Act.put, lyA, lyB, lyC])
                        refine tS 21 ?_; (try simp only [Act.put, lyA, lyB, lyC])
                        refine tS 22 ?_; (try simp only [Act.put, lyA, lyB, lyC])
                        refine tS 23 ?_; (try simp only [Act.put, lyA, lyB, lyC])
                        refine tG 24 rfl (fun wT hST => sh_run_load1 hST rfl rfl 0 rfl rfl (by kernel_rfl)) hHeld ?_; (try simp only [Act.put, lyA, lyB, lyC])
                        refine tS 25 ?_; (try simp only [Act.put, lyA, lyB, lyC])
                        refine tS 26 ?_; (try simp only [Act.put, lyA, lyB, lyC])
                        refine tS 27 ?_; (try simp only [Act.put, lyA, lyB, lyC])
                        refine tS 28 ?_; (try simp only [Act.put, lyA, lyB, lyC])
                        refine wpAnyH_done (by kernel_rfl) ?_ _
                        go_wp2_with fail
                        go_ret
                        exact ⟨retI HE.out.symm, HHd.out.ext⟩
                      · have HE := Lib.hid (k9.out (by rw [HV.out, HVi.out]; simp [d9]))
                        have d9' : (0 : Int) < (im : Int) := by omega
                        have d9n : 0 < im := by omega
                        have q9 : decide (0 < im) = true := by simp; omega
                        refine tS 0 ?_; (try simp only [Act.put, lyA, lyB, lyC])
                        refine tS 1 ?_; (try simp only [Act.put, lyA, lyB, lyC])
                        refine tS 2 ?_; (try simp only [Act.put, lyA, lyB, lyC])
                        refine tS 3 ?_; (try simp only [Act.put, lyA, lyB, lyC])
                        refine tG 4 rfl (fun wT hST => sh_run_load1 hST rfl rfl 0 rfl rfl (by kernel_rfl)) hHeld ?_; (try simp only [Act.put, lyA, lyB, lyC])
                        refine tS 5 ?_; (try simp only [Act.put, lyA, lyB, lyC])
                        refine tS 6 ?_; (try simp only [Act.put, lyA, lyB, lyC])
                        refine tS 7 ?_; (try simp only [Act.put, lyA, lyB, lyC])
                        refine sS 8 ?_; (try simp only [Act.put, lyA, lyB, lyC])
                        refine sS 9 ?_; (try simp only [Act.put, lyA, lyB, lyC])
                        refine sS 10 ?_; (try simp only [Act.put, lyA, lyB, lyC])
                        refine sS 11 ?_; (try simp only [Act.put, lyA, lyB, lyC])
                        refine sS 12 ?_; (try simp only [Act.put, lyA, lyB, lyC])
                        refine sS 13 ?_; (try simp only [Act.put, lyA, lyB, lyC])
                        refine sS 14 ?_; (try simp only [Act.put, lyA, lyB, lyC])
                        refine tS 15 ?_; (try simp only [Act.put, lyA, lyB, lyC])
                        refine tS 16 ?_; (try simp only [Act.put, lyA, lyB, lyC])
                        refine tS 17 ?_; (try simp only [Act.put, lyA, lyB, lyC])
                        refine tS 18 ?_; (try simp only [Act.put, lyA, lyB, lyC])
                        refine tG 19 rfl (fun wT hST => sh_run_load1 hST rfl rfl 0 rfl rfl (by kernel_rfl)) hHeld ?_; (try simp only [Act.put, lyA, lyB, lyC])
                        refine tS 20 ?_; (try simp only [Act.put, lyA, lyB, lyC])
                        refine tS 21 ?_; (try simp only [Act.put, lyA, lyB, lyC])
                        refine tS 22 ?_; (try simp only [Act.put, lyA, lyB, lyC])
                        refine tS 23 ?_; (try simp only [Act.put, lyA, lyB, lyC])
                        refine tG 24 rfl (fun wT hST => sh_run_load1 hST rfl rfl 0 rfl rfl (by kernel_rfl)) hHeld ?_; (try simp only [Act.put, lyA, lyB, lyC])
                        refine tS 25 ?_; (try simp only [Act.put, lyA, lyB, lyC])
                        refine tS 26 ?_; (try simp only [Act.put, lyA, lyB, lyC])
                        refine tS 27 ?_; (try simp only [Act.put, lyA, lyB, lyC])
                        refine tS 28 ?_; (try simp only [Act.put, lyA, lyB, lyC])
                        refine wpAnyH_done (by kernel_rfl) ?_ _
                        go_wp2_with fail
                        go_ret
                        exact ⟨retI HE.out.symm, HHd.out.ext⟩
                    · have d8' : (0 : Int) < (on : Int) := by omega
                      have d8'' : ¬ (on : Int) = 0 := by omega
                      have d8n : 0 < on := by omega
                      have q10 : ((on : Int) == 0) = false := by simp; omega
                      have q11 : (on == 0) = false := by simp; omega
                      have q8 : decide (0 < on) = true := by simp; omega
                      by_cases d9 : im = CN
                      · subst d9
                        have HE := Lib.hid (k0.out (by rw [HV.out, HV2.out, HV3.out, HVi.out]; simp; omega))
                        refine tS 0 ?_; (try simp only [Act.put, lyA, lyB, lyC])
                        refine tS 1 ?_; (try simp only [Act.put, lyA, lyB, lyC])
                        refine tS 2 ?_; (try simp only [Act.put, lyA, lyB, lyC])
                        refine tS 3 ?_; (try simp only [Act.put, lyA, lyB, lyC])
                        refine tG 4 rfl (fun wT hST => sh_run_load1 hST rfl rfl 0 rfl rfl (by kernel_rfl)) hHeld ?_; (try simp only [Act.put, lyA, lyB, lyC])
                        refine tS 5 ?_; (try simp only [Act.put, lyA, lyB, lyC])
                        refine tS 6 ?_; (try simp only [Act.put, lyA, lyB, lyC])
                        refine tS 7 ?_; (try simp only [Act.put, lyA, lyB, lyC])
                        refine tS 8 ?_; (try simp only [Act.put, lyA, lyB, lyC])
                        refine tG 9 rfl (fun wT hST => sh_run_load1 hST rfl rfl 0 rfl rfl (by kernel_rfl)) hHeld ?_; (try simp only [Act.put, lyA, lyB, lyC])
                        refine tS 10 ?_; (try simp only [Act.put, lyA, lyB, lyC])
                        refine tS 11 ?_; (try simp only [Act.put, lyA, lyB, lyC])
                        refine tS 12 ?_; (try simp only [Act.put, lyA, lyB, lyC])
                        refine oS 13 (fun K hK => ?_)
                        go_simp; refine (HC.out wd).mono ?_; rintro e w5 ⟨rfl, ew5⟩; have HH5 := Lib.hid ((HHd).out.later ew5); clear HHd ew5; go_wp2_with fail
                        refine hK.out _ _ ((HH5).out.only 0 rfl) (fun hHeld => ?_); clear hK K; (try simp only [Act.put, lyA, lyB, lyC])
                        refine tS 14 ?_; (try simp only [Act.put, lyA, lyB, lyC])
                        refine tS 15 ?_; (try simp only [Act.put, lyA, lyB, lyC])
                        refine tS 16 ?_; (try simp only [Act.put, lyA, lyB, lyC])
                        refine tS 17 ?_; (try simp only [Act.put, lyA, lyB, lyC])
                        refine tS 18 ?_; (try simp only [Act.put, lyA, lyB, lyC])
                        refine tG 19 rfl (fun wT hST => sh_run_load1 hST rfl rfl 0 rfl rfl (by kernel_rfl)) hHeld ?_; (try simp only [Act.put, lyA, lyB, lyC])
                        refine tS 20 ?_; (try simp only [Act.put, lyA, lyB, lyC])
                        refine tS 21 ?_; (try simp only [Act.put, lyA, lyB, lyC])
                        refine tS 22 ?_; (try simp only [Act.put, lyA, lyB, lyC])
                        refine sS 23 ?_; (try simp only [Act.put, lyA, lyB, lyC])
                        refine sS 24 ?_; (try simp only [Act.put, lyA, lyB, lyC])
                        refine sS 25 ?_; (try simp only [Act.put, lyA, lyB, lyC])
                        refine sS 26 ?_; (try simp only [Act.put, lyA, lyB, lyC])
                        refine tS 27 ?_; (try simp only [Act.put, lyA, lyB, lyC])
                        refine tS 28 ?_; (try simp only [Act.put, lyA, lyB, lyC])
                        refine wpAnyH_done (by kernel_rfl) ?_ _
                        go_wp2_with fail
                        go_ret
                        exact ⟨retI HE.out.symm, HH5.out.ext⟩
                      · have HE := Lib.hid (k9.out (by rw [HV.out, HVi.out]; simp [d8, d9]))
                        have d9' : ¬ (im : Int) = (CN : Int) := by omega
                        have q12 : ((im : Int) != (CN : Int)) = true := by simp; omega
                        have q13 : (im != CN) = true := by simp; omega
                        refine tS 0 ?_; (try simp only [Act.put, lyA, lyB, lyC])
                        refine tS 1 ?_; (try simp only [Act.put, lyA, lyB, lyC])
                        refine tS 2 ?_; (try simp only [Act.put, lyA, lyB, lyC])
                        refine tS 3 ?_; (try simp only [Act.put, lyA, lyB, lyC])
                        refine tG 4 rfl (fun wT hST => sh_run_load1 hST rfl rfl 0 rfl rfl (by kernel_rfl)) hHeld ?_; (try simp only [Act.put, lyA, lyB, lyC])
                        refine tS 5 ?_; (try simp only [Act.put, lyA, lyB, lyC])
                        refine tS 6 ?_; (try simp only [Act.put, lyA, lyB, lyC])
                        refine tS 7 ?_; (try simp only [Act.put, lyA, lyB, lyC])
                        refine tS 8 ?_; (try simp only [Act.put, lyA, lyB, lyC])
                        refine tG 9 rfl (fun wT hST => sh_run_load1 hST rfl rfl 0 rfl rfl (by kernel_rfl)) hHeld ?_; (try simp only [Act.put, lyA, lyB, lyC])
                        refine tS 10 ?_; (try simp only [Act.put, lyA, lyB, lyC])
                        refine tS 11 ?_; (try simp only [Act.put, lyA, lyB, lyC])
                        refine tS 12 ?_; (try simp only [Act.put, lyA, lyB, lyC])
                        refine oS 13 (fun K hK => ?_)
                        go_simp; refine (HC.out wd).mono ?_; rintro e w5 ⟨rfl, ew5⟩; have HH5 := Lib.hid ((HHd).out.later ew5); clear HHd ew5; go_wp2_with fail
                        refine hK.out _ _ ((HH5).out.only 0 rfl) (fun hHeld => ?_); clear hK K; (try simp only [Act.put, lyA, lyB, lyC])
                        refine tS 14 ?_; (try simp only [Act.put, lyA, lyB, lyC])
                        refine tS 15 ?_; (try simp only [Act.put, lyA, lyB, lyC])
                        refine tS 16 ?_; (try simp only [Act.put, lyA, lyB, lyC])
                        refine tS 17 ?_; (try simp only [Act.put, lyA, lyB, lyC])
                        refine sS 18 ?_; (try simp only [Act.put, lyA, lyB, lyC])
                        refine sS 19 ?_; (try simp only [Act.put, lyA, lyB, lyC])
                        refine sS 20 ?_; (try simp only [Act.put, lyA, lyB, lyC])
                        refine sS 21 ?_; (try simp only [Act.put, lyA, lyB, lyC])
                        refine sS 22 ?_; (try simp only [Act.put, lyA, lyB, lyC])
                        refine sS 23 ?_; (try simp only [Act.put, lyA, lyB, lyC])
                        refine sS 24 ?_; (try simp only [Act.put, lyA, lyB, lyC])
                        refine sS 25 ?_; (try simp only [Act.put, lyA, lyB, lyC])
                        refine sS 26 ?_; (try simp only [Act.put, lyA, lyB, lyC])
                        refine sS 27 ?_; (try simp only [Act.put, lyA, lyB, lyC])
                        refine tS 28 ?_; (try simp only [Act.put, lyA, lyB, lyC])
                        refine wpAnyH_done (by kernel_rfl) ?_ _
                        go_wp2_with fail
                        go_ret
                        exact ⟨retI HE.out.symm, HH5.out.ext⟩
                  · have HE := Lib.hid (k9.out (by rw [HV.out, HVi.out]; simp [d7]))
                    generalize wE TX = EW at *
                    have q7 : (EW != 0) = true := by simpa using d7
                    refine tS 0 ?_; (try simp only [Act.put, lyA, lyB, lyC])
                    refine tS 1 ?_; (try simp only [Act.put, lyA, lyB, lyC])
                    refine tS 2 ?_; (try simp only [Act.put, lyA, lyB, lyC])
                    refine sS 3 ?_; (try simp only [Act.put, lyA, lyB, lyC])
                    refine sS 4 ?_; (try simp only [Act.put, lyA, lyB, lyC])
                    refine sS 5 ?_; (try simp only [Act.put, lyA, lyB, lyC])
                    refine sS 6 ?_; (try simp only [Act.put, lyA, lyB, lyC])
                    refine sS 7 ?_; (try simp only [Act.put, lyA, lyB, lyC])
                    refine sS 8 ?_; (try simp only [Act.put, lyA, lyB, lyC])
                    refine sS 9 ?_; (try simp only [Act.put, lyA, lyB, lyC])
                    refine sS 10 ?_; (try simp only [Act.put, lyA, lyB, lyC])
                    refine sS 11 ?_; (try simp only [Act.put, lyA, lyB, lyC])
                    refine sS 12 ?_; (try simp only [Act.put, lyA, lyB, lyC])
                    refine sS 13 ?_; (try simp only [Act.put, lyA, lyB, lyC])
                    refine sS 14 ?_; (try simp only [Act.put, lyA, lyB, lyC])
                    refine sS 15 ?_; (try simp only [Act.put, lyA, lyB, lyC])
                    refine tS 16 ?_; (try simp only [Act.put, lyA, lyB, lyC])
                    refine tS 17 ?_; (try simp only [Act.put, lyA, lyB, lyC])
                    refine sS 18 ?_; (try simp only [Act.put, lyA, lyB, lyC])
                    refine sS 19 ?_; (try simp only [Act.put, lyA, lyB, lyC])
                    refine sS 20 ?_; (try simp only [Act.put, lyA, lyB, lyC])
                    refine sS 21 ?_; (try simp only [Act.put, lyA, lyB, lyC])
                    refine sS 22 ?_; (try simp only [Act.put, lyA, lyB, lyC])
                    refine sS 23 ?_; (try simp only [Act.put, lyA, lyB, lyC])
                    refine sS 24 ?_; (try simp only [Act.put, lyA, lyB, lyC])
                    refine sS 25 ?_; (try simp only [Act.put, lyA, lyB, lyC])
                    refine sS 26 ?_; (try simp only [Act.put, lyA, lyB, lyC])
                    refine sS 27 ?_; (try simp only [Act.put, lyA, lyB, lyC])
                    refine tS 28 ?_; (try simp only [Act.put, lyA, lyB, lyC])
                    refine wpAnyH_done (by kernel_rfl) ?_ _
                    go_wp2_with fail
                    go_ret
                    exact ⟨retI HE.out.symm, HHd.out.ext⟩
                · have HE := Lib.hid (k9.out (by rw [HV.out]; simp [d6]))
                  refine tS 7 ?_; (try simp only [Act.put, lyA, lyB, lyC])
                  refine wpAnyH_done (by kernel_rfl) ?_ _
                  go_wp2_with fail
                  go_ret
                  exact ⟨retI HE.out.symm, HH3.out.ext⟩
              · have HE := Lib.hid (k9.out (by rw [HV.out, HVo.out]; simp))
                go_wp2_with (first | (refine shl_load1 HH.out rfl rfl rfl 0 rfl rfl (by decide +kernel) ?_) | (go_big_want; refine sh_load1 HH.out rfl rfl 0 rfl rfl (by decide +kernel) ?_) | (go_at_call 41; (with_reducible refine (HRi.out _ HH.out.ext).mono ?_); rintro e wC ⟨rfl, eC⟩; have HHn := Lib.hid (HH.out.later eC); clear HH eC; have HH := HHn; clear HHn) | (go_at_call 42; (with_reducible refine (HO.out _ HH.out.ext).mono ?_); rintro e wC ⟨rfl, eC⟩; have HHn := Lib.hid (HH.out.later eC); clear HH eC; have HH := HHn; clear HHn))
                go_ret
                exact ⟨retI HE.out.symm, HH.out.ext⟩
          · have HE := Lib.hid (k9.out (by rw [HV.out, HVo.out]; simp [d5]))
            go_wp2_with (first | (refine shl_load1 HH.out rfl rfl rfl 0 rfl rfl (by decide +kernel) ?_) | (go_big_want; refine sh_load1 HH.out rfl rfl 0 rfl rfl (by decide +kernel) ?_) | (go_at_call 41; (with_reducible refine (HRi.out _ HH.out.ext).mono ?_); rintro e wC ⟨rfl, eC⟩; have HHn := Lib.hid (HH.out.later eC); clear HH eC; have HH := HHn; clear HHn) | (go_at_call 42; (with_reducible refine (HO.out _ HH.out.ext).mono ?_); rintro e wC ⟨rfl, eC⟩; have HHn := Lib.hid (HH.out.later eC); clear HH eC; have HH := HHn; clear HHn))
            go_ret
            exact ⟨retI HE.out.symm, HH.out.ext⟩
      · have HE := Lib.hid (k9.out (by rw [HV.out, HVh.out]; simp [d3]))
        have d3' : (0 : Int) < (wn : Int) := by omega
        go_wp2_with (first | (refine shl_load HH.out sizeDev (by kernel_rfl) rfl rfl rfl 0 rfl rfl ?_) | (refine shl_load1 HH.out rfl rfl rfl 0 rfl rfl (by decide +kernel) ?_) | (go_big_want; refine sh_load HH.out sizeUb (by kernel_rfl) rfl rfl 0 rfl (Nat.le_of_ble_eq_true rfl) ?_) | (go_big_want; refine sh_load1 HH.out rfl rfl 0 rfl rfl (by decide +kernel) ?_) | (go_at_call 39; (with_reducible refine (HD.out _ HH.out.ext).mono ?_); rintro e wC ⟨rfl, eC⟩; have HHn := Lib.hid (HH.out.later eC); clear HH eC; have HH := HHn; clear HHn) | (go_at_call 40; (with_reducible refine (HU.out _).mono ?_); rintro e wC ⟨rfl, eC⟩; have HHn := Lib.hid (HH.out.later eC); clear HH eC; have HH := HHn; clear HHn))
        go_ret
        exact ⟨retI HE.out.symm, HH.out.ext⟩
    · have HE := Lib.hid (k9.out (by rw [HV.out, HVh.out]; simp [d2]))
      go_wp2_with (first | (refine shl_load HH.out sizeDev (by kernel_rfl) rfl rfl rfl 0 rfl rfl ?_) | (refine shl_load1 HH.out rfl rfl rfl 0 rfl rfl (by decide +kernel) ?_) | (go_big_want; refine sh_load HH.out sizeUb (by kernel_rfl) rfl rfl 0 rfl (Nat.le_of_ble_eq_true rfl) ?_) | (go_big_want; refine sh_load1 HH.out rfl rfl 0 rfl rfl (by decide +kernel) ?_) | (go_at_call 39; (with_reducible refine (HD.out _ HH.out.ext).mono ?_); rintro e wC ⟨rfl, eC⟩; have HHn := Lib.hid (HH.out.later eC); clear HH eC; have HH := HHn; clear HHn) | (go_at_call 40; (with_reducible refine (HU.out _).mono ?_); rintro e wC ⟨rfl, eC⟩; have HHn := Lib.hid (HH.out.later eC); clear HH eC; have HH := HHn; clear HHn))
      go_ret
      exact ⟨retI HE.out.symm, HH.out.ext⟩
  · have HE := Lib.hid (k9.out (by rw [HV.out, HVh.out]; simp [d1]))
    go_wp2_with (first | (refine shl_load HH.out sizeDev (by kernel_rfl) rfl rfl rfl 0 rfl rfl ?_) | (refine shl_load1 HH.out rfl rfl rfl 0 rfl rfl (by decide +kernel) ?_) | (go_big_want; refine sh_load HH.out sizeUb (by kernel_rfl) rfl rfl 0 rfl (Nat.le_of_ble_eq_true rfl) ?_) | (go_big_want; refine sh_load1 HH.out rfl rfl 0 rfl rfl (by decide +kernel) ?_) | (go_at_call 39; (with_reducible refine (HD.out _ HH.out.ext).mono ?_); rintro e wC ⟨rfl, eC⟩; have HHn := Lib.hid (HH.out.later eC); clear HH eC; have HH := HHn; clear HHn) | (go_at_call 40; (with_reducible refine (HU.out _).mono ?_); rintro e wC ⟨rfl, eC⟩; have HHn := Lib.hid (HH.out.later eC); clear HH eC; have HH := HHn; clear HHn))
    go_ret
    exact ⟨retI HE.out.symm, HH.out.ext⟩
end Go.Proofs.YtfongpdeflfioaaGreat
/- octets.Join: slices.Concat over rows of octets, slices.Grow of nothing. -/
namespace Go.Proofs.YtfongpdeflfioaaGreat
open Go.RowKit
set_option linter.unusedVariables false
set_option linter.unusedSimpArgs false
structure Sb where
  A : Option Addr
  n : Nat
  c : Nat
  l : List UInt8
def Sb.val (x : Sb) : Value := .slice x.A x.n x.c
def sbs (xs : List Sb) : List Value := xs.map Sb.val
def Sb.ok (w : World) (x : Sb) : Prop := x.n = x.l.length ∧ Rd w 0 w.heap.size x.A (bytes x.l)
theorem Sb.ok.ext {w w' : World} {x : Sb} (h : x.ok w) (e : Ext w w') : x.ok w' := ⟨h.1, Rd.at h.2 e (Nat.le_refl _)⟩
def catL (xs : List Sb) : List UInt8 := xs.flatMap Sb.l
theorem catL_upto (xs : List Sb) (k : Nat) (h : k < xs.length) : catL (xs.take (k + 1)) = catL (xs.take k) ++ xs[k].l := by
  rw [List.take_succ_eq_append_getElem h, catL, List.flatMap_append]; simp [catL]
theorem catL_le (xs : List Sb) (k : Nat) : (catL (xs.take k)).length ≤ (catL xs).length := by
  have : catL xs = catL (xs.take k) ++ catL (xs.drop k) := by rw [catL, catL, catL, ← List.flatMap_append, List.take_append_drop]
  rw [this, List.length_append]; omega
theorem sbs_at {w : World} {lo h : Nat} {A : Option Addr} {xs : List Sb} (hr : Rd w lo h A (sbs xs)) {k : Nat} (hk : k < xs.length) :
    ∃ b o, A = some ⟨b, o, none⟩ ∧ w.cell? ⟨b, o + k, none⟩ = some (.slice xs[k].A xs[k].n xs[k].c) := by
  obtain ⟨b, o, h1, h2, h3, h4⟩ := hr (fun e => by have : (sbs xs).length = xs.length := by simp [sbs]
                                                   rw [e] at this; simp at this; omega)
  exact ⟨b, o, h1, h4 k _ (by simp [sbs, List.getElem?_eq_getElem hk, Sb.val])⟩
set_option maxRecDepth 100000 in
set_option maxHeartbeats 2000000 in
theorem grow0_any (w : World) (m : Nat) (hm : m ≤ 100000000000) :
    Calls Tryz.prog 144 #[.slice none 0 0, .int .i64 m] w fun e w' => ∃ v, e = .returned v ∧ w'.ownsRow w.heap.size 5 1 v 0 [] ∧ Ext w w' := by
  obtain ⟨i0, hi0, hz0, hz1, hz2⟩ := info_parts info5
  rcases Nat.eq_zero_or_pos m with h0 | h0
  · subst h0
    rw [show ((0 : Nat) : Int) = 0 from rfl]
    go_enter Tryz.func144, Tryz.ntmps144
    go_wp2_with fail
    go_ret
    exact ⟨_, rfl, World.ownsRow_nil _ _ _ _, Ext.refl _⟩
  · have hrun : ∀ ty, (Builtin.append_ #[33, 3] ty #[.slice none 0 0, .int .i64 (m : Int)]).run Tryz.prog w = _ := fun ty =>
      Lib.run_append_nil_zeros (P := Tryz.prog) w 33 3 ty 5 i0 _ .i64 .i64 Tryz.underlying33 Tryz.underlying3 hi0 hz0 m h0 (by rw [hz1]; omega) (by omega) (by rw [hz2]; omega)
    have hG1 : m ≤ grownCap w m 0 5 := grownCap_ge w _ _ _
    have hG2 : grownCap w m 0 5 ≤ maxLen := grownCap_le_maxLen w m 0 5 (by simp only [maxLen]; omega)
    generalize grownCap w m 0 5 = G at *
    obtain ⟨ROW, hROW⟩ : ∃ ROW : Array Value, ROW = Builtin.zeroCells (Value.int .u8 0).cells m ++ Builtin.zeroCells (Value.int .u8 0).cells (G - m) := ⟨_, rfl⟩
    rw [← hROW] at hrun
    have hsz : ROW.size = G := by
      rw [hROW]
      simp only [Builtin.zeroCells, Array.size_append, Array.size_map, Array.size_range, Value.cells, List.size_toArray, List.length_cons, List.length_nil]
      omega
    obtain ⟨w1, hw1⟩ : ∃ w1, w1 = w.drew.alloc (.cells ROW 5) := ⟨_, rfl⟩
    rw [← hw1] at hrun
    have hown : w1.ownsRow w.heap.size 5 1 (.slice (some ⟨w.heap.size, 0, none⟩) 0 G) 0 [] := by
      rw [hw1]
      exact ⟨rfl, .inr ⟨w.heap.size, G, ROW, rfl, Nat.le_refl _, heap_alloc_new w.drew _, Nat.zero_le _, hG2, by omega, by simp⟩⟩
    have e1 : Ext w w1 := by rw [hw1]; exact ((Ext.refl w).drew).alloc _
    have HOwn := Lib.hid hown
    have HRun := Lib.hid hrun
    have hmp : (0 : Int) < m := by omega
    simp only [maxLen] at hG2
    clear hw1 hROW hsz hrun hown
    go_enter Tryz.func144, Tryz.ntmps144
    go_wp2_with (at_builtin; refine Lib.wpList_append_run _ rfl (.tmp 20) (.tmp 21) _ _ rfl _ _ rfl rfl _ _ (HRun.out _) ?_)
    go_ret
    exact ⟨_, rfl, HOwn.out, e1⟩
set_option maxRecDepth 100000 in
set_option maxHeartbeats 4000000 in
theorem concat_any (w : World) (A : Option Addr) (n c : Nat) (xs : List Sb) (hn : n = xs.length) (hr : Rd w 0 w.heap.size A (sbs xs)) (hok : ∀ x ∈ xs, x.ok w) (hN : n ≤ 100000000000) (hT : (catL xs).length ≤ 100000000000) :
    Calls Tryz.prog 129 #[.slice A n c] w fun e w' => ∃ v, e = .returned v ∧ w'.ownsRow w.heap.size 5 1 v (catL xs).length (bytes (catL xs)) ∧ Ext w w' := by
  obtain ⟨i0, hi0, hz0, hz1, hz2⟩ := info_parts info5
  have Hn := Lib.hid hn
  have HR := Lib.hid hr
  have HO := Lib.hid hok
  have HT := Lib.hid hT
  clear hn hr hok
  go_enter Tryz.func129, Tryz.ntmps129
  go_wp2_with fail
  go_loop [3, 11] (fun s i => ∃ k : Nat, k ≤ n ∧ i = .int .i64 (k : Int) ∧ s = .int .i64 ((catL (xs.take k)).length : Int)) (fun _ i => n - (intOf i).toNat)
  case atStart => exact ⟨0, Nat.zero_le _, rfl, rfl⟩
  case round =>
    obtain ⟨k, hk, rfl, rfl⟩ := hrel
    have hle := catL_le xs k
    by_cases hlt : k < n
    · have hl : k < xs.length := by rw [← Hn.out]; exact hlt
      obtain ⟨b1, o1, rfl, f0⟩ := sbs_at HR.out hl
      have HU := Lib.hid (catL_upto xs k hl)
      have hle2 := catL_le xs (k + 1)
      have hx := (HO.out _ (List.getElem_mem hl)).1
      have hlen : (catL (xs.take (k + 1))).length = (catL (xs.take k)).length + xs[k].n := by rw [catL_upto xs k hl, List.length_append, hx]
      generalize xs[k].A = xA at *
      generalize xs[k].c = xc at *
      generalize xs[k].n = xn at *
      generalize (catL (xs.take k)).length = q at *
      have HL := Lib.hid hlen
      have hq : q + xn ≤ 100000000000 := by have := HT.out; omega
      clear hx hlen hle hle2
      go_wp2_with fail
      go_round
      case rel => exact ⟨k + 1, by omega, by go_num, by rw [HL.out]; go_num⟩
      case measure => simp [intOf]; omega
    · obtain rfl : k = n := by omega
      have hall : (catL (xs.take k)).length = (catL xs).length := by rw [List.take_of_length_le (by rw [← Hn.out]; exact Nat.le_refl _)]
      rw [hall]
      clear hall hle hlt
      generalize hm : (catL xs).length = m at *
      have HM := Lib.hid hm
      clear hm
      go_wp2_with fail
      refine (grow0_any w m hT).mono ?_
      rintro e w2 ⟨v2, rfl, hown2, e2⟩
      have HOwn2 := Lib.hid hown2
      clear hown2
      go_wp2_with fail
      go_loopw [6, 27] (fun v i wr => ∃ j : Nat, j ≤ k ∧ i = .int .i64 (j : Int) ∧ Hid (wr.ownsRow w.heap.size 5 1 v (catL (xs.take j)).length (bytes (catL (xs.take j)))) ∧ Ext w wr) (fun _ i _ => k - (intOf i).toNat)
      case atStart => exact ⟨0, Nat.zero_le _, rfl, HOwn2, e2⟩
      case round =>
        clear HOwn2 e2
        obtain ⟨j, hj, rfl, hown, e1⟩ := hrel
        by_cases hlt : j < k
        · have hl : j < xs.length := by rw [← Hn.out]; exact hlt
          obtain ⟨b1, o1, rfl, f0⟩ := sbs_at (HR.out.at e1 (Nat.le_refl _)) hl
          have HU := Lib.hid (catL_upto xs j hl)
          have hle2 := catL_le xs (j + 1)
          have hx := HO.out _ (List.getElem_mem hl)
          have hlen : (catL (xs.take (j + 1))).length = (catL (xs.take j)).length + xs[j].n := by rw [catL_upto xs j hl, List.length_append, hx.1]
          have HX := Lib.hid hx
          have HL := Lib.hid hlen
          have hq : (catL (xs.take j)).length + xs[j].n ≤ 100000000000 := by have := HM.out; omega
          clear hx hlen hle2
          generalize xs[j] = x at *
          obtain ⟨xA, xn, xc, xl⟩ := x
          dsimp only at f0 HU HX HL hq
          go_wp2_with
            (at_builtin
             refine list_app _ rfl (.tmp 31) (.tmp 32) _ rfl 5 i0 _ 1 1 Tryz.underlying33 hi0 hz0 hz1 hz2 rfl (by omega) w.heap.size _ _ _ rfl hown.out 0 _ xA xn xc (bytes xl) rfl (by rw [bytes_length, Nat.mul_one]; exact HX.out.1.symm) (Rd.at HX.out.2 e1 (Nat.le_refl _)) (bytes_one _) (by simp only [maxLen]; omega) (by omega) e1.size ?_
             intro v3 w3 hown3 he3 _ _
             have e3 : Ext w w3 := he3 _ e1 (Nat.le_refl _)
             have HOwn3 := Lib.hid hown3
             clear he3 hown3)
          go_roundw
          case rel => exact ⟨j + 1, by omega, by go_num, Lib.hid (by rw [HL.out, HU.out, bytes_append]; exact HOwn3.out), e3⟩
          case measure => simp [intOf]; omega
        · obtain rfl : j = k := by omega
          have hall : catL (xs.take j) = catL xs := by rw [List.take_of_length_le (by rw [← Hn.out]; exact Nat.le_refl _)]
          have HAll := Lib.hid hall
          clear hall
          go_wp2_with fail
          go_ret
          refine ⟨_, rfl, ?_, e1⟩
          have := hown.out
          rw [HAll.out] at this
          rw [HM.out] at this
          rw [HM.out]
          exact this
theorem join_any (w : World) (A : Option Addr) (n c : Nat) (xs : List Sb) (hn : n = xs.length) (hr : Rd w 0 w.heap.size A (sbs xs)) (hok : ∀ x ∈ xs, x.ok w) (hN : n ≤ 100000000000) (hT : (catL xs).length ≤ 100000000000) :
    Calls Tryz.prog 98 #[.slice A n c] w fun e w' => ∃ v, e = .returned v ∧ w'.ownsRow w.heap.size 5 1 v (catL xs).length (bytes (catL xs)) ∧ Ext w w' := by
  have HC := Lib.hid (concat_any w A n c xs hn hr hok hN hT)
  clear hn hr hok hT
  go_enter Tryz.func98, Tryz.ntmps98
  go_wp2_with fail
  refine HC.out.mono ?_
  rintro e w2 ⟨v2, rfl, hown2, e2⟩
  have H := Lib.hid hown2
  clear hown2
  go_wp2_with fail
  go_ret
  exact ⟨_, rfl, H.out, e2⟩
end Go.Proofs.YtfongpdeflfioaaGreat
