/- The texts Look, Hpg, Lkh, Eql, Snd in one file. -/
import Derived.Test.YtfongpdeflfioaaGreatS27
import Derived.Test.YtfongpdeflfioaaGreatS21
import Derived.Test.YtfongpdeflfioaaGreatS23
import Derived.Test.YtfongpdeflfioaaGreatS12
import Derived.Test.YtfongpdeflfioaaGreatS26
import Derived.Test.YtfongpdeflfioaaGreatS2
/- scrub.Look. -/
namespace Go.Proofs.YtfongpdeflfioaaGreat
open Go.RowKit Go.Maps Go.Sort Go.Shelf
set_option linter.unusedVariables false
set_option linter.unusedSimpArgs false
theorem sizeKk : (Tryz.prog.info? 38).map (·.size) = some 4 := by kernel_rfl
theorem sizeLk : (Tryz.prog.info? 76).map (·.size) = some 11 := by kernel_rfl
def lkA (secs : Sl Oct) (xs : List Ob) (p : Int × List Int) : Int × List Int := xs.foldl (fun p x => lkO secs x (cntP x.data.n) p) p
theorem lkA_snoc (secs : Sl Oct) (xs : List Ob) (x : Ob) (p : Int × List Int) : lkA secs (xs ++ [x]) p = lkO secs x (cntP x.data.n) (lkA secs xs p) := by simp [lkA]
theorem lkA_nn (secs : Sl Oct) : ∀ (xs : List Ob) (p : Int × List Int), 0 ≤ p.1 → 0 ≤ (lkA secs xs p).1
  | [], p, h => h
  | x :: xs, p, h => lkA_nn secs xs _ (lkO_nn secs x p h _)
theorem lkA_sum (secs : Sl Oct) : ∀ (xs : List Ob) (p : Int × List Int), (∀ x ∈ xs, x.locs.xs.length = cntP x.data.n) → (lkA secs xs p).1 + (lkA secs xs p).2.length = p.1 + p.2.length + (locsL xs).length
  | [], p, _ => by simp [lkA, locsL]
  | x :: xs, p, h => by
    have h1 := lkA_sum secs xs (lkO secs x (cntP x.data.n) p) (fun y hy => h y (List.mem_cons_of_mem _ hy))
    have h2 := lkO_sum secs x p (cntP x.data.n)
    have h3 := h x (List.mem_cons_self ..)
    rw [show lkA secs (x :: xs) p = lkA secs xs (lkO secs x (cntP x.data.n) p) from rfl]
    rw [h1, h2]
    simp only [locsL, List.flatMap_cons, List.length_append, h3]
    push_cast
    omega
def strU (secs : Sl Oct) (fs : List Int) (k : Nat) : Nat := ((fs.take k).filter fun y => dcOk (secB secs y)).length
theorem strU_succ (secs : Sl Oct) (fs : List Int) (k : Nat) (h : k < fs.length) : strU secs fs (k + 1) = strU secs fs k + if dcOk (secB secs fs[k]) = true then 1 else 0 := by
  rw [strU, List.take_succ_eq_append_getElem h, List.filter_append, List.length_append]
  congr 1
  cases hb : dcOk (secB secs fs[k]) <;> simp [hb]
theorem strU_le (secs : Sl Oct) (fs : List Int) (k : Nat) : strU secs fs k ≤ k := by
  have h := List.length_filter_le (fun y => dcOk (secB secs y)) (fs.take k)
  rw [strU]
  have h2 : (fs.take k).length ≤ k := by rw [List.length_take]; omega
  omega
def lkP (s : Sto) : Int × List Int := lkX s.dev.secs s.idx.xs s.idx.n (lkA s.dev.secs s.objs.xs (0, []))
def lkF (s : Sto) : List Int := freeL (s.dev.secs.n : Int) (uni (usedL s))
def LkOut (w : World) (s : Sto) (e : Ending) (w' : World) : Prop :=
  (sCk s ≠ 0 ∧ e = .returned (.tuple #[.agg #[.int .i64 0, .slice none 0 0, .int .i64 0, .int .i64 0], .int .i64 9]) ∧ Ext w w') ∨
  (sCk s = 0 ∧ ∃ A c, e = .returned (.tuple #[.agg #[.int .i64 (lkP s).1, .slice A (lkP s).2.length c, .int .i64 (strU s.dev.secs (lkF s) (lkF s).length : Int), .int .i64 ((lkF s).length : Int)], .int .i64 0]) ∧
    w'.ownsRow w.heap.size 3 1 (.slice A (lkP s).2.length c) (lkP s).2.length (ints ((lkP s).2.mergeSort fun x y => decide (x ≤ y))) ∧ Ext w w')
set_option maxRecDepth 100000 in
set_option maxHeartbeats 8000000 in
theorem look_any (w : World) (s : Sto) (h : Sto.At w 0 w.heap.size s) (hs : s.small) (h9 : s.objs.n ≤ 9000000) : Calls Tryz.prog 12 #[.agg s.cells.toArray] w (LkOut w s) := by
  have on := fun W (hW : Ext w W) => Sto.At.on h hW (Nat.le_refl _)
  have HC := Lib.hid (fun W (hW : Ext w W) => scheck_any W s (on W hW) hs)
  have HPg := Lib.hid (fun W (hW : Ext w W) => pages_any W s (on W hW) hs h9)
  have HA := Lib.hid h
  by_cases h0 : sCk s = 0
  · have HG := Lib.hid (show sOk s = true by unfold sCk at h0; split at h0; assumption; cases h0)
    have hg := HG.out
    unfold sOk at hg
    simp only [Bool.and_eq_true, decide_eq_true_eq] at hg
    obtain ⟨⟨⟨_, hob⟩, hsp⟩, _⟩ := hg
    unfold objOk at hob
    simp only [Bool.and_eq_true, decide_eq_true_eq, Bool.not_eq_true'] at hob
    obtain ⟨⟨⟨hn256, _⟩, _⟩, hodd⟩ := hob
    obtain ⟨hsp2, ht2, ht8, hall, hul⟩ := spE_uni _ _ hsp
    have HAll := Lib.hid hall
    have HOdd := Lib.hid (fun x (hx : x ∈ s.objs.xs) => show x.data.n ≤ 65536 ∧ x.locs.n = cntP x.data.n by
      have hq : oddB x = false := by
        cases hb : oddB x
        · rfl
        · rw [List.any_eq_true.2 ⟨x, hx, hb⟩] at hodd; cases hodd
      unfold oddB at hq
      simp at hq
      exact ⟨hq.1, hq.2⟩)
    have HU := Lib.hid (show usedL s = s.idx.xs ++ locsL s.objs.xs from rfl)
    have HUs := Lib.hid hs.used
    have HFr := Lib.hid (fun W A c (hr : Rd W 0 W.heap.size A (ints (uni (usedL s)))) (hc : (uni (usedL s)).length ≤ c) (hm : c ≤ maxLen) => show Calls Tryz.prog 36 #[.int .i64 (s.dev.secs.n : Int), .slice A (uni (usedL s)).length c] W (FrOut W 0 (lkF s)) from by
      have hf := spfree_any W (s.dev.secs.n : Int) ⟨A, (uni (usedL s)).length, c, uni (usedL s)⟩ ⟨rfl, hc, hm, by rw [ints_flat]; exact hr, fun y hy => by
        rcases List.mem_append.1 ((mem_uni _).1 hy) with hy | hy
        · exact HA.out.idx.all y hy
        · obtain ⟨x, hx, hy⟩ := List.mem_flatMap.1 hy
          exact (HA.out.objs.all x hx).locs.all y hy⟩ (Nat.le_trans (uni_len _) HUs.out)
      rw [hsp2] at hf
      exact hf)
    have HFm := Lib.hid (fun y (hy : y ∈ lkF s) => show 2 ≤ y ∧ y < (s.dev.secs.n : Int) by
      have := (mem_freeL ht2).1 hy
      exact ⟨this.1, this.2.1⟩)
    have HFl := Lib.hid (show (lkF s).length ≤ 8192 by
      have := foldDel_len (uni (usedL s)) (upI ((s.dev.secs.n : Int) - 2).toNat)
      rw [upI_len] at this
      show (freeL _ _).length ≤ _
      unfold freeL
      omega)
    have HOut := Lib.hid (fun e w' => show _ → LkOut w s e w' from fun hh => .inr ⟨h0, hh⟩)
    have HSu := Lib.hid (fun k => show (lkA s.dev.secs (s.objs.xs.take k) (0, [])).1 + (lkA s.dev.secs (s.objs.xs.take k) (0, [])).2.length ≤ 10000000 by
      rw [lkA_sum _ _ _ (fun x hx => by rw [← (HA.out.objs.all x (List.mem_of_mem_take hx)).locs.len]; exact (HOdd.out x (List.mem_of_mem_take hx)).2)]
      have h1 : (locsL (s.objs.xs.take k)).length ≤ (locsL s.objs.xs).length := by
        have h3 := congrArg (fun l => (locsL l).length) (List.take_append_drop k s.objs.xs)
        simp only [locsL, List.flatMap_append, List.length_append] at h3 ⊢
        omega
      have h2 := HUs.out
      rw [HU.out, List.length_append] at h2
      show (0 : Int) + ((0 : Nat) : Int) + _ ≤ _
      omega)
    have HP := Lib.hid (show lkP s = lkX s.dev.secs s.idx.xs s.idx.n (lkA s.dev.secs s.objs.xs (0, [])) from rfl)
    have hIn : s.idx.n ≤ 10000000 := by
      have h2 := HUs.out
      rw [HU.out, List.length_append] at h2
      rw [HA.out.idx.len]
      omega
    have hdn : s.dev.secs.n ≤ 8192 := by omega
    have HIx := Lib.hid (fun y (hy : y ∈ s.idx.xs) => show 0 ≤ y ∧ y < (s.dev.secs.n : Int) by
      have := HAll.out y (by rw [HU.out]; exact List.mem_append_left _ hy)
      omega)
    have HOx := Lib.hid (fun x (hx : x ∈ s.objs.xs) y (hy : y ∈ x.locs.xs) => show 0 ≤ y ∧ y < (s.dev.secs.n : Int) by
      have := HAll.out y (by rw [HU.out]; exact List.mem_append_right _ (List.mem_flatMap.2 ⟨x, hx, hy⟩))
      omega)
    have HON := Lib.hid (show s.objs.n = s.objs.xs.length from HA.out.objs.len)
    rw [h0] at HC
    generalize lkP s = P at *
    generalize lkF s = F at *
    clear on h hs h9 hsp hall hul hodd hsp2 ht2 ht8 h0 HG
    obtain ⟨⟨⟨sA, sn, sc, sx⟩, ⟨wA, wn, wc, wx⟩⟩, ⟨ut, uf, uo⟩, ⟨oA, on, oc, ox⟩, ⟨iA, im, ic, ix⟩⟩ := s
    simp only [Sto.cells, Sl.val] at *
    go_enter Tryz.func12, Tryz.ntmps12
    go_upto_region 1 with fail
    generalize hwH : World.alloc (World.alloc w _) _ = w1; have HH := Lib.hid (Heap.two hwH); clear hwH
    go_upto_region 5 with (first | (refine shl_load HH.out sizeSto (by kernel_rfl) rfl rfl rfl 1 rfl rfl ?_) | (go_at_call 13; (with_reducible refine (HC.out _ HH.out.ext).mono ?_); rintro e wC ⟨rfl, eC⟩; have HHn := Lib.hid (HH.out.later eC); clear HH eC; have HH := HHn; clear HHn))
    generalize hwA : World.alloc _ _ = w2
    have HH2 := Lib.hid ((HH.out.allocE hwA).row0 (e := 3) (size := 1))
    clear HH hwA
    have HH := HH2
    clear HH2
    obtain ⟨kb, hkb⟩ : ∃ b, b = wC.heap.size := ⟨_, rfl⟩
    obtain ⟨rb, hrb⟩ : ∃ b, b = w.heap.size + 1 := ⟨_, rfl⟩
    obtain ⟨sb, hsb⟩ : ∃ b, b = w.heap.size := ⟨_, rfl⟩
    rw [← hkb, ← hrb, ← hsb] at HH ⊢
    clear hkb hrb hsb
    go_upto_region 6 with (refine shl_load1 HH.out rfl rfl rfl 3 rfl rfl (by decide +kernel) ?_)
    go_loopw [27] (fun v wr => ∃ k : Nat, k ≤ on ∧ v = .int .i64 (k : Int) ∧ ∃ b, Hid (Heap w (itsP [It.box sb [.slice sA sn sc, .slice wA wn wc, .int .i64 ut, .int .i64 uf, .int .i64 uo, .slice oA on oc, .slice iA im ic], .box sb [], .box rb [.int .i64 0, .slice none 0 0, .int .i64 0, .int .i64 0], .box sb [.slice sA sn sc, .slice wA wn wc, .int .i64 ut, .int .i64 uf, .int .i64 uo, .slice oA on oc, .slice iA im ic]] 1 0 kb (.slice sA sn sc) (.slice wA wn wc) (.int .i64 ut) (.int .i64 uf) (.int .i64 uo) (.slice oA on oc) (.slice iA im ic) (.int .i64 0) (.int .i64 0) (lkA ⟨sA, sn, sc, sx⟩ (ox.take k) (0, [])) b) wr)) (fun v _ => on - (intOf v).toNat)
    case atStart => exact ⟨0, Nat.zero_le _, rfl, _, HH⟩
    case round =>
      clear HH
      obtain ⟨k, hk, rfl, b, HH⟩ := hrel
      by_cases hlt : k < on
      · have hkl : k < ox.length := by rw [← HON.out]; exact hlt
        obtain ⟨b1, o1, rfl, hb1, f0, f1, f2⟩ := rd_ob (HA.out.objs.rd.ext HH.out.ext (Nat.le_refl _)) hkl
        have HXA := Lib.hid (HA.out.objs.all _ (List.getElem_mem hkl))
        have HXO := Lib.hid (HOdd.out _ (List.getElem_mem hkl))
        have HXY := Lib.hid (HOx.out _ (List.getElem_mem hkl))
        have HSk := HSu.out k
        have HNk := lkA_nn ⟨sA, sn, sc, sx⟩ (ox.take k) (0, []) (Int.le_refl _)
        have HSt := Lib.hid (show lkA ⟨sA, sn, sc, sx⟩ (ox.take (k + 1)) (0, []) = lkO ⟨sA, sn, sc, sx⟩ ox[k] (cntP ox[k].data.n) (lkA ⟨sA, sn, sc, sx⟩ (ox.take k) (0, [])) by
          rw [List.take_succ_eq_append_getElem hkl, lkA_snoc])
        generalize lkA ⟨sA, sn, sc, sx⟩ (ox.take k) (0, []) = pk at *
        generalize hxx : ox[k] = x at *
        clear hxx
        have HXC := Lib.hid (show x.cells = [.string x.key, x.data.val, x.locs.val] from rfl)
        go_upto_region 8 with (first | (refine shl_store (HH.out.alloc _ _) sizeOb rfl rfl rfl rfl 0 rfl rfl rfl rfl ?_; clear HH; intro wS HHS; have HH := Lib.hid HHS; clear HHS))
        obtain ⟨tb, htb⟩ : ∃ b, b = wr.heap.size := ⟨_, rfl⟩
        rw [← htb] at HH ⊢
        have HH2 := Lib.hid (show Heap w (itsP [It.box tb x.cells, .box sb [], .box sb [], .box rb [.int .i64 0, .slice none 0 0, .int .i64 0, .int .i64 0], .box sb [.slice sA sn sc, .slice wA wn wc, .int .i64 ut, .int .i64 uf, .int .i64 uo, .slice (some ⟨b1, o1, none⟩) on oc, .slice iA im ic]] 2 1 kb (.slice sA sn sc) (.slice wA wn wc) (.int .i64 ut) (.int .i64 uf) (.int .i64 uo) (.slice (some ⟨b1, o1, none⟩) on oc) (.slice iA im ic) (.int .i64 0) (.int .i64 0) pk b) _ from HH.out)
        clear HH htb
        have HH := HH2
        clear HH2 f0 f1 f2
        go_wp2_with (refine shl_load HH.out sizeOb (by kernel_rfl) rfl rfl rfl 0 rfl rfl ?_)
        refine (lobj_any kb _ _ _ _ _ _ 0 0 pk b 2 1 (by decide) (by simp) (by simp) ⟨sA, sn, sc, sx⟩ x HH.out HA.out.dev.secs HXA.out HXO.out.2 HXO.out.1 HXY.out hdn HNk (by omega)).mono ?_
        rintro e w5 ⟨⟨v, rfl⟩, b5, h5⟩
        go_wp2_with fail
        go_roundw
        case rel =>
          refine ⟨k + 1, by omega, by go_num, b5, ?_⟩
          rw [HSt.out]
          exact Lib.hid h5.tail
        case measure => simp [intOf]; omega
      · obtain rfl : on = k := by omega
        have ht : ox.take on = ox := List.take_of_length_le (by rw [← HON.out]; exact Nat.le_refl _)
        rw [ht] at HH
        have HSk := HSu.out on
        rw [ht] at HSk
        have HNk := lkA_nn ⟨sA, sn, sc, sx⟩ ox (0, []) (Int.le_refl _)
        clear ht
        generalize lkA ⟨sA, sn, sc, sx⟩ ox (0, []) = pk at *
        have HX1 := lkX_sum ⟨sA, sn, sc, sx⟩ ix pk im
        have HX2 := lkX_nn ⟨sA, sn, sc, sx⟩ ix pk HNk im
        go_wp2_with fail
        refine (lidx_any kb _ _ _ _ _ 0 0 pk b 1 0 (by decide) (by simp) (by simp) ⟨sA, sn, sc, sx⟩ ⟨iA, im, ic, ix⟩ HH.out HA.out.dev.secs HA.out.idx hIn HIx.out hdn HNk (by omega)).mono ?_
        rintro e w5 ⟨⟨v, rfl⟩, b5, h5⟩
        rw [← HP.out] at HX1 HX2
        have HHd := Lib.hid (show Heap w (itsP [It.box sb [.slice sA sn sc, .slice wA wn wc, .int .i64 ut, .int .i64 uf, .int .i64 uo, .slice oA on oc, .slice iA im ic], .box sb [], .box rb [.int .i64 0, .slice none 0 0, .int .i64 0, .int .i64 0], .box sb [.slice sA sn sc, .slice wA wn wc, .int .i64 ut, .int .i64 uf, .int .i64 uo, .slice oA on oc, .slice iA im ic]] 1 0 kb (.slice sA sn sc) (.slice wA wn wc) (.int .i64 ut) (.int .i64 uf) (.int .i64 uo) (.slice oA on oc) (.slice iA im ic) (.int .i64 0) (.int .i64 0) P b5) w5.drew by rw [HP.out]; exact h5.drew)
        clear HH h5
        go_upto_region 11 with fail
        refine wp_region_held_drew (S := Heap w [.box sb [.slice sA sn sc, .slice wA wn wc, .int .i64 ut, .int .i64 uf, .int .i64 uo, .slice oA on oc, .slice iA im ic]]) (by kernel_rfl) (HHd.out.only 3 rfl) (fun hHeld => ?_)
        generalize World.drew w5 = wd at *
        refine tS 0 ?_; (try simp only [Act.put, lyA, lyB, lyC])
        refine tS 1 ?_; (try simp only [Act.put, lyA, lyB, lyC])
        refine tG 2 rfl (fun wT hST => sh_run_load1 hST rfl rfl 0 rfl rfl (by kernel_rfl)) hHeld ?_; (try simp only [Act.put, lyA, lyB, lyC])
        refine tS 3 ?_; (try simp only [Act.put, lyA, lyB, lyC])
        refine tG 4 rfl (fun wT hST => sh_run_load hST sizeSto (by kernel_rfl) rfl rfl 0 rfl (Nat.le_of_ble_eq_true rfl)) hHeld ?_; (try simp only [Act.put, lyA, lyB, lyC])
        clear hHeld
        refine oS 5 (fun K hK => ?_)
        go_simp
        refine (HPg.out _ HHd.out.ext).mono ?_
        rintro e w6 ⟨v6, rfl, hown6, e6⟩
        obtain ⟨A6, c6, rfl, k61, k62, _⟩ := own_form hown6
        have HH6 := Lib.hid (HHd.out.addRow e6 hown6)
        clear HHd hown6 e6
        go_wp2_with fail
        refine hK.out _ _ ((HH6).out.only 4 rfl) (fun hHeld => ?_); clear hK K; (try simp only [Act.put, lyA, lyB, lyC]); clear hHeld
        refine oS 6 (fun K hK => ?_)
        go_simp
        refine (HFr.out _ A6 c6 ((HH6.out.rowRd 0 rfl).m0) k61 k62).mono ?_
        rintro e w7 ⟨v7, rfl, hown7, e7⟩
        obtain ⟨A7, c7, rfl, k71, k72, _⟩ := own_form (hown7 rfl)
        have HH7 := Lib.hid (HH6.out.tail.addRow e7 (hown7 rfl))
        clear HH6 hown7 e7
        go_wp2_with fail
        refine hK.out _ _ ((HH7).out.only 4 rfl) (fun hHeld => ?_); clear hK K; (try simp only [Act.put, lyA, lyB, lyC])
        refine tS 7 ?_; (try simp only [Act.put, lyA, lyB, lyC])
        refine tS 8 ?_; (try simp only [Act.put, lyA, lyB, lyC])
        refine tS 10 ?_; (try simp only [Act.put, lyA, lyB, lyC])
        refine tS 9 ?_; (try simp only [Act.put, lyA, lyB, lyC])
        refine tS 11 ?_; (try simp only [Act.put, lyA, lyB, lyC])
        refine wpAnyH_done (by kernel_rfl) ?_ _
        clear hHeld
        obtain ⟨Ab, cb, rfl, _, _, _⟩ := own_form (HH7.out.rowAt 1 rfl)
        generalize hm : F.length = m at *
        have HM := Lib.hid hm
        clear hm
        have hm8 := HFl.out
        have HU0 := Lib.hid (show strU ⟨sA, sn, sc, sx⟩ F 0 = 0 from rfl)
        go_wp2_with fail
        go_loopw [49] (fun v wr => ∃ k : Nat, k ≤ m ∧ v = .int .i64 (k : Int) ∧ Hid (Heap w (.row 3 1 (.slice A7 m c7) m (ints F) :: (itsP [It.box sb [.slice sA sn sc, .slice wA wn wc, .int .i64 ut, .int .i64 uf, .int .i64 uo, .slice oA on oc, .slice iA im ic], .box sb [], .box rb [.int .i64 0, .slice none 0 0, .int .i64 0, .int .i64 0], .box sb [.slice sA sn sc, .slice wA wn wc, .int .i64 ut, .int .i64 uf, .int .i64 uo, .slice oA on oc, .slice iA im ic]] 1 0 kb (.slice sA sn sc) (.slice wA wn wc) (.int .i64 ut) (.int .i64 uf) (.int .i64 uo) (.slice oA on oc) (.slice iA im ic) (.int .i64 (strU ⟨sA, sn, sc, sx⟩ F k : Int)) (.int .i64 0) P (.slice Ab P.2.length cb))) wr)) (fun v _ => m - (intOf v).toNat)
        case atStart => exact ⟨0, Nat.zero_le _, rfl, HH7⟩
        case round =>
          clear HH7
          obtain ⟨k, hk, rfl, HH⟩ := hrel
          by_cases hlt2 : k < m
          · have hkl : k < F.length := by rw [HM.out]; exact hlt2
            obtain ⟨b7, o7, rfl, _, f0⟩ := rd_int2 (HH.out.rowRd 0 rfl) hkl
            have hy := HFm.out _ (List.getElem_mem hkl)
            have HSt := Lib.hid (strU_succ ⟨sA, sn, sc, sx⟩ F k hkl)
            have HSl := strU_le ⟨sA, sn, sc, sx⟩ F k
            generalize F[k] = y at *
            obtain ⟨q, rfl⟩ : ∃ q : Nat, y = (q : Int) := ⟨y.toNat, by omega⟩
            have HSn := Lib.hid (show sn = sx.length from HA.out.dev.secs.len)
            have hq : q < sx.length := by rw [← HSn.out]; omega
            have hqn : (q : Int) < (sn : Int) := hy.2
            obtain ⟨b8, o8, rfl, _, hb8, G⟩ := rd_flat (size := 1) (fun _ => rfl) (by omega) HA.out.dev.secs.rd hq
            have HSO := Lib.hid (HA.out.dev.secs.all _ (List.getElem_mem hq))
            have HSB := Lib.hid (show secB ⟨some ⟨b8, o8, none⟩, sn, sc, sx⟩ (q : Int) = (sx[q]).xs by simp [secB, List.getD, hq])
            have g0 := G 0 _ rfl
            simp only [Nat.mul_one, Nat.add_zero] at g0
            clear G hy
            generalize sx[q] = se at *
            obtain ⟨eA, en, ec, ex⟩ := se
            simp only [Sl.val] at g0
            have c1 := (Below.cell HH.out.ext hb8).trans g0
            rw [HSB.out] at HSt
            go_upto_region 15 with fail
            go_wp2_with (refine shl_load1 HH.out rfl rfl rfl 4 rfl rfl (by decide +kernel) ?_)
            refine (pgdec_any wr eA en ec ex HSO.out.len (HH.out.old HSO.out.rdb) HSO.out.le HSO.out.cap).mono ?_
            rintro e w9 ⟨v9, n9, he, hr9, e9⟩
            generalize hnx : (if dcOk ex = true then (dcX ex : Int) else 0) = vx at he
            generalize hne : (if dcOk ex = true then (0 : Int) else 21) = ne at he
            subst he
            have HNE := Lib.hid hne
            have HH9 := Lib.hid (HH.out.later e9)
            clear HH e9 hr9 hnx hne f0 g0 c1
            have HH := HH9
            clear HH9
            cases hOk : dcOk ex
            · rw [hOk] at HNE HSt
              obtain rfl : ne = 21 := HNE.out.symm
              go_wp2_with fail
              go_roundw
              case rel =>
                refine ⟨k + 1, by omega, by go_num, ?_⟩
                rw [HSt.out]
                exact HH
              case measure => simp [intOf]; omega
            · rw [hOk] at HNE HSt
              obtain rfl : ne = 0 := HNE.out.symm
              go_wp2_with (first | (refine shl_load1 HH.out rfl rfl rfl 2 rfl rfl (by decide +kernel) ?_) | (refine shl_store1 HH.out rfl rfl rfl rfl 2 rfl rfl rfl (by kernel_rfl) ?_; clear HH; intro wS HHS; have HH := Lib.hid HHS; clear HHS))
              go_roundw
              case rel =>
                refine ⟨k + 1, by omega, by go_num, ?_⟩
                rw [HSt.out]
                exact HH
              case measure => simp [intOf]; omega
          · obtain rfl : m = k := by omega
            have HH2 := Lib.hid HH.out.tail
            clear HH
            have HH := HH2
            clear HH2
            go_upto_region 20 with (first | (refine shl_store1 HH.out rfl rfl rfl rfl 1 rfl rfl rfl (by kernel_rfl) ?_; clear HH; intro wS HHS; have HH := Lib.hid HHS; clear HHS))
            go_wp2_with (refine shl_load1 HH.out rfl rfl rfl 1 rfl rfl (by decide +kernel) ?_)
            refine (sort_heap HH.out 0 rfl (by omega)).mono ?_
            rintro e w9 ⟨rfl, h9⟩
            have HH9 := Lib.hid h9
            clear HH h9
            have HH := HH9
            clear HH9
            go_wp2_with (first | (refine shl_load HH.out sizeKk (by kernel_rfl) rfl rfl rfl 1 rfl rfl ?_) | (refine shl_store HH.out sizeKk rfl rfl rfl rfl 2 rfl rfl rfl rfl ?_; clear HH; intro wS HHS; have HH := Lib.hid HHS; clear HHS))
            refine ret_cell2 sizeKk (by kernel_rfl) HH.out rfl rfl rfl 2 rfl rfl rfl ?_
            exact HOut.out _ _ ⟨Ab, cb, rfl, HH.out.rowAt 0 rfl, HH.out.ext⟩
  · have h9' : sCk s = 9 := by unfold sCk; rw [if_neg (fun q => h0 (by unfold sCk; rw [if_pos q]))]
    rw [h9'] at HC
    have HOut := Lib.hid (fun e w' => show _ → LkOut w s e w' from fun hh => .inl ⟨h0, hh⟩)
    clear on h hs h0 h9 h9'
    obtain ⟨⟨⟨sA, sn, sc, sx⟩, ⟨wA, wn, wc, wx⟩⟩, ⟨ut, uf, uo⟩, ⟨oA, on, oc, ox⟩, ⟨iA, im, ic, ix⟩⟩ := s
    simp only [Sto.cells, Sl.val] at *
    go_enter Tryz.func12, Tryz.ntmps12
    go_upto_region 1 with fail
    generalize hwH : World.alloc (World.alloc w _) _ = w1; have HH := Lib.hid (Heap.two hwH); clear hwH
    go_wp2_with (first | (refine shl_load HH.out sizeSto (by kernel_rfl) rfl rfl rfl 1 rfl rfl ?_) | (go_at_call 13; (with_reducible refine (HC.out _ HH.out.ext).mono ?_); rintro e wC ⟨rfl, eC⟩; have HHn := Lib.hid (HH.out.later eC); clear HH eC; have HH := HHn; clear HHn) | (refine shl_store HH.out sizeKk rfl rfl rfl rfl 0 rfl rfl rfl rfl ?_; clear HH; intro wS HHS; have HH := Lib.hid HHS; clear HHS))
    refine ret_cell2 sizeKk (by kernel_rfl) HH.out rfl rfl rfl 0 rfl rfl rfl ?_
    exact HOut.out _ _ ⟨rfl, HH.out.ext⟩
end Go.Proofs.YtfongpdeflfioaaGreat
/- The index's pages, as a device holds them. -/
namespace Go.Proofs.YtfongpdeflfioaaGreat
open Go.RowKit Go.Maps Go.Sort Go.Shelf
set_option linter.unusedVariables false
set_option linter.unusedSimpArgs false
theorem partO_pos (b : List UInt8) (k : Nat) (h : k < cntP b.length) : 0 < (partO b k).length := by
  unfold cntP at h
  rw [partO, List.length_take, List.length_drop]
  omega
theorem holds_page {a : Abs} (ha : a.holds) (k : Nat) (hk : k < a.X.length) : ∃ (q nx : Nat) (p : List UInt8), a.X[k] = (q : Int) ∧ q < a.S.length ∧ a.X.getD (k + 1) 0 = (nx : Int) ∧ nx < 8192 ∧ 0 < p.length ∧ p.length ≤ 52 ∧ a.S[q]? = some (pgB p (nx : Int)) := by
  have hU : a.used = a.X ++ a.O.flatMap fun o => o.2.2 := rfl
  have hlo : ∀ y ∈ a.X, 2 ≤ y ∧ y < (a.S.length : Int) := fun y hy => ha.ok.lo y (by rw [hU]; exact List.mem_append_left _ hy)
  have hO : a.O ≠ [] := fun e => by rw [ha.ok.xl e] at hk; exact absurd hk (Nat.not_lt_zero _)
  have h8 := ha.ok.n8
  have h1 := hlo _ (List.getElem_mem hk)
  have h2 : 0 ≤ a.X.getD (k + 1) 0 ∧ a.X.getD (k + 1) 0 < 8192 := by
    rcases Nat.lt_or_ge (k + 1) a.X.length with h | h
    · rw [List.getD_eq_getElem?_getD, List.getElem?_eq_getElem h, Option.getD_some]
      have := hlo _ (List.getElem_mem h)
      omega
    · rw [List.getD_eq_getElem?_getD, List.getElem?_eq_none h, Option.getD_none]; decide
  have h3 := ha.chain k hk
  refine ⟨(a.X[k]).toNat, (a.X.getD (k + 1) 0).toNat, partO (wB (idxS a.O)) k, by omega, by omega, by omega, by omega, ?_, partO_len _ _, ?_⟩
  · exact partO_pos _ _ (by rw [← ha.ok.xn hO]; exact hk)
  · rw [h3, Int.toNat_of_nonneg h2.1]
end Go.Proofs.YtfongpdeflfioaaGreat
/- What scrub.Look finds in a store that its device holds, one sector changed or none. -/
namespace Go.Proofs.YtfongpdeflfioaaGreat
open Go.RowKit Go.Maps Go.Sort Go.Shelf
set_option linter.unusedVariables false
set_option linter.unusedSimpArgs false
def ntL (p : Int × List Int) (L : List (Int × Bool)) : Int × List Int := L.foldl (fun p q => nt p q.1 q.2) p
theorem ntL_is : ∀ (L : List (Int × Bool)) (p : Int × List Int), ntL p L = (p.1 + ((L.filter fun q => q.2).length : Int), p.2 ++ (L.filter fun q => !q.2).map Prod.fst)
  | [], p => by simp [ntL]
  | q :: L, p => by
    have ih := ntL_is L (nt p q.1 q.2)
    rw [show ntL p (q :: L) = ntL (nt p q.1 q.2) L from rfl, ih]
    obtain ⟨y, ok⟩ := q
    cases ok <;> simp [nt]
    omega
theorem ntL_app (p : Int × List Int) (L M : List (Int × Bool)) : ntL p (L ++ M) = ntL (ntL p L) M := by simp [ntL]
def ckO (secs : Sl Oct) (x : Ob) (m : Nat) : List (Int × Bool) := (List.range m).map fun k => (x.locs.xs.getD k 0, okS (secB secs (x.locs.xs.getD k 0)) (partO x.data.xs k))
def ckX (secs : Sl Oct) (ix : List Int) (m : Nat) : List (Int × Bool) := (List.range m).map fun k => (ix.getD k 0, dcOk (secB secs (ix.getD k 0)) && decide ((dcX (secB secs (ix.getD k 0)) : Int) = ix.getD (k + 1) 0))
def ckA (s : Sto) : List (Int × Bool) := (s.objs.xs.flatMap fun x => ckO s.dev.secs x (cntP x.data.n)) ++ ckX s.dev.secs s.idx.xs s.idx.n
theorem lkP_is (s : Sto) : lkP s = ntL (0, []) (ckA s) := by
  have hO : ∀ (x : Ob) m p, lkO s.dev.secs x m p = ntL p (ckO s.dev.secs x m) := fun x m p => by
    rw [lkO, ntL, ckO, List.foldl_map]; rfl
  have hX : ∀ m p, lkX s.dev.secs s.idx.xs m p = ntL p (ckX s.dev.secs s.idx.xs m) := fun m p => by
    rw [lkX, ntL, ckX, List.foldl_map]; rfl
  have hA : ∀ (xs : List Ob) p, lkA s.dev.secs xs p = ntL p (xs.flatMap fun x => ckO s.dev.secs x (cntP x.data.n)) := fun xs => by
    induction xs with
    | nil => intro p; rfl
    | cons x xs ih =>
      intro p
      rw [List.flatMap_cons, ntL_app, ← hO]
      exact ih _
  rw [lkP, ckA, ntL_app, hX, hA]
theorem range_getD (l : List Int) (n : Nat) (h : l.length = n) : (List.range n).map (fun k => l.getD k 0) = l := by
  subst h
  apply List.ext_getElem
  · simp
  · intro i h1 h2
    simp [List.getD]
    rw [List.getElem?_eq_getElem h2]; rfl
theorem ckA_fst {s : Sto} {w : World} {lo hi : Nat} (h : Sto.At w lo hi s) (ha : s.abs.ok) : (ckA s).map Prod.fst = (s.objs.xs.flatMap fun x => x.locs.xs) ++ s.idx.xs := by
  have hO : ∀ xs : List Ob, (∀ x ∈ xs, x.locs.xs.length = cntP x.data.n) → (xs.flatMap fun x => ckO s.dev.secs x (cntP x.data.n)).map Prod.fst = xs.flatMap fun x => x.locs.xs := fun xs => by
    induction xs with
    | nil => intro _; rfl
    | cons x xs ih =>
      intro hx
      rw [List.flatMap_cons, List.flatMap_cons, List.map_append, ih fun y hy => hx y (List.mem_cons_of_mem _ hy)]
      congr 1
      rw [ckO, List.map_map]
      exact range_getD _ _ (hx x (List.mem_cons_self ..))
  rw [ckA, List.map_append]
  congr 1
  · exact hO _ fun x hx => by
      have h1 := (ha.fit (strip x) (List.mem_map_of_mem hx)).2
      rw [(h.objs.all x hx).data.len]; exact h1
  · rw [ckX, List.map_map]
    exact range_getD _ _ h.idx.len.symm
theorem ckA_ok {s : Sto} {w : World} {lo hi : Nat} (h : Sto.At w lo hi s) (a : Abs) (ha : a.holds) (hO : s.abs.O = a.O) (hX : s.abs.X = a.X) (z : Int)
    (hS : ∀ y : Nat, (y : Int) ≠ z → s.abs.S[y]? = a.S[y]?) (hz : ∀ b, s.abs.S[z.toNat]? = some b → z ∈ a.used → dcOk b = false) : ∀ q ∈ ckA s, q.2 = decide (q.1 ≠ z) := by
  have hxs : s.objs.xs.map strip = a.O := hO
  have hix : s.idx.xs = a.X := hX
  have hsec : ∀ y : Int, 0 ≤ y → secB s.dev.secs y = (s.abs.S[y.toNat]?).getD [] := fun y hy => by
    rw [secB]
    show _ = ((s.dev.secs.xs.map fun o => o.xs)[y.toNat]?).getD []
    rw [List.getElem?_map, List.getD_eq_getElem?_getD]
    cases s.dev.secs.xs[y.toNat]? <;> rfl
  have hlo : ∀ y ∈ a.used, 2 ≤ y ∧ y < (a.S.length : Int) := ha.ok.lo
  have key : ∀ y ∈ a.used, ∀ b, a.S[y.toNat]? = some b → ∀ ok : List UInt8 → Bool, (ok b = true) → (∀ e, dcOk e = false → ok e = false) → ok (secB s.dev.secs y) = decide (y ≠ z) := fun y hy b hb ok h1 h2 => by
    have h3 := hlo y hy
    rw [hsec y (by omega)]
    by_cases hyz : y = z
    · subst hyz
      have h4 : ∃ b', s.abs.S[y.toNat]? = some b' ∨ s.abs.S[y.toNat]? = none := by
        cases hq : s.abs.S[y.toNat]? with
        | none => exact ⟨[], .inr rfl⟩
        | some b' => exact ⟨b', .inl rfl⟩
      obtain ⟨b', h4 | h4⟩ := h4
      · rw [h4]
        simp only [ne_eq, not_true_eq_false, decide_false]
        exact h2 _ (hz b' h4 hy)
      · rw [h4]
        simp only [ne_eq, not_true_eq_false, decide_false]
        exact h2 _ (by decide)
    · have h5 := hS y.toNat (by omega)
      rw [h5, hb]
      simp [h1, hyz]
  have hUX : ∀ y ∈ a.X, y ∈ a.used := fun y hy => List.mem_append_left _ hy
  have hUO : ∀ o ∈ a.O, ∀ y ∈ o.2.2, y ∈ a.used := fun o ho y hy => List.mem_append_right _ (List.mem_flatMap.2 ⟨o, ho, hy⟩)
  intro q hq
  rw [ckA] at hq
  rcases List.mem_append.1 hq with hq | hq
  · obtain ⟨x, hx, hq⟩ := List.mem_flatMap.1 hq
    rw [ckO] at hq
    obtain ⟨k, hk, rfl⟩ := List.mem_map.1 hq
    have hk := List.mem_range.1 hk
    have hm : strip x ∈ a.O := by rw [← hxs]; exact List.mem_map_of_mem hx
    have hlen : x.locs.xs.length = cntP x.data.n := by
      rw [(h.objs.all x hx).data.len]; exact (ha.ok.fit _ hm).2
    have hkl : k < x.locs.xs.length := by rw [hlen]; exact hk
    have hg : x.locs.xs.getD k 0 = x.locs.xs[k] := by simp [List.getD, hkl]
    have hy : x.locs.xs[k] ∈ a.used := hUO _ hm _ (List.getElem_mem hkl)
    show okS (secB s.dev.secs (x.locs.xs.getD k 0)) (partO x.data.xs k) = decide (x.locs.xs.getD k 0 ≠ z)
    rw [hg]
    have hp := ha.objs _ hm k hkl
    have hpl : (partO x.data.xs k).length ≤ 52 := partO_len _ _
    obtain ⟨b1, b2, b3⟩ := pgB_back (partO x.data.xs k) 0 hpl (by decide)
    refine key _ hy _ hp (fun e => okS e (partO x.data.xs k)) ?_ ?_
    · show okS (pgB (partO x.data.xs k) ((0 : Nat) : Int)) _ = true
      rw [okS, b1, b2, b3]; simp
    · intro e he
      show okS e _ = false
      rw [okS, he]; rfl
  · rw [ckX] at hq
    obtain ⟨k, hk, rfl⟩ := List.mem_map.1 hq
    have hk := List.mem_range.1 hk
    have hkl : k < a.X.length := by rw [← hix, ← h.idx.len]; exact hk
    obtain ⟨y, nx, pt, hy1, hy2, hy3, hy4, hy5, hy6, hy7⟩ := holds_page ha k hkl
    have hg : s.idx.xs.getD k 0 = (y : Int) := by rw [hix, ← hy1]; simp [List.getD, hkl]
    have hg2 : s.idx.xs.getD (k + 1) 0 = (nx : Int) := by rw [hix]; exact hy3
    show (dcOk (secB s.dev.secs (s.idx.xs.getD k 0)) && decide ((dcX (secB s.dev.secs (s.idx.xs.getD k 0)) : Int) = s.idx.xs.getD (k + 1) 0)) = decide (s.idx.xs.getD k 0 ≠ z)
    rw [hg, hg2]
    obtain ⟨b1, b2, b3⟩ := pgB_back pt nx hy6 hy4
    refine key (y : Int) (by rw [← hy1]; exact hUX _ (List.getElem_mem hkl)) _ (by rw [show ((y : Int)).toNat = y by omega]; exact hy7) (fun e => dcOk e && decide ((dcX e : Int) = (nx : Int))) ?_ ?_
    · show (dcOk (pgB pt (nx : Int)) && decide ((dcX (pgB pt (nx : Int)) : Int) = (nx : Int))) = true
      rw [b1, b3]; simp
    · intro e he
      show (dcOk e && _) = false
      rw [he]; rfl
theorem filt_one {l : List Int} (hn : l.Nodup) (z : Int) : (l.filter fun y => decide (y = z)) = if z ∈ l then [z] else [] := by
  induction l with
  | nil => rfl
  | cons x l ih =>
    rw [List.nodup_cons] at hn
    rw [List.filter_cons, ih hn.2]
    by_cases hx : x = z
    · subst hx
      simp [hn.1]
    · have : z ≠ x := fun e => hx e.symm
      simp [hx, this]
theorem filt_two : ∀ L : List (Int × Bool), (L.filter fun q => q.2).length + (L.filter fun q => !q.2).length = L.length
  | [] => rfl
  | (y, ok) :: L => by
    have ih := filt_two L
    cases ok <;> simp <;> omega
theorem lkP_held {s : Sto} {w : World} {lo hi : Nat} (h : Sto.At w lo hi s) (hk : s.abs.ok) (a : Abs) (ha : a.holds) (hO : s.abs.O = a.O) (hX : s.abs.X = a.X) (z : Int)
    (hS : ∀ y : Nat, (y : Int) ≠ z → s.abs.S[y]? = a.S[y]?) (hz : ∀ b, s.abs.S[z.toNat]? = some b → z ∈ a.used → dcOk b = false) : (lkP s).2 = (if z ∈ a.used then [z] else []) ∧ (lkP s).1 + ((lkP s).2.length : Int) = (a.used.length : Int) := by
  have h1 := ckA_ok h a ha hO hX z hS hz
  have h2 := ckA_fst h hk
  have h3 : (ckA s).map Prod.fst = (a.O.flatMap fun o => o.2.2) ++ a.X := by
    rw [h2, show s.idx.xs = a.X from hX]
    congr 1
    rw [← hO]
    show _ = (s.objs.xs.map strip).flatMap _
    rw [List.flatMap_map]; rfl
  have hn : ((a.O.flatMap fun o => o.2.2) ++ a.X).Nodup := (List.perm_append_comm.nodup_iff).2 ha.ok.nd
  have hm : ∀ y, y ∈ (a.O.flatMap fun o => o.2.2) ++ a.X ↔ y ∈ a.used := fun y => by
    rw [Abs.used, List.mem_append, List.mem_append]; exact or_comm
  rw [lkP_is, ntL_is]
  have e2 : ((ckA s).filter fun q => !q.2).map Prod.fst = if z ∈ a.used then [z] else [] := by
    have e3 : ((ckA s).filter fun q => !q.2) = (ckA s).filter ((fun y => decide (y = z)) ∘ Prod.fst) := List.filter_congr fun q hq => by rw [h1 q hq]; simp
    rw [e3, ← List.filter_map, h3, filt_one hn z]
    simp only [hm]
  refine ⟨by simpa using e2, ?_⟩
  have hl : (ckA s).length = a.used.length := by
    rw [← List.length_map (f := Prod.fst), h3, Abs.used, List.length_append, List.length_append, Nat.add_comm]
  have hp : ((ckA s).filter fun q => q.2).length + ((ckA s).filter fun q => !q.2).length = (ckA s).length := by
    exact filt_two _
  simp only [List.nil_append, List.length_map, Int.zero_add]
  omega
theorem small_abs_objs {s : Sto} {w : World} {lo hi : Nat} (h : Sto.At w lo hi s) (hk : s.abs.ok) : s.objs.n ≤ 256 := by
  have hn : s.objs.n = s.abs.O.length := by rw [h.objs.len]; show _ = (s.objs.xs.map strip).length; rw [List.length_map]
  rw [hn]; exact hk.cnt
theorem free_len {total : Nat} {l : List Int} (h2 : 2 ≤ total) (hn : l.Nodup) (hlo : ∀ y ∈ l, 2 ≤ y ∧ y < (total : Int)) : (freeL (total : Int) (uni l)).length + l.length = total - 2 := by
  have hf := free_nodup (total : Int) (uni l)
  have hm : ∀ x, x ∈ freeL (total : Int) (uni l) ↔ 2 ≤ x ∧ x < (total : Int) ∧ x ∉ l := fun x => by
    rw [mem_freeL (by omega), mem_uni]
  have hu : (upI (total - 2)).Nodup := by
    rw [upI, List.nodup_iff_pairwise_ne, List.pairwise_map]
    exact List.Pairwise.imp (fun h => by omega) (List.nodup_iff_pairwise_ne.1 List.nodup_range)
  have hp : (freeL (total : Int) (uni l) ++ l).Perm (upI (total - 2)) := by
    refine (List.perm_ext_iff_of_nodup ?_ hu).2 fun x => ?_
    · rw [List.nodup_append]
      exact ⟨hf, hn, fun x hx y hy e => ((hm x).1 hx).2.2 (e ▸ hy)⟩
    · rw [List.mem_append, hm, upI, List.mem_map]
      constructor
      · rintro (⟨h1, h3, _⟩ | h)
        · exact ⟨(x - 2).toNat, List.mem_range.2 (by omega), by omega⟩
        · have := hlo x h
          exact ⟨(x - 2).toNat, List.mem_range.2 (by omega), by omega⟩
      · rintro ⟨j, hj, rfl⟩
        have := List.mem_range.1 hj
        by_cases hx : (j : Int) + 2 ∈ l
        · exact .inr hx
        · exact .inl ⟨by omega, by omega, hx⟩
  have := hp.length_eq
  rw [List.length_append, upI_len] at this
  exact this
end Go.Proofs.YtfongpdeflfioaaGreat
/- slices.Equal of numbers, scrub.same, slices.EqualFunc of objects: of what is the same. -/
namespace Go.Proofs.YtfongpdeflfioaaGreat
open Go.RowKit Go.Maps Go.Sort Go.Shelf
set_option linter.unusedVariables false
set_option linter.unusedSimpArgs false
set_option maxRecDepth 100000 in
set_option maxHeartbeats 4000000 in
theorem equali_same (w : World) (A B : Option Addr) (n c d lo hi lo' hi' : Nat) (l : List Int) (hn : n = l.length) (hb : n ≤ 9223372036854775807) (hr : Rd w lo hi A (ints l)) (hh : hi ≤ w.heap.size) (hr' : Rd w lo' hi' B (ints l)) (hh' : hi' ≤ w.heap.size) :
    Calls Tryz.prog 48 #[.slice A n c, .slice B n d] w fun e w' => e = .returned (.bool true) ∧ Ext w w' := by
  have Hn := Lib.hid hn
  clear hn
  go_enter Tryz.func48, Tryz.ntmps48
  go_wp2_with fail
  go_loopw [5, 13] (fun _ i wr => ∃ k : Nat, k ≤ n ∧ i = .int .i64 k ∧ Ext w wr) (fun _ i _ => n - (intOf i).toNat)
  case atStart => exact ⟨0, Nat.zero_le _, rfl, Ext.refl _⟩
  case round =>
    obtain ⟨k, hk, rfl, e6⟩ := hrel
    by_cases hlt : k < n
    · obtain ⟨b1, o1, rfl, _, f0⟩ := rd_int2 (hr.ext e6 hh) (k := k) (by rw [← Hn.out]; omega)
      obtain ⟨b2, o2, rfl, _, d0⟩ := rd_int2 (hr'.ext e6 hh') (k := k) (by rw [← Hn.out]; omega)
      generalize l[k]'(by rw [← Hn.out]; omega) = y at *
      go_wp2_with fail
      go_quiet (fail)
      go_wp2_with fail
      go_roundw
      case rel => exact ⟨k + 1, by omega, by go_num, by exact blo⟩
      case measure => simp [intOf]; omega
    · go_wp2_with fail
      go_ret
      exact ⟨rfl, e6⟩
theorem sizeOb' : (Tryz.prog.info? 35).map (·.size) = some 3 := by kernel_rfl
set_option maxRecDepth 100000 in
set_option maxHeartbeats 4000000 in
theorem same_yes (w : World) (x y : Ob) (hx : Ob.At w 0 w.heap.size x) (hy : Ob.At w 0 w.heap.size y) (h : strip x = strip y) :
    Calls Tryz.prog 50 #[.agg x.cells.toArray, .agg y.cells.toArray] w fun e w' => e = .returned (.bool true) ∧ Ext w w' := by
  obtain ⟨xk, ⟨dA, dn, dc, dx⟩, ⟨qA, qn, qc, qx⟩⟩ := x
  obtain ⟨yk, ⟨eA, en, ec, ex⟩, ⟨pA, pn, pc, px⟩⟩ := y
  simp only [strip, Prod.mk.injEq] at h
  obtain ⟨rfl, rfl, rfl⟩ := h
  obtain rfl : dn = en := hx.data.len.trans hy.data.len.symm
  obtain rfl : qn = pn := hx.locs.len.trans hy.locs.len.symm
  have HX := Lib.hid hx
  have HY := Lib.hid hy
  have HEq := Lib.hid (fun W (hW : Ext w W) => bequal_any W dA eA dn dc dn ec dx dx hx.data.len hy.data.len (Rd.at hx.data.rdb hW (Nat.le_refl _)) (Rd.at hy.data.rdb hW (Nat.le_refl _)))
  have HEi := Lib.hid (fun W (hW : Ext w W) => equali_same W qA pA qn qc pc 0 W.heap.size 0 W.heap.size qx hx.locs.len (Nat.le_trans (Nat.le_trans hx.locs.le hx.locs.cap) (by decide)) (Rd.at hx.locs.rdi hW (Nat.le_refl _)) (Nat.le_refl _) (Rd.at hy.locs.rdi hW (Nat.le_refl _)) (Nat.le_refl _))
  clear hx hy
  simp only [Ob.cells, Sl.val]
  go_enter Tryz.func50, Tryz.ntmps50
  go_upto_region 1 with fail
  generalize hwH : World.alloc (World.alloc w _) _ = w1; have HH := Lib.hid (Heap.two hwH); clear hwH
  have HTr := Lib.hid (show decide (dx = dx) = true from decide_eq_true rfl)
  rw [HTr.out] at HEq
  have g0 := (HH.out.boxAt 0 rfl).cell 0 _ rfl
  have g1 := (HH.out.boxAt 0 rfl).cell 1 _ rfl
  have f0 := (HH.out.boxAt 1 rfl).cell 0 _ rfl
  have f1 := (HH.out.boxAt 1 rfl).cell 1 _ rfl
  go_wp2_with fail
  clear g0 g1 f0 f1
  refine (HEq.out _ HH.out.ext).mono ?_
  rintro e w2 ⟨rfl, e2⟩
  have HH2 := Lib.hid (HH.out.later e2)
  clear HH e2
  have g2 := (HH2.out.boxAt 0 rfl).cell 2 _ rfl
  have f2 := (HH2.out.boxAt 1 rfl).cell 2 _ rfl
  go_wp2_with fail
  clear g2 f2
  refine (HEi.out _ HH2.out.ext).mono ?_
  rintro e w3 ⟨rfl, e3⟩
  go_wp2_with fail
  go_ret
  exact ⟨rfl, HH2.out.ext.trans e3⟩
theorem call_same : ∀ args w, (callFunc 50 args).run Tryz.prog w = .ok (.enter 50 args) w := callF Tryz.func50 (by kernel_rfl) rfl
set_option maxRecDepth 100000 in
set_option maxHeartbeats 4000000 in
theorem eqf_yes (w : World) (a b : Sl Ob) (ha : Sl.At w 0 w.heap.size Ob.cells (Ob.At w 0 w.heap.size) a) (hb : Sl.At w 0 w.heap.size Ob.cells (Ob.At w 0 w.heap.size) b) (h : a.xs.map strip = b.xs.map strip) :
    Calls Tryz.prog 49 #[a.val, b.val, .func (.func 50) #[] #[]] w fun e w' => e = .returned (.bool true) ∧ Ext w w' := by
  have hl : a.xs.length = b.xs.length := by have := congrArg List.length h; simpa using this
  obtain ⟨aA, n, ac, ax⟩ := a
  obtain ⟨bA, bn, bc, bx⟩ := b
  obtain rfl : n = bn := ha.len.trans (hl.trans hb.len.symm)
  have HA := Lib.hid ha
  have HB := Lib.hid hb
  have Hn := Lib.hid (show n = ax.length from ha.len)
  have hnm : n ≤ 9223372036854775807 := Nat.le_trans (Nat.le_trans ha.le ha.cap) (by decide)
  have HS := Lib.hid (fun (k : Nat) (h1 : k < ax.length) (h2 : k < bx.length) => show strip ax[k] = strip bx[k] by
    have h3 := congrArg (fun l => l[k]?) h
    simpa [h1, h2] using h3)
  have Hl := Lib.hid hl
  clear ha hb h hl
  simp only [Sl.val]
  go_enter Tryz.func49, Tryz.ntmps49
  go_wp2_with fail
  go_loopw [7, 8, 9, 17] (fun _ _ _ i wr => ∃ k : Nat, k ≤ n ∧ i = .int .i64 k ∧ Ext w wr) (fun _ _ _ i _ => n - (intOf i).toNat)
  case atStart => exact ⟨0, Nat.zero_le _, rfl, Ext.refl _⟩
  case round =>
    obtain ⟨k, hk, rfl, e6⟩ := hrel
    by_cases hlt : k < n
    · have l1 : k < ax.length := by rw [← Hn.out]; exact hlt
      have l2 : k < bx.length := by rw [← Hl.out]; exact l1
      obtain ⟨b1, o1, hA1, hb1, f0, f1, f2⟩ := rd_ob HA.out.rd l1
      obtain ⟨b2, o2, hA2, hb2, d0, d1, d2⟩ := rd_ob HB.out.rd l2
      dsimp only at hA1 hA2
      subst hA1
      subst hA2
      have HX := Lib.hid (fun W (hW : Ext w W) => same_yes W ax[k] bx[k] (Ob.At.on (HA.out.all _ (List.getElem_mem l1)) hW (Nat.le_refl _)) (Ob.At.on (HB.out.all _ (List.getElem_mem l2)) hW (Nat.le_refl _)) (HS.out k l1 l2))
      generalize ax[k] = x at *
      generalize bx[k] = y at *
      obtain ⟨xk, ⟨dA, dn, dc, dx⟩, ⟨qA, qn, qc, qx⟩⟩ := x
      obtain ⟨yk, ⟨eA, en, ec, ex⟩, ⟨pA, pn, pc, px⟩⟩ := y
      simp only [Sl.val, Ob.cells] at *
      have c0 := (Below.cell e6 hb1).trans f0
      have c1 := (Below.cell e6 hb1).trans f1
      have c2 := (Below.cell e6 hb1).trans f2
      have HD := Lib.hid (⟨d0, d1, d2⟩ : w.cell? ⟨b2, o2 + k * 3, none⟩ = _ ∧ w.cell? ⟨b2, o2 + k * 3 + 1, none⟩ = _ ∧ w.cell? ⟨b2, o2 + k * 3 + 2, none⟩ = _)
      clear f0 f1 f2 d0 d1 d2 l1 l2
      have HH := Lib.hid ((Heap.start w).later e6)
      clear e6
      have hkn : (k : Int) < (n : Int) := by omega
      go_upto_region 6 with (refine shl_store (HH.out.alloc _ _) sizeOb' rfl rfl rfl rfl 0 rfl rfl rfl rfl ?_; clear HH; intro wS HHS; have HH := Lib.hid HHS; clear HHS)
      clear c0 c1 c2
      have c0 := (Below.cell HH.out.ext hb2).trans HD.out.1
      have c1 := (Below.cell HH.out.ext hb2).trans HD.out.2.1
      have c2 := (Below.cell HH.out.ext hb2).trans HD.out.2.2
      go_upto_region 7 with (refine shl_store (HH.out.alloc _ _) sizeOb' rfl rfl rfl rfl 0 rfl rfl rfl rfl ?_; clear HH; intro wS HHS; have HH := Lib.hid HHS; clear HHS)
      clear c0 c1 c2
      go_wp2_with (first | (refine shl_load HH.out sizeOb' (by kernel_rfl) rfl rfl rfl 0 rfl rfl ?_) | (refine shl_load HH.out sizeOb' (by kernel_rfl) rfl rfl rfl 1 rfl rfl ?_))
      refine (HX.out _ HH.out.ext).mono ?_
      rintro e w3 ⟨rfl, e3⟩
      have HE := Lib.hid (HH.out.ext.trans e3)
      clear HH e3 HD HX
      go_wp2_with fail
      go_roundw
      case rel => exact ⟨k + 1, by omega, by go_num, HE.out⟩
      case measure => (first | (simp [intOf]; done) | (simp [intOf]; omega))
    · go_wp2_with fail
      go_ret
      exact ⟨rfl, e6⟩
end Go.Proofs.YtfongpdeflfioaaGreat
/- scrub.Look and scrub.Sound of a store that its device holds, one sector changed or none. -/
namespace Go.Proofs.YtfongpdeflfioaaGreat
open Go.RowKit Go.Maps Go.Sort Go.Shelf
set_option linter.unusedVariables false
set_option linter.unusedSimpArgs false
structure Hz (s : Sto) (a : Abs) (z : Int) : Prop where
  ok : s.abs.ok
  wait : s.dev.waits.n = 0
  holds : a.holds
  O : s.abs.O = a.O
  X : s.abs.X = a.X
  S : ∀ y : Nat, (y : Int) ≠ z → s.abs.S[y]? = a.S[y]?
  z : ∀ b, s.abs.S[z.toNat]? = some b → z ∈ a.used → dcOk b = false
theorem Hz.of {s : Sto} (h : s.abs.holds) (hw : s.dev.waits.n = 0) : Hz s s.abs 0 := ⟨h.ok, hw, h, rfl, rfl, fun _ _ => rfl, fun _ _ hz => by have := h.ok.lo 0 hz; omega⟩
def bdL (a : Abs) (z : Int) : List Int := if z ∈ a.used then [z] else []
theorem look_held (w : World) (s : Sto) (a : Abs) (z : Int) (h : Sto.At w 0 w.heap.size s) (hz : Hz s a z) : Calls Tryz.prog 12 #[.agg s.cells.toArray] w fun e w' =>
    ∃ (A : Option Addr) (c st fl : Nat), e = .returned (.tuple #[.agg #[.int .i64 ((a.used.length : Int) - ((bdL a z).length : Int)), .slice A (bdL a z).length c, .int .i64 (st : Int), .int .i64 (fl : Int)], .int .i64 0]) ∧ st ≤ fl ∧ fl + a.used.length + 2 = s.dev.secs.n ∧
      w'.ownsRow w.heap.size 3 1 (.slice A (bdL a z).length c) (bdL a z).length (ints (bdL a z)) ∧ Ext w w' := by
  obtain ⟨l1, l2⟩ := lkP_held h hz.ok a hz.holds hz.O hz.X z hz.S hz.z
  have hu : s.abs.used = a.used := by rw [Abs.used, Abs.used, hz.O, hz.X]
  have hs := secv_len h
  have hn2 := hz.ok.n2
  have hf := free_len hn2 hz.ok.nd (fun y hy => hz.ok.lo y hy)
  rw [hs] at hf hn2
  refine (look_any w s h (small_abs h hz.ok) (Nat.le_trans (small_abs_objs h hz.ok) (by decide))).mono ?_
  rintro e w' (⟨h0, _⟩ | ⟨_, A, c, rfl, ho, ee⟩)
  · exact absurd ((sck_abs h).2 ⟨hz.ok, hz.wait⟩) h0
  · change (lkP s).2 = bdL a z at l1
    have e1 : (lkP s).1 = (a.used.length : Int) - ((bdL a z).length : Int) := by rw [l1] at l2; omega
    have e2 : ((bdL a z).mergeSort fun x y => decide (x ≤ y)) = bdL a z := by
      unfold bdL
      split
      · exact List.mergeSort_singleton _
      · exact List.mergeSort_nil
    rw [l1, e2] at ho
    rw [l1, e1]
    refine ⟨A, c, _, _, rfl, strU_le _ _ _, ?_, ho, ee⟩
    rw [lkF, ← used_abs, ← hu]
    omega
set_option maxRecDepth 100000 in
set_option maxHeartbeats 8000000 in
theorem sound_z (w : World) (s : Sto) (a : Abs) (z : Int) (h : Sto.At w 0 w.heap.size s) (hz : Hz s a z) (hd : z ∉ a.used → s.abs.holds) : Calls Tryz.prog 14 #[.agg s.cells.toArray] w fun e w' => e = .returned (.bool (decide (z ∉ a.used))) ∧ Ext w w' := by
  have HA := Lib.hid h
  have HL := Lib.hid (fun W (hW : Ext w W) => look_held W s a z (h.on hW (Nat.le_refl _)) hz)
  have HS := Lib.hid (fun (W : World) (hW : Ext w W) => show Sto.At W 0 W.heap.size s from h.on hW (Nat.le_refl _))
  have HZ := Lib.hid hz
  clear h hz
  by_cases hu : z ∈ a.used
  · have hb : bdL a z = [z] := if_pos hu
    rw [show decide (z ∉ a.used) = false from decide_eq_false fun h => h hu]
    rw [hb] at HL
    simp only [Sto.cells, Dev.cells, Sl.val] at *
    clear hd hu hb
    go_enter Tryz.func14, Tryz.ntmps14
    go_upto_region 1 with fail
    generalize hwH : World.alloc w _ = w1; have HH := Lib.hid (Heap.one hwH); clear hwH
    go_wp2_with (refine shl_load HH.out sizeSto (by kernel_rfl) rfl rfl rfl 0 rfl rfl ?_)
    refine (HL.out _ HH.out.ext).mono ?_
    rintro e w2 ⟨A, c, st, fl, rfl, _, _, _, e2⟩
    have HH2 := Lib.hid (HH.out.later e2)
    clear HH e2 HL
    have HH := HH2
    clear HH2
    go_upto_region 2 with (refine shl_store (HH.out.alloc _ _) sizeKk rfl rfl rfl rfl 0 rfl rfl rfl rfl ?_; clear HH; intro wS HHS; have HH := Lib.hid HHS; clear HHS)
    have g1 := (HH.out.boxAt 0 rfl).cell 1 _ rfl
    go_wp2_with fail
    go_ret
    exact ⟨rfl, HH.out.ext⟩
  · have hb : bdL a z = [] := if_neg hu
    rw [show decide (z ∉ a.used) = true from decide_eq_true hu]
    rw [hb] at HL
    have HD := Lib.hid (hd hu)
    clear hd hu hb
    simp only [Sto.cells, Dev.cells, Sl.val] at *
    go_enter Tryz.func14, Tryz.ntmps14
    go_upto_region 1 with fail
    generalize hwH : World.alloc w _ = w1; have HH := Lib.hid (Heap.one hwH); clear hwH
    obtain ⟨sb, hsb⟩ : ∃ b, b = w.heap.size := ⟨_, rfl⟩
    rw [← hsb] at HH ⊢
    clear hsb
    go_wp2_with (refine shl_load HH.out sizeSto (by kernel_rfl) rfl rfl rfl 0 rfl rfl ?_)
    refine (HL.out _ HH.out.ext).mono ?_
    rintro e w2 ⟨A, c, st, fl, rfl, _, _, _, e2⟩
    have HH2 := Lib.hid (HH.out.later e2)
    clear HH e2 HL
    have HH := HH2
    clear HH2
    go_upto_region 2 with (refine shl_store (HH.out.alloc _ _) sizeKk rfl rfl rfl rfl 0 rfl rfl rfl rfl ?_; clear HH; intro wS HHS; have HH := Lib.hid HHS; clear HHS)
    have g1 := (HH.out.boxAt 0 rfl).cell 1 _ rfl
    go_upto_region 4 with fail
    clear g1
    have HH2 := Lib.hid (show Heap w [.box sb [.slice s.dev.secs.A s.dev.secs.n s.dev.secs.c, .slice s.dev.waits.A s.dev.waits.n s.dev.waits.c, .int .i64 s.ub.txg, .int .i64 s.ub.first, .int .i64 s.ub.objs, .slice s.objs.A s.objs.n s.objs.c, .slice s.idx.A s.idx.n s.idx.c]] wS from HH.out.tail)
    clear HH
    have HH := HH2
    clear HH2
    have g0 := (HH.out.boxAt 0 rfl).cell 0 _ rfl
    have g1 := (HH.out.boxAt 0 rfl).cell 1 _ rfl
    go_wp2_with fail
    clear g0 g1
    refine (open_ok wS s.dev (HS.out _ HH.out.ext).dev HZ.out.wait s.abs rfl HD.out).mono ?_
    rintro e w3 ⟨o, rfl, hoabs, how, hoA, e3⟩
    have HOA := Lib.hid (fun (W : World) (hW : Ext w3 W) => show Sto.At W 0 W.heap.size o from (hoA.on hW (Nat.le_refl _)).imp fun _ _ hr => hr.m0)
    have HO := Lib.hid hoabs
    have HH2 := Lib.hid (HH.out.later e3)
    clear HH e3 hoabs how hoA
    have HEi := Lib.hid (fun (W : World) (h1 : Ext w3 W) (h2 : Ext w W) => show Calls Tryz.prog 48 #[.slice o.idx.A o.idx.n o.idx.c, .slice s.idx.A s.idx.n s.idx.c] W (fun e w' => e = .returned (.bool true) ∧ Ext W w') from by
      have p1 := (HOA.out W h1).idx
      have p2 := (HS.out W h2).idx
      have p3 : o.idx.xs = s.idx.xs := congrArg Abs.X HO.out
      have p4 : o.idx.n = s.idx.n := by rw [p1.len, p2.len, p3]
      have p5 := p1.rdi
      rw [p3] at p5
      rw [p4]
      exact equali_same W _ _ _ _ _ 0 W.heap.size 0 W.heap.size s.idx.xs p2.len (Nat.le_trans (Nat.le_trans p2.le p2.cap) (by decide)) p5 (Nat.le_refl _) p2.rdi (Nat.le_refl _))
    have HEf := Lib.hid (fun (W : World) (h1 : Ext w3 W) (h2 : Ext w W) => show Calls Tryz.prog 49 #[.slice o.objs.A o.objs.n o.objs.c, .slice s.objs.A s.objs.n s.objs.c, .func (.func 50) #[] #[]] W (fun e w' => e = .returned (.bool true) ∧ Ext W w') from
      eqf_yes W o.objs s.objs (HOA.out W h1).objs (HS.out W h2).objs (congrArg Abs.O HO.out))
    have HU := Lib.hid (show o.ub = s.ub from congrArg Abs.u HO.out)
    have HE3 := Lib.hid (Ext.refl w3)
    have HW3 := Lib.hid HH2.out.ext
    have HSc := Lib.hid (fun (W : World) (hW : Ext w3 W) => show W.cell? ⟨sb, 2, none⟩ = some (.int .i64 s.ub.txg) ∧ W.cell? ⟨sb, 3, none⟩ = some (.int .i64 s.ub.first) ∧ W.cell? ⟨sb, 4, none⟩ = some (.int .i64 s.ub.objs) ∧ W.cell? ⟨sb, 5, none⟩ = some (.slice s.objs.A s.objs.n s.objs.c) ∧ W.cell? ⟨sb, 6, none⟩ = some (.slice s.idx.A s.idx.n s.idx.c) from by
      have hl := (HH2.out.boxAt 0 rfl).lt
      exact ⟨(Below.cell hW hl).trans ((HH2.out.boxAt 0 rfl).cell 2 _ rfl), (Below.cell hW hl).trans ((HH2.out.boxAt 0 rfl).cell 3 _ rfl), (Below.cell hW hl).trans ((HH2.out.boxAt 0 rfl).cell 4 _ rfl), (Below.cell hW hl).trans ((HH2.out.boxAt 0 rfl).cell 5 _ rfl), (Below.cell hW hl).trans ((HH2.out.boxAt 0 rfl).cell 6 _ rfl)⟩)
    clear HH2 HO HOA
    have HH := Lib.hid (Heap.start w3)
    simp only [Sto.cells, Dev.cells, Sl.val]
    go_upto_region 5 with (refine shl_store (HH.out.alloc _ _) sizeSto rfl rfl rfl rfl 0 rfl rfl rfl rfl ?_; clear HH; intro wS HHS; have HH := Lib.hid HHS; clear HHS)
    obtain ⟨ob, hob⟩ : ∃ b, b = w3.heap.size := ⟨_, rfl⟩
    rw [← hob] at HH ⊢
    clear hob
    have HH2 := Lib.hid (show Heap w3 [.box ob [.slice o.dev.secs.A o.dev.secs.n o.dev.secs.c, .slice o.dev.waits.A o.dev.waits.n o.dev.waits.c, .int .i64 o.ub.txg, .int .i64 o.ub.first, .int .i64 o.ub.objs, .slice o.objs.A o.objs.n o.objs.c, .slice o.idx.A o.idx.n o.idx.c]] wS from HH.out)
    rw [HU.out] at HH2
    clear HH
    have HH := HH2
    clear HH2
    have g2 := (HH.out.boxAt 0 rfl).cell 2 _ rfl
    have g3 := (HH.out.boxAt 0 rfl).cell 3 _ rfl
    have g4 := (HH.out.boxAt 0 rfl).cell 4 _ rfl
    have g6 := (HH.out.boxAt 0 rfl).cell 6 _ rfl
    obtain ⟨c2, c3, c4, c5, c6⟩ := HSc.out _ HH.out.ext
    go_wp2_with fail
    clear g2 g3 g4 g6 c2 c3 c4 c5 c6
    refine (HEi.out _ HH.out.ext (HW3.out.trans HH.out.ext)).mono ?_
    rintro e w5 ⟨rfl, e5⟩
    have HH2 := Lib.hid (HH.out.later e5)
    clear HH e5
    have HH := HH2
    clear HH2
    have g5 := (HH.out.boxAt 0 rfl).cell 5 _ rfl
    obtain ⟨c2, c3, c4, c5, c6⟩ := HSc.out _ HH.out.ext
    go_wp2_with fail
    clear g5 c2 c3 c4 c5 c6
    refine (HEf.out _ HH.out.ext (HW3.out.trans HH.out.ext)).mono ?_
    rintro e w6 ⟨rfl, e6⟩
    go_wp2_with fail
    go_ret
    exact ⟨rfl, HW3.out.trans (HH.out.ext.trans e6)⟩
end Go.Proofs.YtfongpdeflfioaaGreat
