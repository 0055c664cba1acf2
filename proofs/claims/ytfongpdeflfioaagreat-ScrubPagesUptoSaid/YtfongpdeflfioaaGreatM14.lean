/- The texts Look in one file. -/
import Derived.Test.YtfongpdeflfioaaGreatM13
/- scrub.Look. -/
namespace Go.Proofs.YtfongpdeflfioaaGreat
open Go.RowKit Go.Maps Go.Sort Go.Shelf
set_option linter.unusedVariables false
set_option linter.unusedSimpArgs false

theorem sizeKk : (Tryz.prog.info? 38).map (·.size) = some 4 := by kernel_rfl
theorem sizeLk : (Tryz.prog.info? 76).map (·.size) = some 11 := by kernel_rfl
def lkA (secs : Sl Oct) (xs : List Ob) (p : Int × List Int) : Int × List Int := xs.foldl (fun p x => lkO secs x (cntP x.data.n) p) p
theorem lkA_snoc (secs : Sl Oct) (xs : List Ob) (x : Ob) (p : Int × List Int) : lkA secs (xs ++ [x]) p = lkO secs x (cntP x.data.n) (lkA secs xs p) := by simp [lkA]
theorem lkA_nn (secs : Sl Oct) : ∀ (xs : List Ob) (p : Int × List Int), 0 ≤ p.1 → 0 ≤ (lkA secs xs p).1
  | [], p, h => h
  | x :: xs, p, h => lkA_nn secs xs _ (lkO_nn secs x p h _)
theorem lkA_sum (secs : Sl Oct) : ∀ (xs : List Ob) (p : Int × List Int), (∀ x ∈ xs, x.locs.xs.length = cntP x.data.n) → (lkA secs xs p).1 + (lkA secs xs p).2.length = p.1 + p.2.length + (locsL xs).length
  | [], p, _ => by simp [lkA, locsL]
  | x :: xs, p, h => by
    have h1 := lkA_sum secs xs (lkO secs x (cntP x.data.n) p) (fun y hy => h y (List.mem_cons_of_mem _ hy))
    have h2 := lkO_sum secs x p (cntP x.data.n)
    have h3 := h x (List.mem_cons_self ..)
    rw [show lkA secs (x :: xs) p = lkA secs xs (lkO secs x (cntP x.data.n) p) from rfl]
    rw [h1, h2]
    simp only [locsL, List.flatMap_cons, List.length_append, h3]
    push_cast
    omega
/-- how many of some sectors are pages -/
def strU (secs : Sl Oct) (fs : List Int) (k : Nat) : Nat := ((fs.take k).filter fun y => dcOk (secB secs y)).length
theorem strU_succ (secs : Sl Oct) (fs : List Int) (k : Nat) (h : k < fs.length) : strU secs fs (k + 1) = strU secs fs k + if dcOk (secB secs fs[k]) = true then 1 else 0 := by
  rw [strU, List.take_succ_eq_append_getElem h, List.filter_append, List.length_append]
  congr 1
  cases hb : dcOk (secB secs fs[k]) <;> simp [hb]
theorem strU_le (secs : Sl Oct) (fs : List Int) (k : Nat) : strU secs fs k ≤ k := by
  have h := List.length_filter_le (fun y => dcOk (secB secs y)) (fs.take k)
  rw [strU]
  have h2 : (fs.take k).length ≤ k := by rw [List.length_take]; omega
  omega
/-- the good and the bad of a store -/
def lkP (s : Sto) : Int × List Int := lkX s.dev.secs s.idx.xs s.idx.n (lkA s.dev.secs s.objs.xs (0, []))
def lkF (s : Sto) : List Int := freeL (s.dev.secs.n : Int) (uni (usedL s))
theorem uni_uni (l : List Int) : (uni (uni l)).length = (uni l).length := by
  have n1 : ∀ l : List Int, (uni l).Nodup := fun l => (uni_sorted l).imp fun h => by omega
  exact ((List.perm_ext_iff_of_nodup (n1 _) (n1 _)).2 fun x => mem_uni _).length_eq
theorem spE_uni (total : Int) (l : List Int) (h : spE total l = 0) : spE total (uni l) = 0 ∧ 2 ≤ total ∧ total ≤ 8192 ∧ (∀ y ∈ l, 2 ≤ y ∧ y < total) ∧ (uni l).length = l.length := by
  unfold spE at h ⊢
  split at h
  · cases h
  · rename_i h1
    split at h
    · cases h
    · rename_i h2
      have h3 : ¬ l.any (badN total) = true := fun q => h1 (.inr (.inr q))
      have hall : ∀ y ∈ l, 2 ≤ y ∧ y < total := fun y hy => by
        have : badN total y = false := by
          cases hb : badN total y
          · rfl
          · exact absurd (List.any_eq_true.2 ⟨y, hy, hb⟩) h3
        simp [badN] at this
        omega
      refine ⟨?_, by omega, by omega, hall, by simpa using h2⟩
      rw [if_neg, if_neg (by rw [uni_uni]; simp)]
      rintro (q | q | q)
      · omega
      · omega
      · obtain ⟨y, hy, hb⟩ := List.any_eq_true.1 q
        exact h3 (List.any_eq_true.2 ⟨y, (mem_uni _).1 hy, hb⟩)
/-- what scrub.Look tells -/
def LkOut (w : World) (s : Sto) (e : Ending) (w' : World) : Prop :=
  (sCk s ≠ 0 ∧ e = .returned (.tuple #[.agg #[.int .i64 0, .slice none 0 0, .int .i64 0, .int .i64 0], .int .i64 9]) ∧ Ext w w') ∨
  (sCk s = 0 ∧ ∃ A c, e = .returned (.tuple #[.agg #[.int .i64 (lkP s).1, .slice A (lkP s).2.length c, .int .i64 (strU s.dev.secs (lkF s) (lkF s).length : Int), .int .i64 ((lkF s).length : Int)], .int .i64 0]) ∧
    w'.ownsRow w.heap.size 3 1 (.slice A (lkP s).2.length c) (lkP s).2.length (ints ((lkP s).2.mergeSort fun x y => decide (x ≤ y))) ∧ Ext w w')
set_option maxRecDepth 100000 in
set_option maxHeartbeats 8000000 in
theorem look_any (w : World) (s : Sto) (h : Sto.At w 0 w.heap.size s) (hs : s.small) (h9 : s.objs.n ≤ 9000000) : Calls Tryz.prog 12 #[.agg s.cells.toArray] w (LkOut w s) := by
  have on := fun W (hW : Ext w W) => Sto.At.on h hW (Nat.le_refl _)
  have HC := Lib.hid (fun W (hW : Ext w W) => scheck_any W s (on W hW) hs)
  have HPg := Lib.hid (fun W (hW : Ext w W) => pages_any W s (on W hW) hs h9)
  have HA := Lib.hid h
  by_cases h0 : sCk s = 0
  · have HG := Lib.hid (show sOk s = true by unfold sCk at h0; split at h0; assumption; cases h0)
    have hg := HG.out
    unfold sOk at hg
    simp only [Bool.and_eq_true, decide_eq_true_eq] at hg
    obtain ⟨⟨⟨_, hob⟩, hsp⟩, _⟩ := hg
    unfold objOk at hob
    simp only [Bool.and_eq_true, decide_eq_true_eq, Bool.not_eq_true'] at hob
    obtain ⟨⟨⟨hn256, _⟩, _⟩, hodd⟩ := hob
    obtain ⟨hsp2, ht2, ht8, hall, hul⟩ := spE_uni _ _ hsp
    have HAll := Lib.hid hall
    have HOdd := Lib.hid (fun x (hx : x ∈ s.objs.xs) => show x.data.n ≤ 65536 ∧ x.locs.n = cntP x.data.n by
      have hq : oddB x = false := by
        cases hb : oddB x
        · rfl
        · rw [List.any_eq_true.2 ⟨x, hx, hb⟩] at hodd; cases hodd
      unfold oddB at hq
      simp at hq
      exact ⟨hq.1, hq.2⟩)
    have HU := Lib.hid (show usedL s = s.idx.xs ++ locsL s.objs.xs from rfl)
    have HUs := Lib.hid hs.used
    have HFr := Lib.hid (fun W A c (hr : Rd W 0 W.heap.size A (ints (uni (usedL s)))) (hc : (uni (usedL s)).length ≤ c) (hm : c ≤ maxLen) => show Calls Tryz.prog 36 #[.int .i64 (s.dev.secs.n : Int), .slice A (uni (usedL s)).length c] W (FrOut W 0 (lkF s)) from by
      have hf := spfree_any W (s.dev.secs.n : Int) ⟨A, (uni (usedL s)).length, c, uni (usedL s)⟩ ⟨rfl, hc, hm, by rw [ints_flat]; exact hr, fun y hy => by
        rcases List.mem_append.1 ((mem_uni _).1 hy) with hy | hy
        · exact HA.out.idx.all y hy
        · obtain ⟨x, hx, hy⟩ := List.mem_flatMap.1 hy
          exact (HA.out.objs.all x hx).locs.all y hy⟩ (Nat.le_trans (uni_len _) HUs.out)
      rw [hsp2] at hf
      exact hf)
    have HFm := Lib.hid (fun y (hy : y ∈ lkF s) => show 2 ≤ y ∧ y < (s.dev.secs.n : Int) by
      have := (mem_freeL ht2).1 hy
      exact ⟨this.1, this.2.1⟩)
    have HFl := Lib.hid (show (lkF s).length ≤ 8192 by
      have := foldDel_len (uni (usedL s)) (upI ((s.dev.secs.n : Int) - 2).toNat)
      rw [upI_len] at this
      show (freeL _ _).length ≤ _
      unfold freeL
      omega)
    have HOut := Lib.hid (fun e w' => show _ → LkOut w s e w' from fun hh => .inr ⟨h0, hh⟩)
    have HSu := Lib.hid (fun k => show (lkA s.dev.secs (s.objs.xs.take k) (0, [])).1 + (lkA s.dev.secs (s.objs.xs.take k) (0, [])).2.length ≤ 10000000 by
      rw [lkA_sum _ _ _ (fun x hx => by rw [← (HA.out.objs.all x (List.mem_of_mem_take hx)).locs.len]; exact (HOdd.out x (List.mem_of_mem_take hx)).2)]
      have h1 : (locsL (s.objs.xs.take k)).length ≤ (locsL s.objs.xs).length := by
        have h3 := congrArg (fun l => (locsL l).length) (List.take_append_drop k s.objs.xs)
        simp only [locsL, List.flatMap_append, List.length_append] at h3 ⊢
        omega
      have h2 := HUs.out
      rw [HU.out, List.length_append] at h2
      show (0 : Int) + ((0 : Nat) : Int) + _ ≤ _
      omega)
    have HP := Lib.hid (show lkP s = lkX s.dev.secs s.idx.xs s.idx.n (lkA s.dev.secs s.objs.xs (0, [])) from rfl)
    have hIn : s.idx.n ≤ 10000000 := by
      have h2 := HUs.out
      rw [HU.out, List.length_append] at h2
      rw [HA.out.idx.len]
      omega
    have hdn : s.dev.secs.n ≤ 8192 := by omega
    have HIx := Lib.hid (fun y (hy : y ∈ s.idx.xs) => show 0 ≤ y ∧ y < (s.dev.secs.n : Int) by
      have := HAll.out y (by rw [HU.out]; exact List.mem_append_left _ hy)
      omega)
    have HOx := Lib.hid (fun x (hx : x ∈ s.objs.xs) y (hy : y ∈ x.locs.xs) => show 0 ≤ y ∧ y < (s.dev.secs.n : Int) by
      have := HAll.out y (by rw [HU.out]; exact List.mem_append_right _ (List.mem_flatMap.2 ⟨x, hx, hy⟩))
      omega)
    have HON := Lib.hid (show s.objs.n = s.objs.xs.length from HA.out.objs.len)
    rw [h0] at HC
    generalize lkP s = P at *
    generalize lkF s = F at *
    clear on h hs h9 hsp hall hul hodd hsp2 ht2 ht8 h0 HG
    obtain ⟨⟨⟨sA, sn, sc, sx⟩, ⟨wA, wn, wc, wx⟩⟩, ⟨ut, uf, uo⟩, ⟨oA, on, oc, ox⟩, ⟨iA, im, ic, ix⟩⟩ := s
    simp only [Sto.cells, Sl.val] at *
    go_enter Tryz.func12, Tryz.ntmps12
    go_upto_region 1 with fail
    generalize hwH : World.alloc (World.alloc w _) _ = w1; have HH := Lib.hid (Heap.two hwH); clear hwH
    go_upto_region 5 with (first | (refine shl_load HH.out sizeSto (by kernel_rfl) rfl rfl rfl 1 rfl rfl ?_) | (go_at_call 13; (with_reducible refine (HC.out _ HH.out.ext).mono ?_); rintro e wC ⟨rfl, eC⟩; have HHn := Lib.hid (HH.out.later eC); clear HH eC; have HH := HHn; clear HHn))
    generalize hwA : World.alloc _ _ = w2
    have HH2 := Lib.hid ((HH.out.allocE hwA).row0 (e := 3) (size := 1))
    clear HH hwA
    have HH := HH2
    clear HH2
    obtain ⟨kb, hkb⟩ : ∃ b, b = wC.heap.size := ⟨_, rfl⟩
    obtain ⟨rb, hrb⟩ : ∃ b, b = w.heap.size + 1 := ⟨_, rfl⟩
    obtain ⟨sb, hsb⟩ : ∃ b, b = w.heap.size := ⟨_, rfl⟩
    rw [← hkb, ← hrb, ← hsb] at HH ⊢
    clear hkb hrb hsb
    go_upto_region 6 with (refine shl_load1 HH.out rfl rfl rfl 3 rfl rfl (by decide +kernel) ?_)
    go_loopw [27] (fun v wr => ∃ k : Nat, k ≤ on ∧ v = .int .i64 (k : Int) ∧ ∃ b, Hid (Heap w (itsP [It.box sb [.slice sA sn sc, .slice wA wn wc, .int .i64 ut, .int .i64 uf, .int .i64 uo, .slice oA on oc, .slice iA im ic], .box sb [], .box rb [.int .i64 0, .slice none 0 0, .int .i64 0, .int .i64 0], .box sb [.slice sA sn sc, .slice wA wn wc, .int .i64 ut, .int .i64 uf, .int .i64 uo, .slice oA on oc, .slice iA im ic]] 1 0 kb (.slice sA sn sc) (.slice wA wn wc) (.int .i64 ut) (.int .i64 uf) (.int .i64 uo) (.slice oA on oc) (.slice iA im ic) (.int .i64 0) (.int .i64 0) (lkA ⟨sA, sn, sc, sx⟩ (ox.take k) (0, [])) b) wr)) (fun v _ => on - (intOf v).toNat)
    case atStart => exact ⟨0, Nat.zero_le _, rfl, _, HH⟩
    case round =>
      clear HH
      obtain ⟨k, hk, rfl, b, HH⟩ := hrel
      by_cases hlt : k < on
      · have hkl : k < ox.length := by rw [← HON.out]; exact hlt
        obtain ⟨b1, o1, rfl, hb1, f0, f1, f2⟩ := rd_ob (HA.out.objs.rd.ext HH.out.ext (Nat.le_refl _)) hkl
        have HXA := Lib.hid (HA.out.objs.all _ (List.getElem_mem hkl))
        have HXO := Lib.hid (HOdd.out _ (List.getElem_mem hkl))
        have HXY := Lib.hid (HOx.out _ (List.getElem_mem hkl))
        have HSk := HSu.out k
        have HNk := lkA_nn ⟨sA, sn, sc, sx⟩ (ox.take k) (0, []) (Int.le_refl _)
        have HSt := Lib.hid (show lkA ⟨sA, sn, sc, sx⟩ (ox.take (k + 1)) (0, []) = lkO ⟨sA, sn, sc, sx⟩ ox[k] (cntP ox[k].data.n) (lkA ⟨sA, sn, sc, sx⟩ (ox.take k) (0, [])) by
          rw [List.take_succ_eq_append_getElem hkl, lkA_snoc])
        generalize lkA ⟨sA, sn, sc, sx⟩ (ox.take k) (0, []) = pk at *
        generalize hxx : ox[k] = x at *
        clear hxx
        have HXC := Lib.hid (show x.cells = [.string x.key, x.data.val, x.locs.val] from rfl)
        go_upto_region 8 with (first | (refine shl_store (HH.out.alloc _ _) sizeOb rfl rfl rfl rfl 0 rfl rfl rfl rfl ?_; clear HH; intro wS HHS; have HH := Lib.hid HHS; clear HHS))
        obtain ⟨tb, htb⟩ : ∃ b, b = wr.heap.size := ⟨_, rfl⟩
        rw [← htb] at HH ⊢
        have HH2 := Lib.hid (show Heap w (itsP [It.box tb x.cells, .box sb [], .box sb [], .box rb [.int .i64 0, .slice none 0 0, .int .i64 0, .int .i64 0], .box sb [.slice sA sn sc, .slice wA wn wc, .int .i64 ut, .int .i64 uf, .int .i64 uo, .slice (some ⟨b1, o1, none⟩) on oc, .slice iA im ic]] 2 1 kb (.slice sA sn sc) (.slice wA wn wc) (.int .i64 ut) (.int .i64 uf) (.int .i64 uo) (.slice (some ⟨b1, o1, none⟩) on oc) (.slice iA im ic) (.int .i64 0) (.int .i64 0) pk b) _ from HH.out)
        clear HH htb
        have HH := HH2
        clear HH2 f0 f1 f2
        go_wp2_with (refine shl_load HH.out sizeOb (by kernel_rfl) rfl rfl rfl 0 rfl rfl ?_)
        refine (lobj_any kb _ _ _ _ _ _ 0 0 pk b 2 1 (by decide) (by simp) (by simp) ⟨sA, sn, sc, sx⟩ x HH.out HA.out.dev.secs HXA.out HXO.out.2 HXO.out.1 HXY.out hdn HNk (by omega)).mono ?_
        rintro e w5 ⟨⟨v, rfl⟩, b5, h5⟩
        go_wp2_with fail
        go_roundw
        case rel =>
          refine ⟨k + 1, by omega, by go_num, b5, ?_⟩
          rw [HSt.out]
          exact Lib.hid h5.tail
        case measure => simp [intOf]; omega
      · obtain rfl : on = k := by omega
        have ht : ox.take on = ox := List.take_of_length_le (by rw [← HON.out]; exact Nat.le_refl _)
        rw [ht] at HH
        have HSk := HSu.out on
        rw [ht] at HSk
        have HNk := lkA_nn ⟨sA, sn, sc, sx⟩ ox (0, []) (Int.le_refl _)
        clear ht
        generalize lkA ⟨sA, sn, sc, sx⟩ ox (0, []) = pk at *
        have HX1 := lkX_sum ⟨sA, sn, sc, sx⟩ ix pk im
        have HX2 := lkX_nn ⟨sA, sn, sc, sx⟩ ix pk HNk im
        go_wp2_with fail
        refine (lidx_any kb _ _ _ _ _ 0 0 pk b 1 0 (by decide) (by simp) (by simp) ⟨sA, sn, sc, sx⟩ ⟨iA, im, ic, ix⟩ HH.out HA.out.dev.secs HA.out.idx hIn HIx.out hdn HNk (by omega)).mono ?_
        rintro e w5 ⟨⟨v, rfl⟩, b5, h5⟩
        rw [← HP.out] at HX1 HX2
        have HHd := Lib.hid (show Heap w (itsP [It.box sb [.slice sA sn sc, .slice wA wn wc, .int .i64 ut, .int .i64 uf, .int .i64 uo, .slice oA on oc, .slice iA im ic], .box sb [], .box rb [.int .i64 0, .slice none 0 0, .int .i64 0, .int .i64 0], .box sb [.slice sA sn sc, .slice wA wn wc, .int .i64 ut, .int .i64 uf, .int .i64 uo, .slice oA on oc, .slice iA im ic]] 1 0 kb (.slice sA sn sc) (.slice wA wn wc) (.int .i64 ut) (.int .i64 uf) (.int .i64 uo) (.slice oA on oc) (.slice iA im ic) (.int .i64 0) (.int .i64 0) P b5) w5.drew by rw [HP.out]; exact h5.drew)
        clear HH h5
        go_upto_region 11 with fail
        refine wp_region_held_drew (S := Heap w [.box sb [.slice sA sn sc, .slice wA wn wc, .int .i64 ut, .int .i64 uf, .int .i64 uo, .slice oA on oc, .slice iA im ic]]) (by kernel_rfl) (HHd.out.only 3 rfl) (fun hHeld => ?_)
        generalize World.drew w5 = wd at *
        refine takeL 0 (v := ?_) rfl (by kernel_rfl) (by kernel_rfl) (by kernel_rfl) (fun _ _ _ h => h) (by kernel_rfl) ?_ (by assumption) ?_; rotate_left; (focus (intro w hSw; (try dsimp only at hSw); go_simp <;> with_reducible rfl)); (try simp only [Act.put, List.setIfInBounds_toArray, List.set_cons_zero, List.set_cons_succ])
        refine takeL 1 (v := ?_) rfl (by kernel_rfl) (by kernel_rfl) (by kernel_rfl) (fun _ _ _ h => h) (by kernel_rfl) ?_ (by assumption) ?_; rotate_left; (focus (intro w hSw; (try dsimp only at hSw); go_simp <;> with_reducible rfl)); (try simp only [Act.put, List.setIfInBounds_toArray, List.set_cons_zero, List.set_cons_succ])
        refine takeL 2 rfl (by kernel_rfl) (by kernel_rfl) (by kernel_rfl) (fun _ _ _ h => h) (by kernel_rfl) (fun wT hST => sh_run_load1 hST rfl rfl 0 rfl rfl (by kernel_rfl)) hHeld ?_; (try simp only [Act.put, List.setIfInBounds_toArray, List.set_cons_zero, List.set_cons_succ])
        refine takeL 3 (v := ?_) rfl (by kernel_rfl) (by kernel_rfl) (by kernel_rfl) (fun _ _ _ h => h) (by kernel_rfl) ?_ (by assumption) ?_; rotate_left; (focus (intro w hSw; (try dsimp only at hSw); go_simp <;> with_reducible rfl)); (try simp only [Act.put, List.setIfInBounds_toArray, List.set_cons_zero, List.set_cons_succ])
        refine takeL 4 rfl (by kernel_rfl) (by kernel_rfl) (by kernel_rfl) (fun _ _ _ h => h) (by kernel_rfl) (fun wT hST => sh_run_load hST sizeSto (by kernel_rfl) rfl rfl 0 rfl (Nat.le_of_ble_eq_true rfl)) hHeld ?_; (try simp only [Act.put, List.setIfInBounds_toArray, List.set_cons_zero, List.set_cons_succ])
        clear hHeld
        refine oneL 5 rfl (by kernel_rfl) (by kernel_rfl) (fun K hK => ?_)
        go_simp
        refine (HPg.out _ HHd.out.ext).mono ?_
        rintro e w6 ⟨v6, rfl, hown6, e6⟩
        obtain ⟨A6, c6, rfl, k61, k62, _⟩ := own_form hown6
        have HH6 := Lib.hid (HHd.out.addRow e6 hown6)
        clear HHd hown6 e6
        go_wp2_with fail
        refine hK.out _ _ ((HH6).out.only 4 rfl) (fun hHeld => ?_); clear hK K; (try simp only [Act.put, List.setIfInBounds_toArray, List.set_cons_zero, List.set_cons_succ]); clear hHeld
        refine oneL 6 rfl (by kernel_rfl) (by kernel_rfl) (fun K hK => ?_)
        go_simp
        refine (HFr.out _ A6 c6 ((HH6.out.rowRd 0 rfl).more (Nat.zero_le _) (Nat.le_refl _)) k61 k62).mono ?_
        rintro e w7 ⟨v7, rfl, hown7, e7⟩
        obtain ⟨A7, c7, rfl, k71, k72, _⟩ := own_form (hown7 rfl)
        have HH7 := Lib.hid (HH6.out.tail.addRow e7 (hown7 rfl))
        clear HH6 hown7 e7
        go_wp2_with fail
        refine hK.out _ _ ((HH7).out.only 4 rfl) (fun hHeld => ?_); clear hK K; (try simp only [Act.put, List.setIfInBounds_toArray, List.set_cons_zero, List.set_cons_succ])
        refine takeL 7 (v := ?_) rfl (by kernel_rfl) (by kernel_rfl) (by kernel_rfl) (fun _ _ _ h => h) (by kernel_rfl) ?_ (by assumption) ?_; rotate_left; (focus (intro w hSw; (try dsimp only at hSw); go_simp <;> with_reducible rfl)); (try simp only [Act.put, List.setIfInBounds_toArray, List.set_cons_zero, List.set_cons_succ])
        refine takeL 8 (v := ?_) rfl (by kernel_rfl) (by kernel_rfl) (by kernel_rfl) (fun _ _ _ h => h) (by kernel_rfl) ?_ (by assumption) ?_; rotate_left; (focus (intro w hSw; (try dsimp only at hSw); go_simp <;> with_reducible rfl)); (try simp only [Act.put, List.setIfInBounds_toArray, List.set_cons_zero, List.set_cons_succ])
        refine takeL 10 (v := ?_) rfl (by kernel_rfl) (by kernel_rfl) (by kernel_rfl) (fun _ _ _ h => h) (by kernel_rfl) ?_ (by assumption) ?_; rotate_left; (focus (intro w hSw; (try dsimp only at hSw); go_simp <;> with_reducible rfl)); (try simp only [Act.put, List.setIfInBounds_toArray, List.set_cons_zero, List.set_cons_succ])
        refine takeL 9 (v := ?_) rfl (by kernel_rfl) (by kernel_rfl) (by kernel_rfl) (fun _ _ _ h => h) (by kernel_rfl) ?_ (by assumption) ?_; rotate_left; (focus (intro w hSw; (try dsimp only at hSw); go_simp <;> with_reducible rfl)); (try simp only [Act.put, List.setIfInBounds_toArray, List.set_cons_zero, List.set_cons_succ])
        refine takeL 11 (v := ?_) rfl (by kernel_rfl) (by kernel_rfl) (by kernel_rfl) (fun _ _ _ h => h) (by kernel_rfl) ?_ (by assumption) ?_; rotate_left; (focus (intro w hSw; (try dsimp only at hSw); go_simp <;> with_reducible rfl)); (try simp only [Act.put, List.setIfInBounds_toArray, List.set_cons_zero, List.set_cons_succ])
        refine wpAnyH_done (by kernel_rfl) ?_ _
        clear hHeld
        obtain ⟨Ab, cb, rfl, _, _, _⟩ := own_form (HH7.out.rowAt 1 rfl)
        generalize hm : F.length = m at *
        have HM := Lib.hid hm
        clear hm
        have hm8 := HFl.out
        have HU0 := Lib.hid (show strU ⟨sA, sn, sc, sx⟩ F 0 = 0 from rfl)
        go_wp2_with fail
        go_loopw [49] (fun v wr => ∃ k : Nat, k ≤ m ∧ v = .int .i64 (k : Int) ∧ Hid (Heap w (.row 3 1 (.slice A7 m c7) m (ints F) :: (itsP [It.box sb [.slice sA sn sc, .slice wA wn wc, .int .i64 ut, .int .i64 uf, .int .i64 uo, .slice oA on oc, .slice iA im ic], .box sb [], .box rb [.int .i64 0, .slice none 0 0, .int .i64 0, .int .i64 0], .box sb [.slice sA sn sc, .slice wA wn wc, .int .i64 ut, .int .i64 uf, .int .i64 uo, .slice oA on oc, .slice iA im ic]] 1 0 kb (.slice sA sn sc) (.slice wA wn wc) (.int .i64 ut) (.int .i64 uf) (.int .i64 uo) (.slice oA on oc) (.slice iA im ic) (.int .i64 (strU ⟨sA, sn, sc, sx⟩ F k : Int)) (.int .i64 0) P (.slice Ab P.2.length cb))) wr)) (fun v _ => m - (intOf v).toNat)
        case atStart => exact ⟨0, Nat.zero_le _, rfl, HH7⟩
        case round =>
          clear HH7
          obtain ⟨k, hk, rfl, HH⟩ := hrel
          by_cases hlt2 : k < m
          · have hkl : k < F.length := by rw [HM.out]; exact hlt2
            obtain ⟨b7, o7, rfl, _, f0⟩ := rd_int2 (HH.out.rowRd 0 rfl) hkl
            have hy := HFm.out _ (List.getElem_mem hkl)
            have HSt := Lib.hid (strU_succ ⟨sA, sn, sc, sx⟩ F k hkl)
            have HSl := strU_le ⟨sA, sn, sc, sx⟩ F k
            generalize F[k] = y at *
            obtain ⟨q, rfl⟩ : ∃ q : Nat, y = (q : Int) := ⟨y.toNat, by omega⟩
            have HSn := Lib.hid (show sn = sx.length from HA.out.dev.secs.len)
            have hq : q < sx.length := by rw [← HSn.out]; omega
            have hqn : (q : Int) < (sn : Int) := hy.2
            obtain ⟨b8, o8, rfl, _, hb8, G⟩ := rd_flat (size := 1) (fun _ => rfl) (by omega) HA.out.dev.secs.rd hq
            have HSO := Lib.hid (HA.out.dev.secs.all _ (List.getElem_mem hq))
            have HSB := Lib.hid (show secB ⟨some ⟨b8, o8, none⟩, sn, sc, sx⟩ (q : Int) = (sx[q]).xs by simp [secB, List.getD, hq])
            have g0 := G 0 _ rfl
            simp only [Nat.mul_one, Nat.add_zero] at g0
            clear G hy
            generalize sx[q] = se at *
            obtain ⟨eA, en, ec, ex⟩ := se
            simp only [Sl.val] at g0
            have c1 := (Below.cell HH.out.ext hb8).trans g0
            rw [HSB.out] at HSt
            go_upto_region 15 with fail
            go_wp2_with (refine shl_load1 HH.out rfl rfl rfl 4 rfl rfl (by decide +kernel) ?_)
            refine (pgdec_any wr eA en ec ex HSO.out.len (HH.out.old HSO.out.rdb) HSO.out.le HSO.out.cap).mono ?_
            rintro e w9 ⟨v9, n9, he, hr9, e9⟩
            generalize hnx : (if dcOk ex = true then (dcX ex : Int) else 0) = vx at he
            generalize hne : (if dcOk ex = true then (0 : Int) else 21) = ne at he
            subst he
            have HNE := Lib.hid hne
            have HH9 := Lib.hid (HH.out.later e9)
            clear HH e9 hr9 hnx hne f0 g0 c1
            have HH := HH9
            clear HH9
            cases hOk : dcOk ex
            · rw [hOk] at HNE HSt
              obtain rfl : ne = 21 := HNE.out.symm
              go_wp2_with fail
              go_roundw
              case rel =>
                refine ⟨k + 1, by omega, by go_num, ?_⟩
                rw [HSt.out]
                exact HH
              case measure => simp [intOf]; omega
            · rw [hOk] at HNE HSt
              obtain rfl : ne = 0 := HNE.out.symm
              go_wp2_with (first | (refine shl_load1 HH.out rfl rfl rfl 2 rfl rfl (by decide +kernel) ?_) | (refine shl_store1 HH.out rfl rfl rfl rfl 2 rfl rfl rfl (by kernel_rfl) ?_; clear HH; intro wS HHS; have HH := Lib.hid HHS; clear HHS))
              go_roundw
              case rel =>
                refine ⟨k + 1, by omega, by go_num, ?_⟩
                rw [HSt.out]
                exact HH
              case measure => simp [intOf]; omega
          · obtain rfl : m = k := by omega
            have HH2 := Lib.hid HH.out.tail
            clear HH
            have HH := HH2
            clear HH2
            go_upto_region 20 with (first | (refine shl_store1 HH.out rfl rfl rfl rfl 1 rfl rfl rfl (by kernel_rfl) ?_; clear HH; intro wS HHS; have HH := Lib.hid HHS; clear HHS))
            go_wp2_with (refine shl_load1 HH.out rfl rfl rfl 1 rfl rfl (by decide +kernel) ?_)
            refine (sort_heap HH.out 0 rfl (by omega)).mono ?_
            rintro e w9 ⟨rfl, h9⟩
            have HH9 := Lib.hid h9
            clear HH h9
            have HH := HH9
            clear HH9
            go_wp2_with (first | (refine shl_load HH.out sizeKk (by kernel_rfl) rfl rfl rfl 1 rfl rfl ?_) | (refine shl_store HH.out sizeKk rfl rfl rfl rfl 2 rfl rfl rfl rfl ?_; clear HH; intro wS HHS; have HH := Lib.hid HHS; clear HHS))
            refine ret_cell2 sizeKk (by kernel_rfl) HH.out rfl rfl rfl 2 rfl rfl rfl ?_
            exact HOut.out _ _ ⟨Ab, cb, rfl, HH.out.rowAt 0 rfl, HH.out.ext⟩
  · have h9' : sCk s = 9 := by unfold sCk; rw [if_neg (fun q => h0 (by unfold sCk; rw [if_pos q]))]
    rw [h9'] at HC
    have HOut := Lib.hid (fun e w' => show _ → LkOut w s e w' from fun hh => .inl ⟨h0, hh⟩)
    clear on h hs h0 h9 h9'
    obtain ⟨⟨⟨sA, sn, sc, sx⟩, ⟨wA, wn, wc, wx⟩⟩, ⟨ut, uf, uo⟩, ⟨oA, on, oc, ox⟩, ⟨iA, im, ic, ix⟩⟩ := s
    simp only [Sto.cells, Sl.val] at *
    go_enter Tryz.func12, Tryz.ntmps12
    go_upto_region 1 with fail
    generalize hwH : World.alloc (World.alloc w _) _ = w1; have HH := Lib.hid (Heap.two hwH); clear hwH
    go_wp2_with (first | (refine shl_load HH.out sizeSto (by kernel_rfl) rfl rfl rfl 1 rfl rfl ?_) | (go_at_call 13; (with_reducible refine (HC.out _ HH.out.ext).mono ?_); rintro e wC ⟨rfl, eC⟩; have HHn := Lib.hid (HH.out.later eC); clear HH eC; have HH := HHn; clear HHn) | (refine shl_store HH.out sizeKk rfl rfl rfl rfl 0 rfl rfl rfl rfl ?_; clear HH; intro wS HHS; have HH := Lib.hid HHS; clear HHS))
    refine ret_cell2 sizeKk (by kernel_rfl) HH.out rfl rfl rfl 0 rfl rfl rfl ?_
    exact HOut.out _ _ ⟨rfl, HH.out.ext⟩
end Go.Proofs.YtfongpdeflfioaaGreat
