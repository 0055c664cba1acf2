/- The texts Has, Usd, Ssl in one file. -/
import Derived.Test.YtfongpdeflfioaaGreatS31
import Derived.Test.YtfongpdeflfioaaGreatS18
import Derived.Test.YtfongpdeflfioaaGreatS7
import Derived.Test.YtfongpdeflfioaaGreatS2
import Derived.Test.YtfongpdeflfioaaGreatS9
import Derived.Test.YtfongpdeflfioaaGreatS29
/- godownref07.Has; scrub.Sound of a store that may not be; godownlaw40.alive. -/
namespace Go.Proofs.YtfongpdeflfioaaGreat
open Go.RowKit Go.Maps Go.Sort Go.Shelf
set_option linter.unusedVariables false
set_option linter.unusedSimpArgs false
set_option maxRecDepth 100000 in
set_option maxHeartbeats 4000000 in
theorem has_any (w : World) (A : Option Addr) (n c : Nat) (xs : List Int) (y : Int) (hn : n = xs.length) (hm : n ≤ 9223372036854775807) (hr : Rd w 0 w.heap.size A (ints xs)) : Calls Tryz.prog 11 #[.slice A n c, .int .i64 y] w fun e w' => e = .returned (.bool (decide (y ∈ xs))) ∧ Ext w w' := by
  have Hn := Lib.hid hn
  have HR := Lib.hid hr
  clear hn hr
  go_enter Tryz.func11, Tryz.ntmps11
  go_wp2_with fail
  go_loopw [5] (fun i wr => ∃ k : Nat, k ≤ n ∧ i = .int .i64 k ∧ Hid (∀ x ∈ xs.take k, x ≠ y) ∧ Ext w wr) (fun i _ => n - (intOf i).toNat)
  case atStart => exact ⟨0, Nat.zero_le _, rfl, Lib.hid (by simp), Ext.refl _⟩
  case round =>
    obtain ⟨k, hk, rfl, HK, e1⟩ := hrel
    by_cases hlt : k < n
    · have l1 : k < xs.length := by rw [← Hn.out]; exact hlt
      obtain ⟨b, o, rfl, _, f0⟩ := rd_int2 (HR.out.ext e1 (Nat.le_refl _)) l1
      have HM := Lib.hid (List.getElem_mem l1)
      have HT := Lib.hid (List.take_succ_eq_append_getElem l1)
      generalize xs[k] = x at *
      by_cases hx : x = y
      · subst hx
        have HV := Lib.hid (show decide (x ∈ xs) = true by simpa using HM.out)
        go_wp2_with fail
        go_ret
        exact ⟨retB HV.out.symm, e1⟩
      · have hx1 : (x == y) = false := by simpa using hx
        go_wp2_with fail
        go_roundw
        case rel =>
          refine ⟨k + 1, by omega, by go_num, Lib.hid (fun z hz => ?_), e1⟩
          rw [HT.out] at hz
          rcases List.mem_append.1 hz with hz | hz
          · exact HK.out z hz
          · simp only [List.mem_singleton] at hz; subst hz; exact hx
        case measure => simp [intOf]; omega
    · obtain rfl : k = n := by omega
      have HV := Lib.hid (show decide (y ∈ xs) = false by
        have h1 : xs.take k = xs := List.take_of_length_le (by rw [← Hn.out]; exact Nat.le_refl _)
        have h2 := HK.out
        rw [h1] at h2
        simpa using fun hy => h2 y hy rfl)
      go_wp2_with fail
      go_ret
      exact ⟨retB HV.out.symm, e1⟩
set_option maxRecDepth 100000 in
set_option maxHeartbeats 4000000 in
theorem sound_no (w : World) (s : Sto) (h : Sto.At w 0 w.heap.size s) (hs : s.small) (h9 : s.objs.n ≤ 9000000) (h0 : sCk s ≠ 0) : Calls Tryz.prog 14 #[.agg s.cells.toArray] w fun e w' => e = .returned (.bool false) ∧ Ext w w' := by
  have HL := Lib.hid (fun W (hW : Ext w W) => show Calls Tryz.prog 12 #[.agg s.cells.toArray] W (fun e w' => e = .returned (.tuple #[.agg #[.int .i64 0, .slice none 0 0, .int .i64 0, .int .i64 0], .int .i64 9]) ∧ Ext W w') from (look_any W s (h.on hW (Nat.le_refl _)) hs h9).mono (by
    rintro e w' (⟨_, h1, h2⟩ | ⟨h1, _⟩)
    · exact ⟨h1, h2⟩
    · exact absurd h1 h0))
  clear h hs h9 h0
  obtain ⟨⟨⟨sA, sn, sc, sx⟩, ⟨wA, wn, wc, wx⟩⟩, ⟨ut, uf, uo⟩, ⟨oA, on, oc, ox⟩, ⟨iA, im, ic, ix⟩⟩ := s
  simp only [Sto.cells, Sl.val] at *
  go_enter Tryz.func14, Tryz.ntmps14
  go_upto_region 1 with fail
  generalize hwH : World.alloc w _ = w1; have HH := Lib.hid (Heap.one hwH); clear hwH
  go_wp2_with (first | (refine shl_load HH.out sizeSto (by kernel_rfl) rfl rfl rfl 0 rfl rfl ?_) | (go_at_call 12; (with_reducible refine (HL.out _ HH.out.ext).mono ?_); rintro e wC ⟨rfl, eC⟩; have HHn := Lib.hid (HH.out.later eC); clear HH eC; have HH := HHn; clear HHn) | (refine shl_store (HH.out.alloc _ _) sizeKk rfl rfl rfl rfl 0 rfl rfl rfl rfl ?_; clear HH; intro wS HHS; have HH := Lib.hid HHS; clear HHS))
  go_ret
  exact ⟨rfl, HH.out.ext⟩
theorem fmt_ok {s : Sto} {n : Nat} {w : World} {lo hi : Nat} (h0 : 2 ≤ n) (h8 : n ≤ 8192) (h1 : s.dev.secv = fmtV n) (h2 : s.dev.waits.n = 0) (h4 : s.dev.secs.n = n) (h5 : s.ub = ⟨2, 0, 0⟩) (h6 : s.objs = ⟨none, 0, 0, []⟩) (h7 : s.idx = ⟨none, 0, 0, []⟩) (h : Sto.At w lo hi s) :
    sCk s = 0 ∧ s.small ∧ usedL s = [] ∧ lkP s = (0, []) ∧ (lkF s).length = n - 2 := by
  have hu : usedL s = [] := by rw [usedL, h6, h7]; rfl
  have hc : chkE s.dev = 0 := all64 h.dev (fun x hx => by
    rw [h1, fmtV] at hx
    rcases List.mem_or_eq_of_mem_set hx with hx | rfl
    · rcases List.mem_or_eq_of_mem_set hx with hx | rfl
      · rw [(List.mem_replicate.1 hx).2]; rfl
      · exact ueB_len _
    · exact ueB_len _) h2 (by rw [h4]; exact h0) (by rw [h4]; exact h8)
  have hsp : spE (s.dev.secs.n : Int) [] = 0 := by
    unfold spE
    rw [if_neg (by rw [h4]; simp; omega), if_neg (by decide)]
  refine ⟨?_, ⟨by rw [h6]; exact Nat.zero_le _, by (rw [h6]; intro x hx; simp at hx), by rw [hu]; exact Nat.zero_le _⟩, hu, ?_, ?_⟩
  · unfold sCk
    rw [if_pos]
    unfold sOk
    rw [hu]
    simp only [headOk, hc, h5, h2, objOk, h6, idxOk, h7, hsp]
    decide
  · rw [lkP, h6, h7]; rfl
  · show (freeL _ _).length = _
    rw [hu, freeL]
    show (upI ((s.dev.secs.n : Int) - 2).toNat).length = _
    rw [upI_len, h4]
    omega
set_option maxRecDepth 100000 in
set_option maxHeartbeats 4000000 in
theorem alive40_any (w : World) : Calls Tryz.prog 15 #[] w fun e w' => e = .returned (.bool true) ∧ Ext w w' := by
  go_enter Tryz.func15, Tryz.ntmps15
  go_wp2_with fail
  refine (fmt_yes w 20 (by decide) (by decide)).mono ?_
  rintro e w1 ⟨s, A, rfl, h1, h2, h3, h4, h5, h6, h7, hS, e1⟩
  obtain ⟨k1, k2, k3, k4, k5⟩ := fmt_ok (by decide) (by decide) h1 h2 h4 h5 h6 h7 hS
  have HL := Lib.hid (fun W (hW : Ext w1 W) => (look_any W s ((hS.on hW (Nat.le_refl _)).imp fun _ _ hr => hr.m0) k2 (by rw [h6]; exact Nat.zero_le _)))
  have HK := Lib.hid (⟨k1, k4, k5⟩ : sCk s = 0 ∧ lkP s = (0, []) ∧ (lkF s).length = 20 - 2)
  have HO := Lib.hid (fun (e : Ending) (W w' : World) => show LkOut W s e w' → ∃ Ab c sr, e = .returned (.tuple #[.agg #[.int .i64 0, .slice Ab 0 c, .int .i64 sr, .int .i64 18], .int .i64 0]) ∧ Ext W w' from by
    rintro (⟨h, _⟩ | ⟨_, A, c, he, ho, ee⟩)
    · exact absurd HK.out.1 h
    · have h8 := HK.out.2.1
      have h9 := HK.out.2.2
      rw [h8] at ho he
      rw [h9] at he
      exact ⟨A, c, _, he, ee⟩)
  clear k1 k2 k3 k4 k5 h1 h2 h3 h4 h5 h6 h7 HK
  have HE1 := Lib.hid e1
  clear e1 hS
  obtain ⟨⟨⟨sA, sn, sc, sx⟩, ⟨wA, wn, wc, wx⟩⟩, ⟨ut, uf, uo⟩, ⟨oA, on, oc, ox⟩, ⟨iA, im, ic, ix⟩⟩ := s
  simp only [Sto.cells, Sl.val] at *
  have HH := Lib.hid (Heap.start w1)
  go_wp2_with (first | (refine shl_load HH.out sizeSto (by kernel_rfl) rfl rfl rfl 0 rfl rfl ?_) | (refine shl_store (HH.out.alloc _ _) sizeSto rfl rfl rfl rfl 0 rfl rfl rfl rfl ?_; clear HH; intro wS HHS; have HH := Lib.hid HHS; clear HHS))
  refine (HL.out _ HH.out.ext).mono ?_
  intro e w5 h5
  obtain ⟨Ab, cb, sr, rfl, e5⟩ := HO.out _ _ _ h5
  have HHn := Lib.hid (HH.out.later e5)
  clear HH h5
  have HH := HHn
  clear HHn
  go_wp2_with (first | (refine shl_store (HH.out.alloc _ _) sizeKk rfl rfl rfl rfl 0 rfl rfl rfl rfl ?_; clear HH; intro wS HHS; have HH := Lib.hid HHS; clear HHS) | (go_big_want; refine sh_load1 HH.out rfl rfl 0 rfl rfl (by decide +kernel) ?_) | (refine shl_load1 HH.out rfl rfl rfl 0 rfl rfl (by decide +kernel) ?_))
  go_ret
  exact ⟨rfl, HE1.out.trans HH.out.ext⟩
end Go.Proofs.YtfongpdeflfioaaGreat
/- store.Used. -/
namespace Go.Proofs.YtfongpdeflfioaaGreat
open Go.RowKit Go.Maps Go.Sort Go.Shelf
set_option linter.unusedVariables false
set_option linter.unusedSimpArgs false
set_option maxRecDepth 100000 in
set_option maxHeartbeats 4000000 in
theorem sused_any (w : World) (s : Sto) (h : Sto.At w 0 w.heap.size s) (hT : (usedL s).length ≤ 10000000) :
    Calls Tryz.prog 30 #[.agg s.cells.toArray] w fun e w' => e = .returned (.int .i64 ((usedL s).length : Int)) ∧ Ext w w' := by
  have HU := Lib.hid (fun W (hW : Ext w W) => used_any W s (h.on hW (Nat.le_refl _)) hT)
  generalize usedL s = U at *
  clear h
  obtain ⟨⟨⟨sA, sn, sc, sx⟩, ⟨wA, wn, wc, wx⟩⟩, ⟨ut, uf, uo⟩, ⟨oA, on, oc, ox⟩, ⟨iA, im, ic, ix⟩⟩ := s
  simp only [Sto.cells, Dev.cells, Sl.val] at *
  go_enter Tryz.func30, Tryz.ntmps30
  go_upto_region 1 with fail
  generalize hwH : World.alloc w _ = w1; have HH := Lib.hid (Heap.one hwH); clear hwH
  obtain ⟨sb, hsb⟩ : ∃ b, b = w.heap.size := ⟨_, rfl⟩
  rw [← hsb] at HH ⊢
  clear hsb
  go_wp2_with (refine shl_load HH.out sizeSto (by kernel_rfl) rfl rfl rfl 0 rfl rfl ?_)
  refine (HU.out _ HH.out.ext).mono ?_
  rintro e w2 ⟨v, rfl, hown, e2⟩
  obtain ⟨A2, c2, rfl, _, _, _⟩ := own_form hown
  have HE := Lib.hid (HH.out.ext.trans e2)
  clear HH HU hown e2
  go_wp2_with fail
  go_ret
  exact ⟨rfl, HE.out⟩
end Go.Proofs.YtfongpdeflfioaaGreat
/- godownlaw40.ScrubSound: the law's walk. -/
namespace Go.Proofs.YtfongpdeflfioaaGreat
open Go.RowKit Go.Maps Go.Sort Go.Shelf
set_option linter.unusedVariables false
set_option linter.unusedSimpArgs false
set_option maxRecDepth 100000 in
set_option maxHeartbeats 8000000 in
theorem ssound_any (w : World) (n : Int) (a b : Sl Ob) (hn : (Lit.int .i64 n).wf = true) (ha : Sl.At w 0 w.heap.size Ob.cells (Ob.At w 0 w.heap.size) a) (hb : Sl.At w 0 w.heap.size Ob.cells (Ob.At w 0 w.heap.size) b) :
    Calls Tryz.prog 9 #[.int .i64 n, a.val, b.val] w fun e w' => e = .returned (.bool true) ∧ Ext w w' := by
  have HGa := Lib.hid (fun W (hW : Ext w W) => good40_any W a (Sl.At.imp ha (rd_on hW (Nat.le_refl _) _ _) (fun x hx => Ob.At.on hx hW (Nat.le_refl _))))
  have HMd := Lib.hid (fun W (hW : Ext w W) => made_any W n a b hn (Sl.At.imp ha (rd_on hW (Nat.le_refl _) _ _) (fun x hx => Ob.At.on hx hW (Nat.le_refl _))) (Sl.At.imp hb (rd_on hW (Nat.le_refl _) _ _) (fun x hx => Ob.At.on hx hW (Nat.le_refl _))))
  clear ha hb hn
  obtain ⟨aA, an, ac, ax⟩ := a
  obtain ⟨bA, bn, bc, bx⟩ := b
  simp only [Sl.val] at *
  go_enter Tryz.func9, Tryz.ntmps9
  have HH := Lib.hid (Heap.start w)
  go_upto_region 3 with (go_at_call 15; (with_reducible refine (alive40_any _).mono ?_); rintro e wC ⟨rfl, eC⟩; have HHn := Lib.hid (HH.out.later eC); clear HH eC; have HH := HHn; clear HHn)
  go_wp2_with fail
  refine (HMd.out _ HH.out.ext).mono ?_
  rintro e w1 ⟨s, ok, rfl, hok, hno, hS, e1⟩
  have HE1 := Lib.hid (HH.out.ext.trans e1)
  have HOk := Lib.hid hok
  have HNo := Lib.hid hno
  have HS := Lib.hid (fun (W : World) (hW : Ext w1 W) => show Sto.At W 0 W.heap.size s from hS.on hW (Nat.le_refl _))
  clear HH HMd hS e1 hok hno
  have HH := Lib.hid (Heap.start w1)
  simp only [Sto.cells, Dev.cells, Sl.val]
  go_upto_region 4 with (refine shl_store (HH.out.alloc _ _) sizeSto rfl rfl rfl rfl 0 rfl rfl rfl rfl ?_; clear HH; intro wS HHS; have HH := Lib.hid HHS; clear HHS)
  obtain ⟨s7, hs7⟩ : ∃ b, b = w1.heap.size := ⟨_, rfl⟩
  rw [← hs7] at HH ⊢
  clear hs7
  have HH2 := Lib.hid (show Heap w1 [.box s7 [.slice s.dev.secs.A s.dev.secs.n s.dev.secs.c, .slice s.dev.waits.A s.dev.waits.n s.dev.waits.c, .int .i64 s.ub.txg, .int .i64 s.ub.first, .int .i64 s.ub.objs, .slice s.objs.A s.objs.n s.objs.c, .slice s.idx.A s.idx.n s.idx.c]] wS from HH.out)
  clear HH
  have HH := HH2
  clear HH2
  cases ok with
  | false =>
    go_wp2_with fail
    refine (HGa.out _ (HE1.out.trans HH.out.ext)).mono ?_
    rintro e w2 ⟨g, rfl, _, hge, hgA, e2⟩
    have hg0 : 0 < g.n := by
      rcases Nat.eq_zero_or_pos g.n with h | h
      · exact absurd (hge.1 (List.eq_nil_of_length_eq_zero (by rw [← hgA.len]; exact h))) (HNo.out (by simp))
      · exact h
    have hg1 : (0 : Int) < (g.n : Int) := by omega
    have hg2 : decide (0 < g.n) = true := decide_eq_true hg0
    have HE2 := Lib.hid (HE1.out.trans (HH.out.ext.trans e2))
    clear hge hgA HNo HOk HH e2 hg0
    simp only [Sl.val]
    go_wp2_with fail
    go_ret
    exact ⟨rfl, HE2.out⟩
  | true =>
    obtain ⟨hho, hwt⟩ := HOk.out rfl
    have HHo := Lib.hid hho
    have HWt := Lib.hid hwt
    have hnu : (0 : Int) ∉ s.abs.used := fun h => by have := hho.ok.lo 0 h; omega
    have hbd : bdL s.abs 0 = [] := if_neg hnu
    have hdc : decide ((0 : Int) ∉ s.abs.used) = true := decide_eq_true hnu
    have hul : (usedL s).length ≤ 8190 := by rw [← used_abs]; have := used_len hho.ok; have := hho.ok.n8; omega
    have HLk := Lib.hid (fun (W : World) (hW : Ext w1 W) => show Calls Tryz.prog 12 #[.agg s.cells.toArray] W (fun e w' => ∃ (A : Option Addr) (c st fl : Nat), e = .returned (.tuple #[.agg #[.int .i64 ((usedL s).length : Int), .slice A 0 c, .int .i64 (st : Int), .int .i64 (fl : Int)], .int .i64 0]) ∧ st ≤ fl ∧ fl + (usedL s).length + 2 = s.dev.secs.n ∧ Ext W w') from by
      refine (look_held W s s.abs 0 (HS.out W hW) (Hz.of hho hwt)).mono ?_
      rintro e w' ⟨A, c, st, fl, rfl, h1, h2, _, ee⟩
      rw [hbd, used_abs]
      rw [used_abs] at h2
      exact ⟨A, c, st, fl, by simp, h1, h2, ee⟩)
    have HSn := Lib.hid (fun (W : World) (o : Sto) (ho : Sto.At W 0 W.heap.size o) (hz : Hz o s.abs 0) (hd : o.abs.holds) => show Calls Tryz.prog 14 #[.agg o.cells.toArray] W (fun e w' => e = .returned (.bool true) ∧ Ext W w') from by
      have h := sound_z W o s.abs 0 ho hz (fun _ => hd)
      rw [hdc] at h
      exact h)
    have HPg := Lib.hid (fun (W : World) (hW : Ext w1 W) => show Calls Tryz.prog 10 #[.agg s.cells.toArray] W (fun e w' => ∃ A c, e = .returned (.slice A (usedL s).length c) ∧ Ext W w') from by
      refine (pages_any W s (HS.out W hW) (small_abs (HS.out W hW) hho.ok) (Nat.le_trans (small_abs_objs (HS.out W hW) hho.ok) (by decide))).mono ?_
      rintro e w' ⟨v, rfl, ho, ee⟩
      rw [uni_of_nodup (by rw [← used_abs]; exact hho.ok.nd)] at ho
      obtain ⟨A, c, rfl, _, _, _⟩ := own_form ho
      exact ⟨A, c, rfl, ee⟩)
    have hsn : s.dev.secs.n ≤ 8192 := by rw [← secv_len (HS.out _ (Ext.refl _))]; exact hho.ok.n8
    clear hho hwt hnu hbd hdc HOk HNo
    simp only [Sto.cells, Dev.cells, Sl.val] at HLk HPg
    go_upto_region 6 with fail
    go_wp2_with (refine shl_load HH.out sizeSto (by kernel_rfl) rfl rfl rfl 0 rfl rfl ?_)
    refine (HLk.out _ HH.out.ext).mono ?_
    rintro e w2 ⟨A, c, st, fl, rfl, hst, hfl, e2⟩
    have HH2 := Lib.hid (HH.out.later e2)
    clear HH e2 HLk
    have HH := HH2
    clear HH2
    go_upto_region 7 with (refine shl_store (HH.out.alloc _ _) sizeKk rfl rfl rfl rfl 0 rfl rfl rfl rfl ?_; clear HH; intro wS HHS; have HH := Lib.hid HHS; clear HHS)
    obtain ⟨r9, hr9⟩ : ∃ b, b = w2.heap.size := ⟨_, rfl⟩
    rw [← hr9] at HH ⊢
    clear hr9
    have HH2 := Lib.hid (show Heap w1 [.box r9 [.int .i64 ((usedL s).length : Int), .slice A 0 c, .int .i64 (st : Int), .int .i64 (fl : Int)], .box s7 [.slice s.dev.secs.A s.dev.secs.n s.dev.secs.c, .slice s.dev.waits.A s.dev.waits.n s.dev.waits.c, .int .i64 s.ub.txg, .int .i64 s.ub.first, .int .i64 s.ub.objs, .slice s.objs.A s.objs.n s.objs.c, .slice s.idx.A s.idx.n s.idx.c]] wS from HH.out)
    clear HH
    have HH := HH2
    clear HH2
    have g0 := (HH.out.boxAt 1 rfl).cell 0 _ rfl
    have g1 := (HH.out.boxAt 1 rfl).cell 1 _ rfl
    go_wp2_with fail
    clear g0 g1
    refine (open_ok wS s.dev (HS.out _ HH.out.ext).dev HWt.out s.abs rfl HHo.out).mono ?_
    rintro e w3 ⟨o, rfl, hoabs, how, hoA, e3⟩
    have HOh := Lib.hid (⟨by rw [hoabs]; exact HHo.out, by rw [← hoabs]; exact Hz.of (by rw [hoabs]; exact HHo.out) how⟩ : o.abs.holds ∧ Hz o s.abs 0)
    obtain ⟨l1, l2, HH2⟩ := show ∃ l1 l2, Heap w1 [It.look (fun W => Sto.At W l1 l2 o) l1 l2 (fun _ _ hr hh => hh.imp hr), .box r9 [.int .i64 ((usedL s).length : Int), .slice A 0 c, .int .i64 (st : Int), .int .i64 (fl : Int)], .box s7 [.slice s.dev.secs.A s.dev.secs.n s.dev.secs.c, .slice s.dev.waits.A s.dev.waits.n s.dev.waits.c, .int .i64 s.ub.txg, .int .i64 s.ub.first, .int .i64 s.ub.objs, .slice s.objs.A s.objs.n s.objs.c, .slice s.idx.A s.idx.n s.idx.c]] w3 from ⟨_, _, HH.out.addLook e3 (J := fun W => Sto.At W wS.heap.size w3.heap.size o) (fun _ _ hr hh => hh.imp hr) (Nat.le_refl _) (Nat.le_refl _) hoA⟩
    clear HH e3 hoabs how hoA
    have HH := Lib.hid HH2
    clear HH2
    simp only [Sto.cells, Dev.cells, Sl.val]
    go_upto_region 8 with (refine shl_store (HH.out.alloc _ _) sizeSto rfl rfl rfl rfl 0 rfl rfl rfl rfl ?_; clear HH; intro wS HHS; have HH := Lib.hid HHS; clear HHS)
    obtain ⟨o11, ho11⟩ : ∃ b, b = w3.heap.size := ⟨_, rfl⟩
    rw [← ho11] at HH ⊢
    clear ho11
    have HHd := Lib.hid (show Heap w1 [.box o11 [.slice o.dev.secs.A o.dev.secs.n o.dev.secs.c, .slice o.dev.waits.A o.dev.waits.n o.dev.waits.c, .int .i64 o.ub.txg, .int .i64 o.ub.first, .int .i64 o.ub.objs, .slice o.objs.A o.objs.n o.objs.c, .slice o.idx.A o.idx.n o.idx.c], It.look (fun W => Sto.At W l1 l2 o) l1 l2 (fun _ _ hr hh => hh.imp hr), .box r9 [.int .i64 ((usedL s).length : Int), .slice A 0 c, .int .i64 (st : Int), .int .i64 (fl : Int)], .box s7 [.slice s.dev.secs.A s.dev.secs.n s.dev.secs.c, .slice s.dev.waits.A s.dev.waits.n s.dev.waits.c, .int .i64 s.ub.txg, .int .i64 s.ub.first, .int .i64 s.ub.objs, .slice s.objs.A s.objs.n s.objs.c, .slice s.idx.A s.idx.n s.idx.c]] (World.drew wS) from HH.out.drew)
    clear HH
    generalize hU : (usedL s).length = U at *
    have HU := Lib.hid hU
    clear hU
    have hw1 : IntKind.i64.wrap ((U : Int) + (fl : Int)) = (U : Int) + (fl : Int) := IntWalk.i64_in _ (by omega)
    have hw2 : IntKind.i64.wrap ((s.dev.secs.n : Int) - 2) = (s.dev.secs.n : Int) - 2 := IntWalk.i64_in _ (by omega)
    have hc1 : ((U : Int) + (fl : Int) != (s.dev.secs.n : Int) - 2) = false := by rw [bne_eq_false_iff_eq]; omega
    have hc2 : decide ((fl : Int) < (st : Int)) = false := by simp; omega
    refine wp_region_held_drew (S := Heap w1 [.box o11 [.slice o.dev.secs.A o.dev.secs.n o.dev.secs.c, .slice o.dev.waits.A o.dev.waits.n o.dev.waits.c, .int .i64 o.ub.txg, .int .i64 o.ub.first, .int .i64 o.ub.objs, .slice o.objs.A o.objs.n o.objs.c, .slice o.idx.A o.idx.n o.idx.c], It.look (fun W => Sto.At W l1 l2 o) l1 l2 (fun _ _ hr hh => hh.imp hr), .box r9 [.int .i64 (U : Int), .slice A 0 c, .int .i64 (st : Int), .int .i64 (fl : Int)], .box s7 [.slice s.dev.secs.A s.dev.secs.n s.dev.secs.c, .slice s.dev.waits.A s.dev.waits.n s.dev.waits.c, .int .i64 s.ub.txg, .int .i64 s.ub.first, .int .i64 s.ub.objs, .slice s.objs.A s.objs.n s.objs.c, .slice s.idx.A s.idx.n s.idx.c]]) (by kernel_rfl) HHd.out (fun hHeld => ?_)
    generalize World.drew _ = wd at *
    refine tS 0 ?_; (try simp only [Act.put, lyA, lyB, lyC])
    refine tS 1 ?_; (try simp only [Act.put, lyA, lyB, lyC])
    refine tS 2 ?_; (try simp only [Act.put, lyA, lyB, lyC])
    refine tS 3 ?_; (try simp only [Act.put, lyA, lyB, lyC])
    refine tS 4 ?_; (try simp only [Act.put, lyA, lyB, lyC])
    refine tS 5 ?_; (try simp only [Act.put, lyA, lyB, lyC])
    refine tS 6 ?_; (try simp only [Act.put, lyA, lyB, lyC])
    refine tS 7 ?_; (try simp only [Act.put, lyA, lyB, lyC])
    refine tG 8 rfl (fun wT hST => sh_run_load1 hST rfl rfl 2 rfl rfl (by kernel_rfl)) hHeld ?_; (try simp only [Act.put, lyA, lyB, lyC])
    refine tG 9 rfl (fun wT hST => sh_run_load hST sizeSto (by kernel_rfl) rfl rfl 3 rfl (Nat.le_of_ble_eq_true rfl)) hHeld ?_; (try simp only [Act.put, lyA, lyB, lyC])
    clear hHeld
    refine oS 10 (fun K hK => ?_)
    go_simp
    refine (sused_any _ s (HS.out _ HHd.out.ext) (by rw [HU.out]; omega)).mono ?_
    rintro e w5 ⟨rfl, e5⟩
    rw [HU.out]
    have HH5 := Lib.hid (HHd.out.later e5)
    clear HHd e5
    go_wp2_with fail
    refine hK.out _ _ HH5.out (fun hHeld => ?_)
    clear hK K
    (try simp only [Act.put, lyA, lyB, lyC])
    refine tS 11 ?_; (try simp only [Act.put, lyA, lyB, lyC])
    refine tS 12 ?_; (try simp only [Act.put, lyA, lyB, lyC])
    refine tS 13 ?_; (try simp only [Act.put, lyA, lyB, lyC])
    refine tS 14 ?_; (try simp only [Act.put, lyA, lyB, lyC])
    refine tG 15 rfl (fun wT hST => sh_run_load1 hST rfl rfl 2 rfl rfl (by kernel_rfl)) hHeld ?_; (try simp only [Act.put, lyA, lyB, lyC])
    refine tS 16 ?_; (try simp only [Act.put, lyA, lyB, lyC])
    refine tS 17 ?_; (try simp only [Act.put, lyA, lyB, lyC])
    refine tS 18 ?_; (try simp only [Act.put, lyA, lyB, lyC])
    refine tS 19 ?_; (try simp only [Act.put, lyA, lyB, lyC])
    refine tS 20 ?_; (try simp only [Act.put, lyA, lyB, lyC])
    refine tG 21 rfl (fun wT hST => sh_run_load1 hST rfl rfl 2 rfl rfl (by kernel_rfl)) hHeld ?_; (try simp only [Act.put, lyA, lyB, lyC])
    refine tS 22 ?_; (try simp only [Act.put, lyA, lyB, lyC])
    refine tG 23 rfl (fun wT hST => sh_run_load1 hST rfl rfl 2 rfl rfl (by kernel_rfl)) hHeld ?_; (try simp only [Act.put, lyA, lyB, lyC])
    refine tS 24 ?_; (try simp only [Act.put, lyA, lyB, lyC])
    refine tS 25 ?_; (try simp only [Act.put, lyA, lyB, lyC])
    refine tS 26 ?_; (try simp only [Act.put, lyA, lyB, lyC])
    refine tG 27 rfl (fun wT hST => sh_run_load1 hST rfl rfl 3 rfl rfl (by kernel_rfl)) hHeld ?_; (try simp only [Act.put, lyA, lyB, lyC])
    refine tS 28 ?_; (try simp only [Act.put, lyA, lyB, lyC])
    refine tS 29 ?_; (try simp only [Act.put, lyA, lyB, lyC])
    refine tS 30 ?_; (try simp only [Act.put, lyA, lyB, lyC])
    refine tS 31 ?_; (try simp only [Act.put, lyA, lyB, lyC])
    refine tS 32 ?_; (try simp only [Act.put, lyA, lyB, lyC])
    refine tS 33 ?_; (try simp only [Act.put, lyA, lyB, lyC])
    refine tG 34 rfl (fun wT hST => sh_run_load1 hST rfl rfl 2 rfl rfl (by kernel_rfl)) hHeld ?_; (try simp only [Act.put, lyA, lyB, lyC])
    refine tS 35 ?_; (try simp only [Act.put, lyA, lyB, lyC])
    refine tG 36 rfl (fun wT hST => sh_run_load1 hST rfl rfl 2 rfl rfl (by kernel_rfl)) hHeld ?_; (try simp only [Act.put, lyA, lyB, lyC])
    refine tS 37 ?_; (try simp only [Act.put, lyA, lyB, lyC])
    refine tS 38 ?_; (try simp only [Act.put, lyA, lyB, lyC])
    refine wpAnyH_done (by kernel_rfl) ?_ _
    clear hHeld hw1 hw2
    go_upto_region 10 with fail
    have HSs := Lib.hid (fun (W : World) (hW : Ext w1 W) => HSn.out W s (HS.out W hW) (Hz.of HHo.out HWt.out) HHo.out)
    have HSo := Lib.hid (fun (W : World) (hH : Heap w1 [.box o11 [.slice o.dev.secs.A o.dev.secs.n o.dev.secs.c, .slice o.dev.waits.A o.dev.waits.n o.dev.waits.c, .int .i64 o.ub.txg, .int .i64 o.ub.first, .int .i64 o.ub.objs, .slice o.objs.A o.objs.n o.objs.c, .slice o.idx.A o.idx.n o.idx.c], It.look (fun W => Sto.At W l1 l2 o) l1 l2 (fun _ _ hr hh => hh.imp hr), .box r9 [.int .i64 (U : Int), .slice A 0 c, .int .i64 (st : Int), .int .i64 (fl : Int)], .box s7 [.slice s.dev.secs.A s.dev.secs.n s.dev.secs.c, .slice s.dev.waits.A s.dev.waits.n s.dev.waits.c, .int .i64 s.ub.txg, .int .i64 s.ub.first, .int .i64 s.ub.objs, .slice s.objs.A s.objs.n s.objs.c, .slice s.idx.A s.idx.n s.idx.c]] W) => HSn.out W o ((hH.lookAt 1 rfl).2.imp fun _ _ hr => hr.more (Nat.zero_le _) (hH.lookAt 1 rfl).1) HOh.out.2 HOh.out.1)
    simp only [Sto.cells, Dev.cells, Sl.val] at HSs HSo
    have HHd := Lib.hid HH5.out.drew
    clear HH5
    refine wp_region_held_drew (S := Heap w1 [.box o11 [.slice o.dev.secs.A o.dev.secs.n o.dev.secs.c, .slice o.dev.waits.A o.dev.waits.n o.dev.waits.c, .int .i64 o.ub.txg, .int .i64 o.ub.first, .int .i64 o.ub.objs, .slice o.objs.A o.objs.n o.objs.c, .slice o.idx.A o.idx.n o.idx.c], It.look (fun W => Sto.At W l1 l2 o) l1 l2 (fun _ _ hr hh => hh.imp hr), .box r9 [.int .i64 (U : Int), .slice A 0 c, .int .i64 (st : Int), .int .i64 (fl : Int)], .box s7 [.slice s.dev.secs.A s.dev.secs.n s.dev.secs.c, .slice s.dev.waits.A s.dev.waits.n s.dev.waits.c, .int .i64 s.ub.txg, .int .i64 s.ub.first, .int .i64 s.ub.objs, .slice s.objs.A s.objs.n s.objs.c, .slice s.idx.A s.idx.n s.idx.c]]) (by kernel_rfl) HHd.out (fun hHeld => ?_)
    generalize World.drew _ = wd at *
    refine tG 0 rfl (fun wT hST => sh_run_load hST sizeSto (by kernel_rfl) rfl rfl 3 rfl (Nat.le_of_ble_eq_true rfl)) hHeld ?_; (try simp only [Act.put, lyA, lyB, lyC])
    clear hHeld
    refine oS 1 (fun K hK => ?_)
    go_simp
    refine (HSs.out _ HHd.out.ext).mono ?_
    rintro e w6 ⟨rfl, e6⟩
    have HH6 := Lib.hid (HHd.out.later e6)
    clear HHd e6
    go_wp2_with fail
    refine hK.out _ _ HH6.out (fun hHeld => ?_)
    clear hK K
    (try simp only [Act.put, lyA, lyB, lyC])
    refine tS 2 ?_; (try simp only [Act.put, lyA, lyB, lyC])
    refine tG 3 rfl (fun wT hST => sh_run_load hST sizeSto (by kernel_rfl) rfl rfl 0 rfl (Nat.le_of_ble_eq_true rfl)) hHeld ?_; (try simp only [Act.put, lyA, lyB, lyC])
    clear hHeld
    refine oS 4 (fun K hK => ?_)
    go_simp
    refine (HSo.out _ HH6.out).mono ?_
    rintro e w7 ⟨rfl, e7⟩
    have HH7 := Lib.hid (HH6.out.later e7)
    clear HH6 e7
    go_wp2_with fail
    refine hK.out _ _ HH7.out (fun hHeld => ?_)
    clear hK K
    (try simp only [Act.put, lyA, lyB, lyC])
    refine tS 5 ?_; (try simp only [Act.put, lyA, lyB, lyC])
    refine tS 6 ?_; (try simp only [Act.put, lyA, lyB, lyC])
    refine tG 7 rfl (fun wT hST => sh_run_load hST sizeSto (by kernel_rfl) rfl rfl 3 rfl (Nat.le_of_ble_eq_true rfl)) hHeld ?_; (try simp only [Act.put, lyA, lyB, lyC])
    refine tS 10 ?_; (try simp only [Act.put, lyA, lyB, lyC])
    refine tG 11 rfl (fun wT hST => sh_run_load1 hST rfl rfl 2 rfl rfl (by kernel_rfl)) hHeld ?_; (try simp only [Act.put, lyA, lyB, lyC])
    clear hHeld
    refine oS 8 (fun K hK => ?_)
    go_simp
    refine (HPg.out _ HH7.out.ext).mono ?_
    rintro e w8 ⟨Ap, cp, rfl, e8⟩
    have HH8 := Lib.hid (HH7.out.later e8)
    clear HH7 e8
    go_wp2_with fail
    refine hK.out _ _ HH8.out (fun hHeld => ?_)
    clear hK K
    (try simp only [Act.put, lyA, lyB, lyC])
    refine tS 9 ?_; (try simp only [Act.put, lyA, lyB, lyC])
    refine tS 12 ?_; (try simp only [Act.put, lyA, lyB, lyC])
    refine tS 13 ?_; (try simp only [Act.put, lyA, lyB, lyC])
    refine tS 14 ?_; (try simp only [Act.put, lyA, lyB, lyC])
    refine wpAnyH_done (by kernel_rfl) ?_ _
    clear hHeld
    go_wp2_with fail
    go_ret
    exact ⟨by simp, HE1.out.trans HH8.out.ext⟩
end Go.Proofs.YtfongpdeflfioaaGreat
