/- The walk of RequestOctets: it returns true. It reads the table strings.asciiSpace as it was laid. -/
import Derived.Test.YtpbbjmfhcgcldaaDoorRlaw
import Derived.Test.YtpbbjmfhcgcldaaDoorKnd
namespace Go.Proofs.YtpbbjmfhcgcldaaDoor
open Go.RowKit
set_option linter.unusedVariables false
set_option linter.unusedSimpArgs false

theorem box_drop {w w' : World} {cs : Array Value} {t : TypeId} (h : w.alloc (.cells cs t) = w') : Ext w w' := by rw [← h]; exact (Ext.refl _).alloc _
theorem Rep.zero_at (w : World) (lo hi : Nat) : Rep.At w lo hi Rep.zero := ⟨⟨by decide, by decide⟩, ⟨by decide, by decide⟩, rfl, Nat.le_refl _, Nat.zero_le _, Rd.nil⟩
set_option maxRecDepth 100000 in
set_option maxHeartbeats 8000000 in
theorem roct_any (w : World) (hT : Tab w) (A : Option Addr) (n c : Nat) (b : List UInt8) (hn : n = b.length) (hnc : n ≤ c) (hr : Rd w 0 w.heap.size A (bytes b)) (hb : n ≤ 150000000000000) (hc : c ≤ 9223372036854775807) :
    Calls Tryd.prog 5 #[.slice A n c] w fun e w' => e = .returned (.bool true) ∧ Ext w w' := by
  have HT := Lib.hid hT
  have HP := Lib.hid (fun w1 (e : Ext w w1) => parse_any w1 A n c b hn hnc (Rd.at hr e (Nat.le_refl _)) hb hc)
  have HQ := Lib.hid (fun w1 (e : Ext w w1) => readr_any w1 A n c b hn hnc (Rd.at hr e (Nat.le_refl _)) hb hc)
  have HCv := Lib.hid (fun w1 (e : Ext w w1) => run_conv_str (P := Tryd.prog) w1 28 9 5 Tryd.underlying28 Tryd.underlying5 Tryd.underlying9 _ _ A n c b hn (Rd.at hr e (Nat.le_refl _)))
  have HO := Lib.hid (req_octets b)
  have HRo := Lib.hid (fun r => rep_octets b r)
  clear hT hr hn
  generalize hpv : PsV b = pv at *
  generalize hrv : RdV b = rv at *
  clear hpv hrv
  go_enter Tryd.func5, Tryd.ntmps5
  go_wp2_with fail
  refine (alive29_any _ HT.out).mono ?_
  rintro e w1 ⟨rfl, e1⟩
  go_wp2_with fail
  refine (HP.out _ e1).mono ?_
  rintro e w2 ⟨hp, e2⟩
  have x2 : Ext w w2 := e1.trans e2
  cases pv with
  | some r =>
    obtain rfl := hp
    obtain ⟨ho1, ho2, hok⟩ := HO.out r rfl
    have HOc := Lib.hid (fun w1 => octets_any r w1 hok)
    rw [ho1, ho2] at HOc
    clear ho1 ho2 hok HO HP
    obtain ⟨tn, us, ki, pa, na, ot, ix, cn, da⟩ := r
    simp only [Req.cells] at HOc ⊢
    go_upto_region 4 with fail
    generalize hw3 : World.alloc w2 _ = w3
    have e3 := box_drop hw3
    have hbx := Bx.new hw3
    clear hw3
    have c0 := hbx.cell 0 _ rfl
    have c1 := hbx.cell 1 _ rfl
    have c2 := hbx.cell 2 _ rfl
    have c3 := hbx.cell 3 _ rfl
    have c4 := hbx.cell 4 _ rfl
    have c5 := hbx.cell 5 _ rfl
    have c6 := hbx.cell 6 _ rfl
    have c7 := hbx.cell 7 _ rfl
    have c8 := hbx.cell 8 _ rfl
    clear hbx
    go_wp2_with (go_at_call 12; refine (num29_any _ _).mono ?_; rintro e wb ⟨rfl, rfl⟩)
    refine (HOc.out w3).mono ?_
    rintro e w5 ⟨v, rfl, hown, e5⟩
    obtain ⟨A5, cap5, rfl, _, _, _⟩ := own_form hown
    have x5 : Ext w w5 := x2.trans (e3.trans e5)
    have hcv1 := run_conv_str (P := Tryd.prog) w5 28 9 5 Tryd.underlying28 Tryd.underlying5 Tryd.underlying9 _ _ A5 b.length cap5 b rfl (Rd.of_own hown)
    have hcv2 := HCv.out _ x5
    clear hown c0 c1 c2 c3 c4 c5 c6 c7 c8 e5 e3 e2 e1
    go_wp2_with (go_at_call 12; refine (num29_any _ _).mono ?_; rintro e wb ⟨rfl, rfl⟩)
    refine (HQ.out _ x5).mono ?_
    rintro e w6 ⟨hq, e6⟩
    have x6 : Ext w w6 := x5.trans e6
    cases rv with
    | some v =>
      obtain ⟨r, rfl, hv, hat⟩ := hq
      subst hv
      obtain ⟨hr1, hr2⟩ := HRo.out r rfl
      have hln : r.list.n ≤ 1024 := by
        have h1 := (octE_zero hr1).2.1
        have h2 := ((wE_zero _).1 h1).1
        have h3 := hat.len
        simp only [Rep.texts, List.length_append, List.length_cons, List.length_nil] at h2
        omega
      have HRp := Lib.hid (fun w1 (e : Ext w6 w1) => reply_any r w1 ((hat.low (Nat.zero_le _)).on e (Nat.le_refl _)) (by omega))
      rw [hr1, hr2] at HRp
      clear hr1 hr2 hln hat HRo HQ
      obtain ⟨er, nu, da', ⟨lA, ln, lc, lx⟩⟩ := r
      simp only [Rep.cells, Sl.val] at HRp ⊢
      go_upto_region 9 with fail
      generalize hw7 : World.alloc w6 _ = w7
      have e7 := box_drop hw7
      have hbx := Bx.new hw7
      clear hw7
      have c0 := hbx.cell 0 _ rfl
      have c1 := hbx.cell 1 _ rfl
      have c2 := hbx.cell 2 _ rfl
      have c3 := hbx.cell 3 _ rfl
      clear hbx
      go_wp2_with (go_at_call 12; refine (num29_any _ _).mono ?_; rintro e wb ⟨rfl, rfl⟩)
      refine (HRp.out w7 e7).mono ?_
      rintro e w8 ⟨v, rfl, hown, e8⟩
      obtain ⟨A8, cap8, rfl, _, _, _⟩ := own_form hown
      have x8 : Ext w w8 := x6.trans (e7.trans e8)
      have hcv1 := run_conv_str (P := Tryd.prog) w8 28 9 5 Tryd.underlying28 Tryd.underlying5 Tryd.underlying9 _ _ A8 b.length cap8 b rfl (Rd.of_own hown)
      have hcv2 := HCv.out _ x8
      clear hown c0 c1 c2 c3 e8 e7
      go_wp2_with (go_at_call 12; refine (num29_any _ _).mono ?_; rintro e wb ⟨rfl, rfl⟩)
      go_ret
      exact ⟨rfl, x8⟩
    | none =>
      obtain rfl := hq
      have HSm := Lib.hid (fun w1 => same_any Rep.zero Rep.zero w1 (Rep.zero_at _ _ _) (Rep.zero_at _ _ _) rfl)
      simp only [Rep.cells, Rep.zero, Sl.val] at HSm ⊢
      go_upto_region 9 with fail
      generalize hw7 : World.alloc w6 _ = w7
      have e7 := box_drop hw7
      have hbx := Bx.new hw7
      clear hw7
      have c0 := hbx.cell 0 _ rfl
      have c1 := hbx.cell 1 _ rfl
      have c2 := hbx.cell 2 _ rfl
      have c3 := hbx.cell 3 _ rfl
      clear hbx
      have x7 := x6.trans e7
      go_wp2_with (first | (go_at_call 12; refine (num29_any _ _).mono ?_; rintro e wb ⟨rfl, rfl⟩) | (go_at_call 19; refine (HSm.out _).mono ?_; rintro e w8 ⟨rfl, e8⟩))
      go_ret
      exact ⟨rfl, x7.trans e8⟩
  | none =>
    obtain rfl := hp
    simp only [Req.cells, Req.zero] at ⊢
    go_upto_region 4 with fail
    generalize hw3 : World.alloc w2 _ = w5
    have e3 := box_drop hw3
    clear hw3
    have x5 : Ext w w5 := x2.trans e3
    clear e3 e2 e1
    go_wp2_with (go_at_call 12; refine (num29_any _ _).mono ?_; rintro e wb ⟨rfl, rfl⟩)
    refine (HQ.out _ x5).mono ?_
    rintro e w6 ⟨hq, e6⟩
    have x6 : Ext w w6 := x5.trans e6
    cases rv with
    | some v =>
      obtain ⟨r, rfl, hv, hat⟩ := hq
      subst hv
      obtain ⟨hr1, hr2⟩ := HRo.out r rfl
      have hln : r.list.n ≤ 1024 := by
        have h1 := (octE_zero hr1).2.1
        have h2 := ((wE_zero _).1 h1).1
        have h3 := hat.len
        simp only [Rep.texts, List.length_append, List.length_cons, List.length_nil] at h2
        omega
      have HRp := Lib.hid (fun w1 (e : Ext w6 w1) => reply_any r w1 ((hat.low (Nat.zero_le _)).on e (Nat.le_refl _)) (by omega))
      rw [hr1, hr2] at HRp
      clear hr1 hr2 hln hat HRo HQ
      obtain ⟨er, nu, da', ⟨lA, ln, lc, lx⟩⟩ := r
      simp only [Rep.cells, Sl.val] at HRp ⊢
      go_upto_region 9 with fail
      generalize hw7 : World.alloc w6 _ = w7
      have e7 := box_drop hw7
      have hbx := Bx.new hw7
      clear hw7
      have c0 := hbx.cell 0 _ rfl
      have c1 := hbx.cell 1 _ rfl
      have c2 := hbx.cell 2 _ rfl
      have c3 := hbx.cell 3 _ rfl
      clear hbx
      go_wp2_with (go_at_call 12; refine (num29_any _ _).mono ?_; rintro e wb ⟨rfl, rfl⟩)
      refine (HRp.out w7 e7).mono ?_
      rintro e w8 ⟨v, rfl, hown, e8⟩
      obtain ⟨A8, cap8, rfl, _, _, _⟩ := own_form hown
      have x8 : Ext w w8 := x6.trans (e7.trans e8)
      have hcv1 := run_conv_str (P := Tryd.prog) w8 28 9 5 Tryd.underlying28 Tryd.underlying5 Tryd.underlying9 _ _ A8 b.length cap8 b rfl (Rd.of_own hown)
      have hcv2 := HCv.out _ x8
      clear hown c0 c1 c2 c3 e8 e7
      go_wp2_with (go_at_call 12; refine (num29_any _ _).mono ?_; rintro e wb ⟨rfl, rfl⟩)
      go_ret
      exact ⟨rfl, x8⟩
    | none =>
      obtain rfl := hq
      have HSm := Lib.hid (fun w1 => same_any Rep.zero Rep.zero w1 (Rep.zero_at _ _ _) (Rep.zero_at _ _ _) rfl)
      simp only [Rep.cells, Rep.zero, Sl.val] at HSm ⊢
      go_upto_region 9 with fail
      generalize hw7 : World.alloc w6 _ = w7
      have e7 := box_drop hw7
      have hbx := Bx.new hw7
      clear hw7
      have c0 := hbx.cell 0 _ rfl
      have c1 := hbx.cell 1 _ rfl
      have c2 := hbx.cell 2 _ rfl
      have c3 := hbx.cell 3 _ rfl
      clear hbx
      have x7 := x6.trans e7
      go_wp2_with (first | (go_at_call 12; refine (num29_any _ _).mono ?_; rintro e wb ⟨rfl, rfl⟩) | (go_at_call 19; refine (HSm.out _).mono ?_; rintro e w8 ⟨rfl, e8⟩))
      go_ret
      exact ⟨rfl, x7.trans e8⟩
end Go.Proofs.YtpbbjmfhcgcldaaDoor
