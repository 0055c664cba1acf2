/- The walk of OrderWhole: it returns true. -/
import Derived.Test.YtmbnmggpnbapbaaOlaw
import Derived.Test.YtmbnmggpnbapbaaRchk
namespace Go.Proofs.Ytmbnmggpnbapbaa
open Go.RowKit

def r1 : Rec := ⟨1, ⟨#[97]⟩, 0, 1, none, 0, 0, [], 0, 0, ⟨#[]⟩, 0, 0, 0, 0⟩
def r4 : Rec := ⟨4, ⟨#[]⟩, 0, 0, none, 0, 0, [], 0, 0, ⟨#[]⟩, 0, 0, 0, 0⟩
theorem alive_whole : wholeB [r1, r4] = true := by decide +kernel
theorem r1_wf : r1.wf := ⟨by decide, by decide, by decide, by decide, by decide, by decide, by decide, by decide, by decide, by simp [r1]⟩
theorem r4_wf : r4.wf := ⟨by decide, by decide, by decide, by decide, by decide, by decide, by decide, by decide, by decide, by simp [r4]⟩
set_option maxHeartbeats 1000000 in
theorem alive_any (w : World) : Calls Try.prog 7 #[] w fun e w' => e = .returned (.bool true) ∧ Ext w w' := by
  have HB := Lib.hid alive_whole
  have hin : ∀ w1, Hid (∀ x ∈ [r1, r4], x.wf ∧ Rd w1 0 w1.heap.size x.oA (prps x.own)) := fun w1 x hx => by
    simp only [List.mem_cons, List.not_mem_nil, or_false] at hx
    rcases hx with rfl | rfl
    · exact ⟨r1_wf, Rd.nil⟩
    · exact ⟨r4_wf, Rd.nil⟩
  have H1 := Lib.hid (fun (w1 : World) (h : w.alloc (.cells (recs [r1, r4]).toArray 28) = w1) => whole_any w1 (some ⟨w.heap.size, 0, none⟩) 2 2 [r1, r4] rfl (by decide) (by
    subst h
    exact (rd_new w (recs [r1, r4]).toArray 28).more (Nat.zero_le _) (by simp)) (hin w1).out)
  have H2 := Lib.hid (fun (w1 : World) => whole_any w1 none 0 0 [] rfl (by decide) Rd.nil (by simp))
  rw [Hid] at H1 H2
  simp only [HB.out, show wholeB [] = false from rfl] at H1 H2
  have H1 := Lib.hid H1
  have H2 := Lib.hid H2
  go_enter Try.func7, Try.ntmps7
  go_wp2_with (first
    | (go_at_call 6; (with_reducible refine (H1.out _ ?_).mono ?_); (focus exact rfl); rintro e w2 ⟨rfl, e2⟩)
    | (go_at_call 6; (with_reducible refine (H2.out _).mono ?_); rintro e w3 ⟨rfl, e3⟩))
  go_ret
  exact ⟨rfl, by (repeat (first | exact Below.refl _ _ | exact Ext.refl _ | assumption | refine Below.drew ?_ | refine below_drewN ?_ _ | refine below_alloc ?_ (by first | exact Nat.le_refl _ | assumption | (simp; done) | omega | (simp; omega)) _ | refine below_ext ?_ (by assumption) (by first | exact Nat.le_refl _ | assumption | (simp; done) | omega | (simp; omega)) | refine Ext.drew ?_ | refine Ext.drewN ?_ _ | refine Ext.alloc ?_ _ | refine Ext.setCell ?_ (by first | assumption | (simp; done) | (simp; omega)) _ | refine Below.setCell ?_ (by first | assumption | (simp; done) | (simp; omega)) _ | refine Ext.trans ?_ (by assumption)))⟩

theorem want_lt {xs : List Rec} (h : ¬ 2 ≤ xs.length) : want0 xs = false := by simp [want0, h]
theorem want_ge {xs : List Rec} (h : 2 ≤ xs.length) : want0 xs = (kd xs 0 == 1 && kd xs (xs.length - 1) == 4) := by simp [want0, h]
set_option maxRecDepth 100000 in
set_option maxHeartbeats 4000000 in
theorem owhole_any (w : World) (A : Option Addr) (n c : Nat) (xs : List Rec) (hn : n = xs.length) (hm : n ≤ 9223372036854775807) (hr : Rd w 0 w.heap.size A (recs xs)) (hin : ∀ x ∈ xs, x.wf ∧ Rd w 0 w.heap.size x.oA (prps x.own)) :
    Calls Try.prog 3 #[.slice A n c] w fun e w' => e = .returned (.bool true) ∧ Ext w w' := by
  have Hn := Lib.hid hn
  have HI := Lib.hid hin
  have HWh := Lib.hid (fun w1 (e1 : Ext w w1) => whole_any w1 A n c xs hn hm (Rd.at hr e1 (Nat.le_refl _)) (fun x hx => ⟨(hin x hx).1, Rd.at (hin x hx).2 e1 (Nat.le_refl _)⟩))
  have hl := Lib.hid (want_lt (xs := xs))
  have hg := Lib.hid (want_ge (xs := xs))
  have hi0 := Lib.hid (wi0 xs)
  clear hn hin
  go_enter Try.func3, Try.ntmps3
  go_upto_region 2 with (fail)
  go_cut [4] from 9 to 26 (fun s wx => s = .bool (want0 xs) ∧ w = wx)
  case first =>
    by_cases h2 : 2 ≤ n
    · have q0 : 0 < xs.length := by rw [← Hn.out]; omega
      have q1 : n - 1 < xs.length := by rw [← Hn.out]; omega
      obtain ⟨b1, o1, rfl, _, hb1, G⟩ := rd_rec hr q0
      obtain ⟨b2, o2, hh, _, hb2, G2⟩ := rd_rec hr q1
      obtain ⟨rfl, rfl⟩ : b1 = b2 ∧ o1 = o2 := by simpa using hh
      have g0 := G 0 (.int .i64 (kd xs 0)) (by rw [kd_at xs 0 q0]; rfl)
      have g1 := G2 0 (.int .i64 (kd xs (n - 1))) (by rw [kd_at xs _ q1]; rfl)
      simp only [Nat.add_zero, Nat.zero_mul] at g0 g1
      clear hh G G2
      have hw := Lib.hid (show want0 xs = (kd xs 0 == 1 && kd xs (n - 1) == 4) by have := hg.out (by rw [← Hn.out]; exact h2); rw [Hn.out]; exact this)
      have hs : IntKind.i64.wrap ((n : Int) - 1) = (n : Int) - 1 := IntWalk.i64_in _ (by omega)
      have ht : ((n : Int) - 1).toNat = n - 1 := by omega
      have hp : (1 : Int) ≤ (n : Int) := by omega
      have hp0 : (0 : Int) < (n : Int) := by omega
      generalize kd xs 0 = ka at *
      generalize kd xs (n - 1) = kb at *
      go_wp2_with fail
      all_goals (go_meet; refine ⟨congrArg Value.bool ?_, rfl⟩; rw [hw.out]; (first | (simp [*]; done) | trace_state))
    · have hw := Lib.hid (hl.out (by rw [← Hn.out]; exact h2))
      go_wp2_with fail
      go_meet
      exact ⟨congrArg Value.bool (by rw [hw.out]), rfl⟩
  case rest =>
    obtain ⟨rfl, rfl⟩ := hcut
    generalize want0 xs = w0 at *
    go_wp2_with fail
    go_loopw [4, 5, 6] (fun want nx i wr => ∃ (k : Nat) (b : Bool) (x : Int), k ≤ n ∧ i = .int .i64 k ∧ want = .bool b ∧ nx = .int .i64 x ∧ 0 ≤ x ∧ x ≤ 1024 ∧ Hid (WI xs k b x) ∧ Ext w wr) (fun _ _ i _ => n - (intOf i).toNat)
    case atStart => exact ⟨0, w0, 0, Nat.zero_le _, rfl, rfl, rfl, by omega, by omega, hi0, Ext.refl _⟩
    case round =>
      obtain ⟨k, b, nx, hk, rfl, rfl, rfl, n0, n1, HW, e1⟩ := hrel
      by_cases hlt : k < n
      · have hl : k < xs.length := by rw [← Hn.out]; omega
        obtain ⟨hwf, hrd⟩ := HI.out xs[k] (List.getElem_mem _)
        obtain ⟨b1, o1, rfl, _, hb1, G⟩ := rd_rec hr hl
        have HC := Lib.hid (fun w1 (e : Ext wr w1) => rcheck_any w1 xs[k] (Rd.at hrd (e1.trans e) (Nat.le_refl _)) hwf)
        obtain ⟨h5, h6⟩ := hwf.index
        have hind := Lib.hid (fun (he : recE xs[k] = 0) (h : xs[k].kind = 2 ∨ xs[k].kind = 3) => rec_ind he h)
        have hcnt := Lib.hid (fun (he : recE xs[k] = 0) (h : xs[k].kind = 3) => rec_cnt he h)
        have w_bad := Lib.hid (fun (hb : b = true) (he : recE xs[k] ≠ 0) => wi_bad (hb ▸ HW.out) hl he nx)
        have w_stay := Lib.hid (fun (hb : b = false) => wi_stay (xs := xs) (k := k) (hb ▸ HW.out) nx)
        have w_first := Lib.hid (fun (hb : b = true) (h0 : k = 0) (he : recE xs[k] = 0) => show WI xs (k + 1) true nx by subst h0; exact wi_first (hb ▸ HW.out) hl he)
        have w_last := Lib.hid (fun (hb : b = true) (h0 : 0 < k) (hk : k = n - 1) (he : recE xs[k] = 0) => wi_last (hb ▸ HW.out) h0 hl (by rw [← Hn.out]; exact hk) he)
        have w_midb := Lib.hid (fun (hb : b = true) (h0 : 0 < k) (hk : k ≠ n - 1) (he : recE xs[k] = 0) h => wi_mid_bad (hb ▸ HW.out) h0 hl (by rw [← Hn.out]; exact hk) he h nx)
        have w_mid := Lib.hid (fun (hb : b = true) (h0 : 0 < k) (hk : k ≠ n - 1) (he : recE xs[k] = 0) h h' => wi_mid (hb ▸ HW.out) h0 hl (by rw [← Hn.out]; exact hk) he h h')
        have G' : ∀ j u, xs[k].cells[j]? = some u → wr.cell? ⟨b1, o1 + k * 12 + j, none⟩ = some u := fun j u hu => by rw [Below.cell e1 hb1]; exact G j u hu
        generalize xs[k] = y at *
        generalize recE y = re at *
        obtain ⟨kk, nm, f, g, oA, on, oc, own, ii, cc, d, t0, t1, t2, t3⟩ := y
        have g0 := G' 0 _ rfl
        have g1 := G' 1 _ rfl
        have g2 := G' 2 _ rfl
        have g3 := G' 3 _ rfl
        have g4 := G' 4 _ rfl
        have g5 := G' 5 _ rfl
        have g6 := G' 6 _ rfl
        have g7 := G' 7 _ rfl
        have g8 := G' 8 _ rfl
        have g9 := G' 9 _ rfl
        have g10 := G' 10 _ rfl
        have g11 := G' 11 _ rfl
        simp only [Nat.add_zero] at g0
        simp only at h5 h6 hind hcnt w_midb w_mid
        simp only [Rec.cells] at HC
        clear G G' hrd hwf
        have g0' : ∀ w', Ext wr w' → w'.cell? ⟨b1, o1 + k * 12, none⟩ = some (.int .i64 kk) := fun w' h => by rw [Below.cell (e1.trans h) hb1, ← Below.cell e1 hb1]; exact g0
        have g5' : ∀ w', Ext wr w' → w'.cell? ⟨b1, o1 + k * 12 + 5, none⟩ = some (.int .i64 ii) := fun w' h => by rw [Below.cell (e1.trans h) hb1, ← Below.cell e1 hb1]; exact g5
        have g6' : ∀ w', Ext wr w' → w'.cell? ⟨b1, o1 + k * 12 + 6, none⟩ = some (.int .i64 cc) := fun w' h => by rw [Below.cell (e1.trans h) hb1, ← Below.cell e1 hb1]; exact g6
        cases b
        · go_wp2_with fail
          all_goals
            go_roundw
            case rel => exact ⟨k + 1, false, nx, by omega, by go_num, rfl, rfl, n0, n1, Lib.hid (w_stay.out (by trivial)), e1⟩
            case measure => (first | (simp [intOf]; done) | (simp [intOf]; omega))
        · by_cases hre : re = 0
          · subst hre
            by_cases k0 : k = 0
            · have K0 := Lib.hid k0
              have q0 : ((k : Int) == 0) = true := by simp [k0]
              clear k0
              go_wp2_with (go_at_call 5; refine (HC.out _ (by (repeat (first | exact Below.refl _ _ | exact Ext.refl _ | assumption | refine Below.drew ?_ | refine below_drewN ?_ _ | refine below_alloc ?_ (by first | exact Nat.le_refl _ | assumption | (simp; done) | omega | (simp; omega)) _ | refine below_ext ?_ (by assumption) (by first | exact Nat.le_refl _ | assumption | (simp; done) | omega | (simp; omega)) | refine Ext.drew ?_ | refine Ext.drewN ?_ _ | refine Ext.alloc ?_ _ | refine Ext.setCell ?_ (by first | assumption | (simp; done) | (simp; omega)) _ | refine Below.setCell ?_ (by first | assumption | (simp; done) | (simp; omega)) _ | refine Ext.trans ?_ (by assumption))))).mono ?_; rintro e w2 ⟨rfl, e2⟩)
              all_goals
                go_roundw
                case rel => exact ⟨k + 1, true, nx, by omega, by go_num, rfl, rfl, by omega, by omega, Lib.hid (w_first.out (by trivial) K0.out (by trivial)), by (repeat (first | exact Below.refl _ _ | exact Ext.refl _ | assumption | refine Below.drew ?_ | refine below_drewN ?_ _ | refine below_alloc ?_ (by first | exact Nat.le_refl _ | assumption | (simp; done) | omega | (simp; omega)) _ | refine below_ext ?_ (by assumption) (by first | exact Nat.le_refl _ | assumption | (simp; done) | omega | (simp; omega)) | refine Ext.drew ?_ | refine Ext.drewN ?_ _ | refine Ext.alloc ?_ _ | refine Ext.setCell ?_ (by first | assumption | (simp; done) | (simp; omega)) _ | refine Below.setCell ?_ (by first | assumption | (simp; done) | (simp; omega)) _ | refine Ext.trans ?_ (by assumption)))⟩
                case measure => (first | (simp [intOf]; done) | (simp [intOf]; omega))
            · have K0 := Lib.hid (show 0 < k by omega)
              have q0 : ((k : Int) == 0) = false := by rw [beq_eq_false_iff_ne]; omega
              have hs : IntKind.i64.wrap ((n : Int) - 1) = (n : Int) - 1 := IntWalk.i64_in _ (by omega)
              clear k0
              by_cases k1 : k = n - 1
              · have K1 := Lib.hid k1
                have q1 : ((k : Int) == (n : Int) - 1) = true := by rw [beq_iff_eq]; omega
                clear k1
                go_wp2_with (go_at_call 5; refine (HC.out _ (by (repeat (first | exact Below.refl _ _ | exact Ext.refl _ | assumption | refine Below.drew ?_ | refine below_drewN ?_ _ | refine below_alloc ?_ (by first | exact Nat.le_refl _ | assumption | (simp; done) | omega | (simp; omega)) _ | refine below_ext ?_ (by assumption) (by first | exact Nat.le_refl _ | assumption | (simp; done) | omega | (simp; omega)) | refine Ext.drew ?_ | refine Ext.drewN ?_ _ | refine Ext.alloc ?_ _ | refine Ext.setCell ?_ (by first | assumption | (simp; done) | (simp; omega)) _ | refine Below.setCell ?_ (by first | assumption | (simp; done) | (simp; omega)) _ | refine Ext.trans ?_ (by assumption))))).mono ?_; rintro e w2 ⟨rfl, e2⟩)
                all_goals
                  go_roundw
                  case rel => exact ⟨k + 1, true, nx, by omega, by go_num, rfl, rfl, by omega, by omega, Lib.hid (w_last.out (by trivial) K0.out K1.out (by trivial)), by (repeat (first | exact Below.refl _ _ | exact Ext.refl _ | assumption | refine Below.drew ?_ | refine below_drewN ?_ _ | refine below_alloc ?_ (by first | exact Nat.le_refl _ | assumption | (simp; done) | omega | (simp; omega)) _ | refine below_ext ?_ (by assumption) (by first | exact Nat.le_refl _ | assumption | (simp; done) | omega | (simp; omega)) | refine Ext.drew ?_ | refine Ext.drewN ?_ _ | refine Ext.alloc ?_ _ | refine Ext.setCell ?_ (by first | assumption | (simp; done) | (simp; omega)) _ | refine Below.setCell ?_ (by first | assumption | (simp; done) | (simp; omega)) _ | refine Ext.trans ?_ (by assumption)))⟩
                  case measure => (first | (simp [intOf]; done) | (simp [intOf]; omega))
              · have K1 := Lib.hid k1
                have q1 : ((k : Int) == (n : Int) - 1) = false := by rw [beq_eq_false_iff_ne]; omega
                clear k1
                by_cases k2 : kk = 2
                · subst k2
                  by_cases hi : nx ≤ ii
                  · obtain ⟨i0, i1⟩ := hind.out (by trivial) (.inl rfl)
                    have hx := Lib.hid (w_mid.out (by trivial) K0.out K1.out (by trivial) (.inl rfl) hi)
                    go_wp2_with (go_at_call 5; refine (HC.out _ (by (repeat (first | exact Below.refl _ _ | exact Ext.refl _ | assumption | refine Below.drew ?_ | refine below_drewN ?_ _ | refine below_alloc ?_ (by first | exact Nat.le_refl _ | assumption | (simp; done) | omega | (simp; omega)) _ | refine below_ext ?_ (by assumption) (by first | exact Nat.le_refl _ | assumption | (simp; done) | omega | (simp; omega)) | refine Ext.drew ?_ | refine Ext.drewN ?_ _ | refine Ext.alloc ?_ _ | refine Ext.setCell ?_ (by first | assumption | (simp; done) | (simp; omega)) _ | refine Below.setCell ?_ (by first | assumption | (simp; done) | (simp; omega)) _ | refine Ext.trans ?_ (by assumption))))).mono ?_; rintro e w2 ⟨rfl, e2⟩)
                    all_goals
                      go_roundw
                      case rel => exact ⟨k + 1, true, ii + 1, by omega, by go_num, rfl, rfl, by omega, by omega, Lib.hid (hx.out), by (repeat (first | exact Below.refl _ _ | exact Ext.refl _ | assumption | refine Below.drew ?_ | refine below_drewN ?_ _ | refine below_alloc ?_ (by first | exact Nat.le_refl _ | assumption | (simp; done) | omega | (simp; omega)) _ | refine below_ext ?_ (by assumption) (by first | exact Nat.le_refl _ | assumption | (simp; done) | omega | (simp; omega)) | refine Ext.drew ?_ | refine Ext.drewN ?_ _ | refine Ext.alloc ?_ _ | refine Ext.setCell ?_ (by first | assumption | (simp; done) | (simp; omega)) _ | refine Below.setCell ?_ (by first | assumption | (simp; done) | (simp; omega)) _ | refine Ext.trans ?_ (by assumption)))⟩
                      case measure => (first | (simp [intOf]; done) | (simp [intOf]; omega))
                  · have hx := Lib.hid (w_midb.out (by trivial) K0.out K1.out (by trivial) (fun h => hi h.2))
                    go_wp2_with (go_at_call 5; refine (HC.out _ (by (repeat (first | exact Below.refl _ _ | exact Ext.refl _ | assumption | refine Below.drew ?_ | refine below_drewN ?_ _ | refine below_alloc ?_ (by first | exact Nat.le_refl _ | assumption | (simp; done) | omega | (simp; omega)) _ | refine below_ext ?_ (by assumption) (by first | exact Nat.le_refl _ | assumption | (simp; done) | omega | (simp; omega)) | refine Ext.drew ?_ | refine Ext.drewN ?_ _ | refine Ext.alloc ?_ _ | refine Ext.setCell ?_ (by first | assumption | (simp; done) | (simp; omega)) _ | refine Below.setCell ?_ (by first | assumption | (simp; done) | (simp; omega)) _ | refine Ext.trans ?_ (by assumption))))).mono ?_; rintro e w2 ⟨rfl, e2⟩)
                    all_goals
                      go_roundw
                      case rel => exact ⟨k + 1, false, nx, by omega, by go_num, rfl, rfl, by omega, by omega, Lib.hid (hx.out), by (repeat (first | exact Below.refl _ _ | exact Ext.refl _ | assumption | refine Below.drew ?_ | refine below_drewN ?_ _ | refine below_alloc ?_ (by first | exact Nat.le_refl _ | assumption | (simp; done) | omega | (simp; omega)) _ | refine below_ext ?_ (by assumption) (by first | exact Nat.le_refl _ | assumption | (simp; done) | omega | (simp; omega)) | refine Ext.drew ?_ | refine Ext.drewN ?_ _ | refine Ext.alloc ?_ _ | refine Ext.setCell ?_ (by first | assumption | (simp; done) | (simp; omega)) _ | refine Below.setCell ?_ (by first | assumption | (simp; done) | (simp; omega)) _ | refine Ext.trans ?_ (by assumption)))⟩
                      case measure => (first | (simp [intOf]; done) | (simp [intOf]; omega))
                · by_cases k3 : kk = 3
                  · subst k3
                    by_cases hi : nx ≤ ii
                    · obtain ⟨i0, i1⟩ := hind.out (by trivial) (.inr rfl)
                      obtain ⟨c0, c1⟩ := hcnt.out (by trivial) rfl
                      have hx := Lib.hid (w_mid.out (by trivial) K0.out K1.out (by trivial) (.inr rfl) hi)
                      go_wp2_with (go_at_call 5; refine (HC.out _ (by (repeat (first | exact Below.refl _ _ | exact Ext.refl _ | assumption | refine Below.drew ?_ | refine below_drewN ?_ _ | refine below_alloc ?_ (by first | exact Nat.le_refl _ | assumption | (simp; done) | omega | (simp; omega)) _ | refine below_ext ?_ (by assumption) (by first | exact Nat.le_refl _ | assumption | (simp; done) | omega | (simp; omega)) | refine Ext.drew ?_ | refine Ext.drewN ?_ _ | refine Ext.alloc ?_ _ | refine Ext.setCell ?_ (by first | assumption | (simp; done) | (simp; omega)) _ | refine Below.setCell ?_ (by first | assumption | (simp; done) | (simp; omega)) _ | refine Ext.trans ?_ (by assumption))))).mono ?_; rintro e w2 ⟨rfl, e2⟩)
                      have h14 : IntKind.i64.wrap (ii + cc) = ii + cc := IntWalk.i64_in _ (by omega)
                      go_quiet (fail)
                      go_wp2_with fail
                      go_roundw
                      case rel => exact ⟨k + 1, true, ii + cc, by omega, by go_num, rfl, rfl, by omega, by omega, Lib.hid (hx.out), by (repeat (first | exact Below.refl _ _ | exact Ext.refl _ | assumption | refine Below.drew ?_ | refine below_drewN ?_ _ | refine below_alloc ?_ (by first | exact Nat.le_refl _ | assumption | (simp; done) | omega | (simp; omega)) _ | refine below_ext ?_ (by assumption) (by first | exact Nat.le_refl _ | assumption | (simp; done) | omega | (simp; omega)) | refine Ext.drew ?_ | refine Ext.drewN ?_ _ | refine Ext.alloc ?_ _ | refine Ext.setCell ?_ (by first | assumption | (simp; done) | (simp; omega)) _ | refine Below.setCell ?_ (by first | assumption | (simp; done) | (simp; omega)) _ | refine Ext.trans ?_ (by assumption)))⟩
                      case measure => (first | (simp [intOf]; done) | (simp [intOf]; omega))
                    · have hx := Lib.hid (w_midb.out (by trivial) K0.out K1.out (by trivial) (fun h => hi h.2))
                      go_wp2_with (go_at_call 5; refine (HC.out _ (by (repeat (first | exact Below.refl _ _ | exact Ext.refl _ | assumption | refine Below.drew ?_ | refine below_drewN ?_ _ | refine below_alloc ?_ (by first | exact Nat.le_refl _ | assumption | (simp; done) | omega | (simp; omega)) _ | refine below_ext ?_ (by assumption) (by first | exact Nat.le_refl _ | assumption | (simp; done) | omega | (simp; omega)) | refine Ext.drew ?_ | refine Ext.drewN ?_ _ | refine Ext.alloc ?_ _ | refine Ext.setCell ?_ (by first | assumption | (simp; done) | (simp; omega)) _ | refine Below.setCell ?_ (by first | assumption | (simp; done) | (simp; omega)) _ | refine Ext.trans ?_ (by assumption))))).mono ?_; rintro e w2 ⟨rfl, e2⟩)
                      all_goals
                        go_roundw
                        case rel => exact ⟨k + 1, false, nx, by omega, by go_num, rfl, rfl, by omega, by omega, Lib.hid (hx.out), by (repeat (first | exact Below.refl _ _ | exact Ext.refl _ | assumption | refine Below.drew ?_ | refine below_drewN ?_ _ | refine below_alloc ?_ (by first | exact Nat.le_refl _ | assumption | (simp; done) | omega | (simp; omega)) _ | refine below_ext ?_ (by assumption) (by first | exact Nat.le_refl _ | assumption | (simp; done) | omega | (simp; omega)) | refine Ext.drew ?_ | refine Ext.drewN ?_ _ | refine Ext.alloc ?_ _ | refine Ext.setCell ?_ (by first | assumption | (simp; done) | (simp; omega)) _ | refine Below.setCell ?_ (by first | assumption | (simp; done) | (simp; omega)) _ | refine Ext.trans ?_ (by assumption)))⟩
                        case measure => (first | (simp [intOf]; done) | (simp [intOf]; omega))
                  · have hx := Lib.hid (w_midb.out (by trivial) K0.out K1.out (by trivial) (fun h => by omega))
                    go_wp2_with (go_at_call 5; refine (HC.out _ (by (repeat (first | exact Below.refl _ _ | exact Ext.refl _ | assumption | refine Below.drew ?_ | refine below_drewN ?_ _ | refine below_alloc ?_ (by first | exact Nat.le_refl _ | assumption | (simp; done) | omega | (simp; omega)) _ | refine below_ext ?_ (by assumption) (by first | exact Nat.le_refl _ | assumption | (simp; done) | omega | (simp; omega)) | refine Ext.drew ?_ | refine Ext.drewN ?_ _ | refine Ext.alloc ?_ _ | refine Ext.setCell ?_ (by first | assumption | (simp; done) | (simp; omega)) _ | refine Below.setCell ?_ (by first | assumption | (simp; done) | (simp; omega)) _ | refine Ext.trans ?_ (by assumption))))).mono ?_; rintro e w2 ⟨rfl, e2⟩)
                    all_goals
                      go_roundw
                      case rel => exact ⟨k + 1, false, nx, by omega, by go_num, rfl, rfl, by omega, by omega, Lib.hid (hx.out), by (repeat (first | exact Below.refl _ _ | exact Ext.refl _ | assumption | refine Below.drew ?_ | refine below_drewN ?_ _ | refine below_alloc ?_ (by first | exact Nat.le_refl _ | assumption | (simp; done) | omega | (simp; omega)) _ | refine below_ext ?_ (by assumption) (by first | exact Nat.le_refl _ | assumption | (simp; done) | omega | (simp; omega)) | refine Ext.drew ?_ | refine Ext.drewN ?_ _ | refine Ext.alloc ?_ _ | refine Ext.setCell ?_ (by first | assumption | (simp; done) | (simp; omega)) _ | refine Below.setCell ?_ (by first | assumption | (simp; done) | (simp; omega)) _ | refine Ext.trans ?_ (by assumption)))⟩
                      case measure => (first | (simp [intOf]; done) | (simp [intOf]; omega))
          · have hre2 : (re == 0) = false := by simpa using hre
            go_wp2_with (go_at_call 5; refine (HC.out _ (by (repeat (first | exact Below.refl _ _ | exact Ext.refl _ | assumption | refine Below.drew ?_ | refine below_drewN ?_ _ | refine below_alloc ?_ (by first | exact Nat.le_refl _ | assumption | (simp; done) | omega | (simp; omega)) _ | refine below_ext ?_ (by assumption) (by first | exact Nat.le_refl _ | assumption | (simp; done) | omega | (simp; omega)) | refine Ext.drew ?_ | refine Ext.drewN ?_ _ | refine Ext.alloc ?_ _ | refine Ext.setCell ?_ (by first | assumption | (simp; done) | (simp; omega)) _ | refine Below.setCell ?_ (by first | assumption | (simp; done) | (simp; omega)) _ | refine Ext.trans ?_ (by assumption))))).mono ?_; rintro e w2 ⟨rfl, e2⟩)
            all_goals
              go_roundw
              case rel => exact ⟨k + 1, false, nx, by omega, by go_num, rfl, rfl, n0, n1, Lib.hid (w_bad.out (by trivial) hre), by (repeat (first | exact Below.refl _ _ | exact Ext.refl _ | assumption | refine Below.drew ?_ | refine below_drewN ?_ _ | refine below_alloc ?_ (by first | exact Nat.le_refl _ | assumption | (simp; done) | omega | (simp; omega)) _ | refine below_ext ?_ (by assumption) (by first | exact Nat.le_refl _ | assumption | (simp; done) | omega | (simp; omega)) | refine Ext.drew ?_ | refine Ext.drewN ?_ _ | refine Ext.alloc ?_ _ | refine Ext.setCell ?_ (by first | assumption | (simp; done) | (simp; omega)) _ | refine Below.setCell ?_ (by first | assumption | (simp; done) | (simp; omega)) _ | refine Ext.trans ?_ (by assumption)))⟩
              case measure => (first | (simp [intOf]; done) | (simp [intOf]; omega))
      · obtain rfl : k = n := by omega
        have hv := Lib.hid (show wholeB xs = b by
          refine wi_end (nx := nx) ?_
          rw [← Hn.out]
          exact HW.out)
        go_wp2_with (first
          | (go_at_call 6; refine (HWh.out _ e1).mono ?_; rintro e w2 ⟨rfl, e2⟩; rw [hv.out])
          | (go_at_call 7; refine (alive_any _).mono ?_; rintro e w3 ⟨rfl, e3⟩))
        go_ret
        exact ⟨rfl, by (repeat (first | exact Below.refl _ _ | exact Ext.refl _ | assumption | refine Below.drew ?_ | refine below_drewN ?_ _ | refine below_alloc ?_ (by first | exact Nat.le_refl _ | assumption | (simp; done) | omega | (simp; omega)) _ | refine below_ext ?_ (by assumption) (by first | exact Nat.le_refl _ | assumption | (simp; done) | omega | (simp; omega)) | refine Ext.drew ?_ | refine Ext.drewN ?_ _ | refine Ext.alloc ?_ _ | refine Ext.setCell ?_ (by first | assumption | (simp; done) | (simp; omega)) _ | refine Below.setCell ?_ (by first | assumption | (simp; done) | (simp; omega)) _ | refine Ext.trans ?_ (by assumption)))⟩
end Go.Proofs.Ytmbnmggpnbapbaa
