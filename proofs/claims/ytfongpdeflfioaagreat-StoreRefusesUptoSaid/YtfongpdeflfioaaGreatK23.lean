/- The texts Fmt in one file. -/
import Derived.Test.YtfongpdeflfioaaGreatK21
import Derived.Test.YtfongpdeflfioaaGreatK22
/- store.Format. -/
namespace Go.Proofs.YtfongpdeflfioaaGreat
open Go.RowKit Go.Maps Go.Sort Go.Shelf
set_option linter.unusedVariables false
set_option linter.unusedSimpArgs false

section
variable {P : Program} {w0 w : World} {its : List It} {R : Ending → World → Prop} {a : Act} {fn : Func}
theorem ret_cell3 {t : TypeId} {x b p n y z : Nat} {vs : List Value} {v u : Value} (hs : (P.info? t).map (·.size) = some n) (hk : rowK P t = some true) (H : Heap w0 its w) (hres : fn.results = #[.cell x t, .tmp y, .tmp z]) (hx : a.tmps.getD x undef = .pointer (some ⟨b, p, none⟩)) (hy : a.tmps.getD y undef = v) (hz : a.tmps.getD z undef = u) (i : Nat) (hi : its[i]? = some (.box b vs)) (hl : Nat.ble (p + n) vs.length = true)
    (hd : a.defers = []) (hR : R (.returned (.tuple #[.agg ((vs.drop p).take n).toArray, v, u])) w) : bodyPost P fn R .ret a w := by
  refine ⟨hd, _, ?_, hR⟩
  have := sh_loadVar H hs hk i hi (Nat.le_of_ble_eq_true hl)
  have hx' : a.tmps[x]?.getD undef = .pointer (some ⟨b, p, none⟩) := by simpa using hx
  have hy' : a.tmps[y]?.getD undef = v := by simpa using hy
  have hz' : a.tmps[z]?.getD undef = u := by simpa using hz
  simp only [results, hres]
  simp [asAddr, hx', hy', hz', this]
end
/-- something that reads in memory that came to be in a call, kept as an item -/
def It.look (J : World → Prop) (lo hi : Nat) (hJ : ∀ w w' : World, (∀ A cs, Rd w lo hi A cs → Rd w' lo hi A cs) → J w → J w') : It :=
  .any (fun k => lo ≤ k ∧ k < hi) (fun w => hi ≤ w.heap.size ∧ J w) (fun w k h hk => Nat.lt_of_lt_of_le hk.2 h.1) (fun w w' hs hk h => ⟨Nat.le_trans h.1 hs, hJ w w' (fun A cs hr hn => by
    obtain ⟨b, o, e, h1, h2, h3⟩ := hr hn
    exact ⟨b, o, e, h1, h2, fun j u hu => (World.cell?_of_block (w := w) (a := ⟨b, o + j, none⟩) (hk b ⟨h1, h2⟩)).trans (h3 j u hu)⟩) h.2⟩)
theorem Heap.addLook {w0 w w' : World} {its : List It} (H : Heap w0 its w) (e : Ext w w') {J : World → Prop} {lo hi : Nat} (hJ : ∀ w w' : World, (∀ A cs, Rd w lo hi A cs → Rd w' lo hi A cs) → J w → J w') (hl : w.heap.size ≤ lo) (hh : hi ≤ w'.heap.size) (h : J w') : Heap w0 (It.look J lo hi hJ :: its) w' :=
  H.add e ⟨fun k hk => Nat.le_trans H.ext.size (Nat.le_trans hl hk.1), hh, h⟩ (fun k hk => Nat.le_trans hl hk.1)
theorem Heap.lookAt {w0 w : World} {its : List It} (H : Heap w0 its w) {J : World → Prop} {lo hi : Nat} {hJ : ∀ w w' : World, (∀ A cs, Rd w lo hi A cs → Rd w' lo hi A cs) → J w → J w'} (i : Nat) (hi' : its[i]? = some (It.look J lo hi hJ)) : hi ≤ w.heap.size ∧ J w := (H.all i _ hi').2

theorem uenc_ok (w : World) (u : Ub) (h : u.wf) (h0 : ubE u = 0) : Calls Tryz.prog 58 #[.agg u.cells.toArray] w fun e w' => ∃ A c, e = .returned (.tuple #[.slice A 64 c, .int .i64 0]) ∧ w'.ownsRow w.heap.size 5 1 (.slice A 64 c) 64 (bytes (ueB u)) ∧ Ext w w' := by
  refine (uenc_any w u h).mono ?_
  rintro e w' ⟨v, n, rfl, ho, ee⟩
  rw [h0, if_pos rfl] at ho
  have hn : n = 64 := by have := ho.1; rw [bytes_length, ueB_len, Nat.mul_one] at this; exact this.symm
  subst hn
  obtain ⟨A, c, rfl, _, _, _⟩ := own_form ho
  exact ⟨A, c, by rw [h0], ho, ee⟩
/-- a new device's sectors -/
def fmtV (n : Nat) : List (List UInt8) := ((List.replicate n (zeros 64)).set 1 (ueB ⟨1, 0, 0⟩)).set 0 (ueB ⟨2, 0, 0⟩)
/-- what store.Format tells -/
def FmOut (w : World) (n : Nat) (e : Ending) (w' : World) : Prop :=
  ∃ (s : Sto) (A : Option Addr), e = .returned (.tuple #[.agg s.cells.toArray, .slice A 3 3, .int .i64 0]) ∧ s.dev.secv = fmtV n ∧ s.dev.waits.n = 0 ∧ s.dev.waits.xs = [] ∧ s.dev.secs.n = n ∧ s.ub = ⟨2, 0, 0⟩ ∧ s.objs = ⟨none, 0, 0, []⟩ ∧ s.idx = ⟨none, 0, 0, []⟩ ∧ Sto.At w' w.heap.size w'.heap.size s ∧ Ext w w'
theorem all64 {d : Dev} {w : World} {lo hi : Nat} (h : Dev.At w lo hi d) (hs : ∀ s ∈ d.secv, s.length = 64) (hw : d.waits.n = 0) (h2 : 2 ≤ d.secs.n) (h8 : d.secs.n ≤ 8192) : chkE d = 0 := by
  unfold chkE
  have hx : d.waits.xs = [] := List.eq_nil_of_length_eq_zero (by rw [← h.waits.len]; exact hw)
  rw [if_neg, hx, if_neg (by simp)]
  rintro (q | q | q)
  · omega
  · omega
  · obtain ⟨s, hs1, hs2⟩ := List.any_eq_true.1 q
    have h1 := hs s.xs (List.mem_map_of_mem (f := fun s => s.xs) hs1)
    have h3 := (h.secs.all s hs1).len
    simp [oddO] at hs2
    omega
set_option maxRecDepth 100000 in
set_option maxHeartbeats 8000000 in
theorem fmt_yes (w : World) (n : Nat) (h0 : 2 ≤ n) (h1 : n ≤ 8192) : Calls Tryz.prog 51 #[.int .i64 (n : Int)] w (FmOut w n) := by
  have HU2 := Lib.hid (fun W => uenc_ok W ⟨2, 0, 0⟩ (by constructor <;> decide) (by decide))
  have HU1 := Lib.hid (fun W => uenc_ok W ⟨1, 0, 0⟩ (by constructor <;> decide) (by decide))
  have L2 := Lib.hid (ueB_len ⟨2, 0, 0⟩)
  have L1 := Lib.hid (ueB_len ⟨1, 0, 0⟩)
  have HF := Lib.hid (show fmtV n = ((List.replicate n (zeros 64)).set 1 (ueB ⟨1, 0, 0⟩)).set 0 (ueB ⟨2, 0, 0⟩) from rfl)
  generalize ueB ⟨2, 0, 0⟩ = B2 at *
  generalize ueB ⟨1, 0, 0⟩ = B1 at *
  go_enter Tryz.func51, Tryz.ntmps51
  go_upto_region 1 with fail
  generalize hwH : World.alloc w _ = w1; have HH := Lib.hid (Heap.one hwH); clear hwH
  go_wp2_with fail
  refine (new_yes w1 n h0 h1).mono ?_
  rintro e w2 ⟨⟨d, rfl, hsv, hwt, hd⟩, e2⟩
  have HHn := Lib.hid (HH.out.addLook e2 (J := fun W => Dev.At W w1.heap.size w2.heap.size d) (fun _ _ hr hh => hh.imp hr) (Nat.le_refl _) (Nat.le_refl _) hd)
  clear HH
  have HH := HHn
  clear HHn
  have HD := Lib.hid hd
  have HSV := Lib.hid (show d.secv = List.replicate n (zeros 64) from hsv)
  have HWT := Lib.hid hwt
  have hlen : d.secs.n = n := by
    have h3 := congrArg List.length HSV.out
    rw [Dev.secv, List.length_map, List.length_replicate, ← HD.out.secs.len] at h3
    exact h3
  have HLn := Lib.hid hlen
  have HE2 := Lib.hid e2
  have HCk := Lib.hid (all64 HD.out (fun s hs => by rw [HSV.out] at hs; rw [(List.mem_replicate.1 hs).2]; rfl) (by rw [HWT.out]) (by omega) (by omega))
  clear hsv hwt hd e2 hlen
  obtain ⟨⟨dA, dn, dc, dx⟩, ⟨vA, vn, vc, vx⟩⟩ := d
  simp only [Dev.cells, Sl.val]
  go_upto_region 4 with (first | (refine shl_store (HH.out.alloc _ _) sizeDev rfl rfl rfl rfl 0 rfl rfl rfl rfl ?_; clear HH; intro wS HHS; have HH := Lib.hid HHS; clear HHS))
  go_wp2_with fail
  refine (HU2.out _).mono ?_
  rintro e w3 ⟨A2, c2, rfl, hown, e3⟩
  have HHn := Lib.hid (HH.out.addRow e3 hown)
  clear HH hown e3
  have HH := HHn
  clear HHn
  go_wp2_with fail
  refine (HU1.out _).mono ?_
  rintro e w4 ⟨A1, c1, rfl, hown, e4⟩
  have HHn := Lib.hid (HH.out.addRow e4 hown)
  clear HH hown e4
  have HH := HHn
  clear HHn
  go_upto_region 7 with fail
  generalize hwA : World.alloc _ _ = w5
  have HHn := Lib.hid (HH.out.allocE hwA)
  clear HH hwA
  have HH := HHn
  clear HHn
  go_wp2_with (refine shl_load HH.out sizeDev (by kernel_rfl) rfl rfl rfl 3 rfl rfl ?_)
  have HSz := Lib.hid HH.out.ext.size
  obtain ⟨k11, k12⟩ := own_form2 (HH.out.rowAt 1 rfl)
  obtain ⟨k21, k22⟩ := own_form2 (HH.out.rowAt 2 rfl)
  have HAc := Lib.hid (show Acs w5 (some ⟨w4.heap.size, 0, none⟩) 3 3 [⟨false, 1, ⟨A1, 64, c1, B1⟩⟩, ⟨false, 0, ⟨A2, 64, c2, B2⟩⟩, ⟨true, 0, ⟨none, 0, 0, []⟩⟩] from
    ⟨rfl, by decide, (HH.out.boxRd 0 rfl).more (Nat.zero_le _) (Nat.le_refl _), fun a ha => by
      simp only [List.mem_cons, List.not_mem_nil, or_false] at ha
      rcases ha with rfl | rfl | rfl
      · exact ⟨(by show (-9223372036854775808 : Int) ≤ 1; decide), (by show (1 : Int) ≤ 9223372036854775807; decide), L1.out.symm, k11, k12, by rw [octs_flat]; exact (HH.out.rowRd 1 rfl).more (Nat.zero_le _) (Nat.le_refl _), fun _ _ => trivial⟩
      · exact ⟨(by show (-9223372036854775808 : Int) ≤ 0; decide), (by show (0 : Int) ≤ 9223372036854775807; decide), L2.out.symm, k21, k22, by rw [octs_flat]; exact (HH.out.rowRd 2 rfl).more (Nat.zero_le _) (Nat.le_refl _), fun _ _ => trivial⟩
      · exact ⟨(by show (-9223372036854775808 : Int) ≤ 0; decide), (by show (0 : Int) ≤ 9223372036854775807; decide), rfl, Nat.le_refl _, Nat.zero_le _, Rd.nil, fun _ _ => trivial⟩⟩)
  refine (do_yes ⟨⟨dA, dn, dc, dx⟩, ⟨vA, vn, vc, vx⟩⟩ w5 ((HH.out.lookAt 4 rfl).2.imp fun _ _ hr => hr.more (Nat.zero_le _) (HH.out.lookAt 4 rfl).1) HCk.out (some ⟨w4.heap.size, 0, none⟩) 3 3 _ HAc.out (fun a ha => by
      have hn2 : dn = n := HLn.out
      simp only [List.mem_cons, List.not_mem_nil, or_false] at ha
      rcases ha with rfl | rfl | rfl
      · unfold faultE; rw [if_neg (show ¬ false = true from Bool.false_ne_true), if_neg (by show ¬((1 : Int) < 0 ∨ (dn : Int) ≤ 1); omega), if_pos rfl]
      · unfold faultE; rw [if_neg (show ¬ false = true from Bool.false_ne_true), if_neg (by show ¬((0 : Int) < 0 ∨ (dn : Int) ≤ 0); omega), if_pos rfl]
      · rfl) (by have hv : (⟨vA, vn, vc, vx⟩ : Sl Wrt) = ⟨none, 0, 0, []⟩ := HWT.out; cases hv; show (0 + 3) * 32 ≤ 140737488355328; decide)).mono ?_
  rintro e w6 ⟨⟨d2, rfl, hst, hn2, hd2⟩, e6⟩
  have HHn := Lib.hid (HH.out.addLook e6 (J := fun W => Dev.At W w5.heap.size w6.heap.size d2) (fun _ _ hr hh => hh.imp hr) (Nat.le_refl _) (Nat.le_refl _) hd2)
  clear HH HAc
  have HH := HHn
  clear HHn
  have HD2 := Lib.hid hd2
  have HST := Lib.hid hst
  have HN2 := Lib.hid hn2
  clear hd2 hst hn2 e6
  obtain ⟨⟨tA, tn, tc, tx⟩, ⟨uA, un, uc, ux⟩⟩ := d2
  simp only [Dev.cells, Sl.val]
  go_wp2_with (first | (refine shl_store HH.out sizeDev rfl rfl rfl rfl 4 rfl rfl rfl rfl ?_; clear HH; intro wS HHS; have HH := Lib.hid HHS; clear HHS) | (refine shl_load HH.out sizeDev (by kernel_rfl) rfl rfl rfl 4 rfl rfl ?_) | (refine shl_store HH.out sizeSto rfl rfl rfl rfl 6 rfl rfl rfl rfl ?_; clear HH; intro wS HHS; have HH := Lib.hid HHS; clear HHS))
  refine ret_cell3 sizeSto (by kernel_rfl) HH.out rfl rfl rfl rfl 6 rfl rfl rfl ?_
  have hv : (⟨vA, vn, vc, vx⟩ : Sl Wrt) = ⟨none, 0, 0, []⟩ := HWT.out
  have h9 := HST.out
  rw [HSV.out, show Dev.wv ⟨⟨dA, dn, dc, dx⟩, ⟨vA, vn, vc, vx⟩⟩ = [] by rw [hv]; rfl] at h9
  have hsv : Dev.secv ⟨⟨tA, tn, tc, tx⟩, ⟨uA, un, uc, ux⟩⟩ = fmtV n := by rw [HF.out]; exact congrArg Prod.fst h9
  have hwv : Dev.wv ⟨⟨tA, tn, tc, tx⟩, ⟨uA, un, uc, ux⟩⟩ = [] := congrArg Prod.snd h9
  have hux : ux = [] := List.map_eq_nil_iff.1 hwv
  have hun : un = 0 := by have := HD2.out.waits.len; dsimp only at this; rw [this, hux]; rfl
  obtain ⟨q1, q2⟩ := HH.out.lookAt 0 rfl
  have hn2 : tn = n := HN2.out.trans HLn.out
  have hsz : w.heap.size ≤ w5.heap.size := HSz.out
  exact ⟨⟨⟨⟨tA, tn, tc, tx⟩, ⟨uA, un, uc, ux⟩⟩, ⟨2, 0, 0⟩, ⟨none, 0, 0, []⟩, ⟨none, 0, 0, []⟩⟩, _, rfl, hsv, hun, hux, hn2, rfl, rfl, rfl,
    ⟨q2.imp fun _ _ hr => hr.more hsz q1, show Ub.wf ⟨2, 0, 0⟩ from by constructor <;> decide, ⟨rfl, Nat.le_refl _, Nat.zero_le _, Rd.nil, fun _ h => by cases h⟩, ⟨rfl, Nat.le_refl _, Nat.zero_le _, Rd.nil, fun _ h => by cases h⟩⟩, HH.out.ext⟩
end Go.Proofs.YtfongpdeflfioaaGreat
