/- The texts Has, Spl, Cpo, Chg in one file. -/
import Derived.Test.YtfongpdeflfioaaGreatS28
import Derived.Test.YtfongpdeflfioaaGreatS18
import Derived.Test.YtfongpdeflfioaaGreatS3
import Derived.Test.YtfongpdeflfioaaGreatS4
import Derived.Test.YtfongpdeflfioaaGreatS19
import Derived.Test.YtfongpdeflfioaaGreatS20
import Derived.Test.YtfongpdeflfioaaGreatS2
/- godownref07.Has; scrub.Sound of a store that may not be; godownlaw40.alive. -/
namespace Go.Proofs.YtfongpdeflfioaaGreat
open Go.RowKit Go.Maps Go.Sort Go.Shelf
set_option linter.unusedVariables false
set_option linter.unusedSimpArgs false
set_option maxRecDepth 100000 in
set_option maxHeartbeats 4000000 in
theorem has_any (w : World) (A : Option Addr) (n c : Nat) (xs : List Int) (y : Int) (hn : n = xs.length) (hm : n ≤ 9223372036854775807) (hr : Rd w 0 w.heap.size A (ints xs)) : Calls Tryz.prog 11 #[.slice A n c, .int .i64 y] w fun e w' => e = .returned (.bool (decide (y ∈ xs))) ∧ Ext w w' := by
  have Hn := Lib.hid hn
  have HR := Lib.hid hr
  clear hn hr
  go_enter Tryz.func11, Tryz.ntmps11
  go_wp2_with fail
  go_loopw [5] (fun i wr => ∃ k : Nat, k ≤ n ∧ i = .int .i64 k ∧ Hid (∀ x ∈ xs.take k, x ≠ y) ∧ Ext w wr) (fun i _ => n - (intOf i).toNat)
  case atStart => exact ⟨0, Nat.zero_le _, rfl, Lib.hid (by simp), Ext.refl _⟩
  case round =>
    obtain ⟨k, hk, rfl, HK, e1⟩ := hrel
    by_cases hlt : k < n
    · have l1 : k < xs.length := by rw [← Hn.out]; exact hlt
      obtain ⟨b, o, rfl, _, f0⟩ := rd_int2 (HR.out.ext e1 (Nat.le_refl _)) l1
      have HM := Lib.hid (List.getElem_mem l1)
      have HT := Lib.hid (List.take_succ_eq_append_getElem l1)
      generalize xs[k] = x at *
      by_cases hx : x = y
      · subst hx
        have HV := Lib.hid (show decide (x ∈ xs) = true by simpa using HM.out)
        go_wp2_with fail
        go_ret
        exact ⟨retB HV.out.symm, e1⟩
      · have hx1 : (x == y) = false := by simpa using hx
        go_wp2_with fail
        go_roundw
        case rel =>
          refine ⟨k + 1, by omega, by go_num, Lib.hid (fun z hz => ?_), e1⟩
          rw [HT.out] at hz
          rcases List.mem_append.1 hz with hz | hz
          · exact HK.out z hz
          · simp only [List.mem_singleton] at hz; subst hz; exact hx
        case measure => simp [intOf]; omega
    · obtain rfl : k = n := by omega
      have HV := Lib.hid (show decide (y ∈ xs) = false by
        have h1 : xs.take k = xs := List.take_of_length_le (by rw [← Hn.out]; exact Nat.le_refl _)
        have h2 := HK.out
        rw [h1] at h2
        simpa using fun hy => h2 y hy rfl)
      go_wp2_with fail
      go_ret
      exact ⟨retB HV.out.symm, e1⟩
set_option maxRecDepth 100000 in
set_option maxHeartbeats 4000000 in
theorem sound_no (w : World) (s : Sto) (h : Sto.At w 0 w.heap.size s) (hs : s.small) (h9 : s.objs.n ≤ 9000000) (h0 : sCk s ≠ 0) : Calls Tryz.prog 14 #[.agg s.cells.toArray] w fun e w' => e = .returned (.bool false) ∧ Ext w w' := by
  have HL := Lib.hid (fun W (hW : Ext w W) => show Calls Tryz.prog 12 #[.agg s.cells.toArray] W (fun e w' => e = .returned (.tuple #[.agg #[.int .i64 0, .slice none 0 0, .int .i64 0, .int .i64 0], .int .i64 9]) ∧ Ext W w') from (look_any W s (h.on hW (Nat.le_refl _)) hs h9).mono (by
    rintro e w' (⟨_, h1, h2⟩ | ⟨h1, _⟩)
    · exact ⟨h1, h2⟩
    · exact absurd h1 h0))
  clear h hs h9 h0
  obtain ⟨⟨⟨sA, sn, sc, sx⟩, ⟨wA, wn, wc, wx⟩⟩, ⟨ut, uf, uo⟩, ⟨oA, on, oc, ox⟩, ⟨iA, im, ic, ix⟩⟩ := s
  simp only [Sto.cells, Sl.val] at *
  go_enter Tryz.func14, Tryz.ntmps14
  go_upto_region 1 with fail
  generalize hwH : World.alloc w _ = w1; have HH := Lib.hid (Heap.one hwH); clear hwH
  go_wp2_with (first | (refine shl_load HH.out sizeSto (by kernel_rfl) rfl rfl rfl 0 rfl rfl ?_) | (go_at_call 12; (with_reducible refine (HL.out _ HH.out.ext).mono ?_); rintro e wC ⟨rfl, eC⟩; have HHn := Lib.hid (HH.out.later eC); clear HH eC; have HH := HHn; clear HHn) | (refine shl_store (HH.out.alloc _ _) sizeKk rfl rfl rfl rfl 0 rfl rfl rfl rfl ?_; clear HH; intro wS HHS; have HH := Lib.hid HHS; clear HHS))
  go_ret
  exact ⟨rfl, HH.out.ext⟩
theorem fmt_ok {s : Sto} {n : Nat} {w : World} {lo hi : Nat} (h0 : 2 ≤ n) (h8 : n ≤ 8192) (h1 : s.dev.secv = fmtV n) (h2 : s.dev.waits.n = 0) (h4 : s.dev.secs.n = n) (h5 : s.ub = ⟨2, 0, 0⟩) (h6 : s.objs = ⟨none, 0, 0, []⟩) (h7 : s.idx = ⟨none, 0, 0, []⟩) (h : Sto.At w lo hi s) :
    sCk s = 0 ∧ s.small ∧ usedL s = [] ∧ lkP s = (0, []) ∧ (lkF s).length = n - 2 := by
  have hu : usedL s = [] := by rw [usedL, h6, h7]; rfl
  have hc : chkE s.dev = 0 := all64 h.dev (fun x hx => by
    rw [h1, fmtV] at hx
    rcases List.mem_or_eq_of_mem_set hx with hx | rfl
    · rcases List.mem_or_eq_of_mem_set hx with hx | rfl
      · rw [(List.mem_replicate.1 hx).2]; rfl
      · exact ueB_len _
    · exact ueB_len _) h2 (by rw [h4]; exact h0) (by rw [h4]; exact h8)
  have hsp : spE (s.dev.secs.n : Int) [] = 0 := by
    unfold spE
    rw [if_neg (by rw [h4]; simp; omega), if_neg (by decide)]
  refine ⟨?_, ⟨by rw [h6]; exact Nat.zero_le _, by (rw [h6]; intro x hx; simp at hx), by rw [hu]; exact Nat.zero_le _⟩, hu, ?_, ?_⟩
  · unfold sCk
    rw [if_pos]
    unfold sOk
    rw [hu]
    simp only [headOk, hc, h5, h2, objOk, h6, idxOk, h7, hsp]
    decide
  · rw [lkP, h6, h7]; rfl
  · show (freeL _ _).length = _
    rw [hu, freeL]
    show (upI ((s.dev.secs.n : Int) - 2).toNat).length = _
    rw [upI_len, h4]
    omega
set_option maxRecDepth 100000 in
set_option maxHeartbeats 4000000 in
theorem alive40_any (w : World) : Calls Tryz.prog 15 #[] w fun e w' => e = .returned (.bool true) ∧ Ext w w' := by
  go_enter Tryz.func15, Tryz.ntmps15
  go_wp2_with fail
  refine (fmt_yes w 20 (by decide) (by decide)).mono ?_
  rintro e w1 ⟨s, A, rfl, h1, h2, h3, h4, h5, h6, h7, hS, e1⟩
  obtain ⟨k1, k2, k3, k4, k5⟩ := fmt_ok (by decide) (by decide) h1 h2 h4 h5 h6 h7 hS
  have HL := Lib.hid (fun W (hW : Ext w1 W) => (look_any W s ((hS.on hW (Nat.le_refl _)).imp fun _ _ hr => hr.m0) k2 (by rw [h6]; exact Nat.zero_le _)))
  have HK := Lib.hid (⟨k1, k4, k5⟩ : sCk s = 0 ∧ lkP s = (0, []) ∧ (lkF s).length = 20 - 2)
  have HO := Lib.hid (fun (e : Ending) (W w' : World) => show LkOut W s e w' → ∃ Ab c sr, e = .returned (.tuple #[.agg #[.int .i64 0, .slice Ab 0 c, .int .i64 sr, .int .i64 18], .int .i64 0]) ∧ Ext W w' from by
    rintro (⟨h, _⟩ | ⟨_, A, c, he, ho, ee⟩)
    · exact absurd HK.out.1 h
    · have h8 := HK.out.2.1
      have h9 := HK.out.2.2
      rw [h8] at ho he
      rw [h9] at he
      exact ⟨A, c, _, he, ee⟩)
  clear k1 k2 k3 k4 k5 h1 h2 h3 h4 h5 h6 h7 HK
  have HE1 := Lib.hid e1
  clear e1 hS
  obtain ⟨⟨⟨sA, sn, sc, sx⟩, ⟨wA, wn, wc, wx⟩⟩, ⟨ut, uf, uo⟩, ⟨oA, on, oc, ox⟩, ⟨iA, im, ic, ix⟩⟩ := s
  simp only [Sto.cells, Sl.val] at *
  have HH := Lib.hid (Heap.start w1)
  go_wp2_with (first | (refine shl_load HH.out sizeSto (by kernel_rfl) rfl rfl rfl 0 rfl rfl ?_) | (refine shl_store (HH.out.alloc _ _) sizeSto rfl rfl rfl rfl 0 rfl rfl rfl rfl ?_; clear HH; intro wS HHS; have HH := Lib.hid HHS; clear HHS))
  refine (HL.out _ HH.out.ext).mono ?_
  intro e w5 h5
  obtain ⟨Ab, cb, sr, rfl, e5⟩ := HO.out _ _ _ h5
  have HHn := Lib.hid (HH.out.later e5)
  clear HH h5
  have HH := HHn
  clear HHn
  go_wp2_with (first | (refine shl_store (HH.out.alloc _ _) sizeKk rfl rfl rfl rfl 0 rfl rfl rfl rfl ?_; clear HH; intro wS HHS; have HH := Lib.hid HHS; clear HHS) | (go_big_want; refine sh_load1 HH.out rfl rfl 0 rfl rfl (by decide +kernel) ?_) | (refine shl_load1 HH.out rfl rfl rfl 0 rfl rfl (by decide +kernel) ?_))
  go_ret
  exact ⟨rfl, HE1.out.trans HH.out.ext⟩
end Go.Proofs.YtfongpdeflfioaaGreat
/- godownplain.Spoil: octets of a row of the call's own, written over. -/
namespace Go.Proofs.YtfongpdeflfioaaGreat
open Go.RowKit Go.Maps Go.Sort Go.Shelf
set_option linter.unusedVariables false
set_option linter.unusedSimpArgs false
def octL (n : Nat) (zs : List Value) : Prop := zs.length = n ∧ ∀ z ∈ zs, ∃ y : Int, z = .int .u8 y
theorem set_self' {its : List It} {i : Nat} {x : It} (h : its[i]? = some x) : its.set i x = its := by
  apply List.ext_getElem?
  intro j
  rw [List.getElem?_set]
  split
  · rename_i e; subst e; rw [h]; split
    · rfl
    · rename_i h2; exact absurd (List.getElem?_eq_some_iff.1 h).1 h2
  · rfl
theorem Heap.last' {w0 w : World} {x : It} {a : List It} (H : Heap w0 (x :: a) w) : Heap w0 (a ++ [x]) w := by
  have hp : ∀ i y, (a ++ [x])[i]? = some y → (i < a.length ∧ (x :: a)[i + 1]? = some y) ∨ (i = a.length ∧ y = x) := fun i y h => by
    rcases Nat.lt_trichotomy i a.length with h1 | h1 | h1
    · rw [List.getElem?_append_left h1] at h; exact .inl ⟨h1, by simpa using h⟩
    · subst h1; simp at h; exact .inr ⟨rfl, h.symm⟩
    · rw [List.getElem?_eq_none (by simp; omega)] at h; cases h
  refine ⟨H.ext, fun i y h => ?_, fun i j y z k hij hy hz => ?_⟩
  · rcases hp i y h with ⟨_, h1⟩ | ⟨_, rfl⟩
    · exact H.all _ _ h1
    · exact H.all 0 _ rfl
  · rcases hp i y hy with ⟨h0, h1⟩ | ⟨h0, rfl⟩
    · rcases hp j z hz with ⟨h2, h3⟩ | ⟨h2, rfl⟩
      · exact H.apart _ _ _ _ k (by omega) h1 h3
      · exact H.apart (i + 1) 0 _ _ k (by omega) h1 rfl
    · rcases hp j z hz with ⟨h2, h3⟩ | ⟨h2, rfl⟩
      · exact H.apart 0 (j + 1) _ _ k (by omega) rfl h3
      · omega
set_option maxRecDepth 100000 in
set_option maxHeartbeats 4000000 in
theorem spoil_any {w0 w : World} {its : List It} (H : Heap w0 its w) (i : Nat) (A : Option Addr) (n c : Nat) (ys : List UInt8) (hi : its[i]? = some (.row 5 1 (.slice A n c) n (bytes ys))) (hm : n ≤ maxLen) :
    Calls Tryz.prog 26 #[.slice A n c] w fun e w' => (∃ v, e = .returned v) ∧ ∃ zs : List Value, Heap w0 (its.set i (.row 5 1 (.slice A n c) n zs)) w' := by
  have hil : i < its.length := (List.getElem?_eq_some_iff.1 hi).1
  have HI := Lib.hid (fun zs => List.getElem?_set_self (a := It.row 5 1 (.slice A n c) n zs) hil)
  have H0 := Lib.hid (show Heap w0 (its.set i (.row 5 1 (.slice A n c) n (bytes ys))) w by rw [set_self' hi]; exact H)
  have h0 := Lib.hid (show octL n (bytes ys) from ⟨by have := (H.rowAt i hi).1; omega, fun z hz => by
    obtain ⟨b, _, rfl⟩ := List.mem_map.1 hz
    exact ⟨_, rfl⟩⟩)
  have hm2 : n ≤ 9223372036854775807 := Nat.le_trans hm (by decide)
  clear hi H hm
  generalize bytes ys = zs at *
  go_enter Tryz.func26, Tryz.ntmps26
  go_wp2_with fail
  go_loopw [2] (fun v wr => ∃ (k : Nat) (zs : List Value), k ≤ n ∧ v = .int .i64 (k : Int) ∧ Hid (octL n zs) ∧ Hid (Heap w0 (its.set i (.row 5 1 (.slice A n c) n zs)) wr)) (fun v _ => n - (intOf v).toNat)
  case atStart => exact ⟨0, zs, Nat.zero_le _, rfl, h0, H0⟩
  case round =>
    clear H0 h0
    obtain ⟨k, zs, hk, rfl, HZ, HH⟩ := hrel
    by_cases hlt : k < n
    · obtain ⟨g, c', hg⟩ := HH.out.rowForm i (HI.out zs) (by omega)
      obtain ⟨rfl, rfl⟩ : A = some ⟨g, 0, none⟩ ∧ c = c' := by simpa using hg
      clear hg
      have hl : k < zs.length := by rw [HZ.out.1]; exact hlt
      obtain ⟨z, hz⟩ := HZ.out.2 _ (List.getElem_mem hl)
      have f0 : wr.cell? ⟨g, k, none⟩ = some (.int .u8 z) := by rw [← hz]; exact (HH.out.rowAt i (HI.out zs)).cellAt k (by omega) |>.trans (List.getElem?_eq_getElem hl)
      have hkn : (k : Int) < (n : Int) := by omega
      clear hz hl
      go_upto_region 2 with (refine shl_rstore1 HH.out rfl rfl rfl rfl i (HI.out zs) (by omega) rfl (by kernel_rfl) ?_; clear HH f0; intro wS HHS; have HH := Lib.hid HHS; clear HHS)
      have HH2 := HH.out
      rw [set_set] at HH2
      rename_i wr0
      have HH3 := Lib.hid HH2
      clear HH HH2
      go_wp2_with fail
      go_roundw
      case rel =>
        refine ⟨k + 1, _, by omega, by go_num, ?_, HH3⟩
        have h1 := HZ.out.1
        refine Lib.hid ⟨by simp; omega, fun z hz => ?_⟩
        rcases List.mem_append.1 hz with hz | hz
        · rcases List.mem_append.1 hz with hz | hz
          · exact HZ.out.2 z (List.mem_of_mem_take hz)
          · simp only [List.mem_singleton] at hz
            exact ⟨_, hz⟩
        · exact HZ.out.2 z (List.mem_of_mem_drop hz)
      case measure => simp [intOf]; omega
    · obtain rfl : k = n := by omega
      go_wp2_with fail
      go_end0
      exact ⟨⟨_, rfl⟩, zs, HH.out⟩
end Go.Proofs.YtfongpdeflfioaaGreat
/- device.copied, settle, Crash of a device of which nothing waits: each sector is told in a row of its own. -/
namespace Go.Proofs.YtfongpdeflfioaaGreat
open Go.RowKit Go.Maps Go.Sort Go.Shelf
set_option linter.unusedVariables false
set_option linter.unusedSimpArgs false
theorem It.lower {x : It} {base base' : Nat} {w : World} (h : x.holds base w) (hb : base' ≤ base) : x.holds base' w := by
  cases x with
  | box b vs => exact ⟨Nat.le_trans hb h.1, h.2⟩
  | row e size v n xs => exact own_lower h hb
  | rd A cs =>
    intro hn
    obtain ⟨b, o, he, h1, h2, h3⟩ := h hn
    exact ⟨b, o, he, h1, Nat.le_trans hb h2, h3⟩
  | any S p lt keep => exact ⟨fun k hk => Nat.le_trans hb (h.1 k hk), h.2⟩
theorem It.at_ge {x : It} {base k : Nat} {w : World} (h : x.holds base w) (ha : x.at' k) : base ≤ k := by
  cases x with
  | box b vs => cases ha; exact h.1
  | row e size v n xs => exact (World.ownsRow.lt h k ha).1
  | rd A cs =>
    obtain ⟨hn, a, rfl, rfl⟩ := ha
    obtain ⟨b, o, he, h1, h2, h3⟩ := h hn
    cases he
    exact h2
  | any S p lt keep => exact h.1 k ha
theorem Heap.joinR {w0 w w' : World} {its its2 : List It} (H : Heap w0 its w) (H2 : Heap w its2 w') : Heap w0 (its ++ its2) w' := by
  have hl := H.later H2.ext
  refine ⟨hl.ext, fun i x hx => ?_, fun i j x y k hij hx hy ho ha => ?_⟩
  · by_cases h1 : i < its.length
    · rw [List.getElem?_append_left h1] at hx
      exact hl.all _ x hx
    · rw [List.getElem?_append_right (by omega)] at hx
      exact It.lower (H2.all _ x hx) H.ext.size
  · by_cases h1 : i < its.length
    · rw [List.getElem?_append_left h1] at hx
      by_cases h2 : j < its.length
      · rw [List.getElem?_append_left h2] at hy
        exact H.apart i j x y k hij hx hy ho ha
      · rw [List.getElem?_append_right (by omega)] at hy
        have a1 := It.at_ge (H2.all _ y hy) ha
        have a2 := It.at_lt (H.all _ x hx) (It.own_at ho)
        omega
    · rw [List.getElem?_append_right (by omega)] at hx
      by_cases h2 : j < its.length
      · rw [List.getElem?_append_left h2] at hy
        have a1 := It.at_ge (H2.all _ x hx) (It.own_at ho)
        have a2 := It.at_lt (H.all _ y hy) ha
        omega
      · rw [List.getElem?_append_right (by omega)] at hy
        exact H2.apart _ _ x y k (fun e => hij (by omega)) hx hy ho ha
theorem sizeDv : (Tryz.prog.info? 25).map (·.size) = some 2 := by kernel_rfl
def secIt (s : Oct) : It := .row 5 1 (.slice s.A s.n s.c) s.n (bytes s.xs)
def rowIt (n : Nat) (A : Option Addr) (c : Nat) (cs : List Value) : It := .row 33 1 (.slice A n c) n cs
structure DvOwn (w w' : World) (d : Dev) : Prop where
  heap : Heap w (rowIt d.secs.n d.secs.A d.secs.c (d.secs.xs.flatMap octv) :: d.secs.xs.map secIt) w'
  len : ∀ s ∈ d.secs.xs, s.n = s.xs.length
  n : d.secs.n = d.secs.xs.length
  waits : d.waits = ⟨none, 0, 0, []⟩
theorem octv_len (l : List Oct) : (l.flatMap octv).length = l.length := by
  induction l with
  | nil => rfl
  | cons x l ih => rw [List.flatMap_cons, List.length_append, ih, List.length_cons]; show 1 + _ = _; omega
set_option maxRecDepth 100000 in
set_option maxHeartbeats 8000000 in
theorem copied_own (d : Dev) (w : World) (h : Dev.At w 0 w.heap.size d) (h1 : d.secs.n ≤ 8192) (h2 : ∀ s ∈ d.secs.xs, s.n ≤ 64) (h3 : d.waits.n = 0) :
    Calls Tryz.prog 62 #[.agg d.cells.toArray] w fun e w' => ∃ d' : Dev, e = .returned (.agg d'.cells.toArray) ∧ d'.secv = d.secv ∧ d'.secs.n = d.secs.n ∧ DvOwn w w' d' := by
  obtain ⟨⟨A, n, c, xs⟩, ⟨B, m, k9, ys⟩⟩ := d
  obtain rfl : m = 0 := h3
  have HA := Lib.hid h.secs
  have Hn := Lib.hid (show n = xs.length from h.secs.len)
  have H2 := Lib.hid h2
  clear h h2
  dsimp only at h1
  simp only [Dev.cells, Sl.val]
  go_enter Tryz.func62, Tryz.ntmps62
  go_upto_region 1 with fail
  generalize hwH : World.alloc (World.alloc w _) _ = w1; have HH := Lib.hid (Heap.two hwH); clear hwH
  obtain ⟨b2, hb2⟩ : ∃ b, b = w.heap.size + 1 := ⟨_, rfl⟩
  obtain ⟨b1, hb1⟩ : ∃ b, b = w.heap.size := ⟨_, rfl⟩
  rw [← hb2] at HH ⊢
  rw [← hb1] at HH ⊢
  clear hb1 hb2
  have k1 := mk_rows n (by omega) w1
  have HR := HH.out.allocRow (w' := w1.alloc (.cells (Array.replicate n nilv) 33)) rfl (n := n) (size := 1) (by simp) (by simp only [maxLen]; omega)
  have g0 := (HH.out.boxAt 1 rfl).cell 0 _ rfl
  go_upto_region 2 with fail
  have HR2 := HR.alloc #[.slice (some ⟨w1.heap.size, 0, none⟩) n n, .slice none 0 0] 25
  rw [show (w1.alloc (Obj.cells (Array.replicate n nilv) 33)).heap.size = w1.heap.size + 1 from by simp] at HR2
  clear k1 HR g0 HH
  generalize (w1.alloc (Obj.cells (Array.replicate n nilv) 33)).alloc _ = w2 at *
  obtain ⟨tb, htb⟩ : ∃ b, b = w1.heap.size + 1 := ⟨_, rfl⟩
  rw [← htb] at HR2 ⊢
  obtain ⟨rk, hrk⟩ : ∃ b, b = w1.heap.size := ⟨_, rfl⟩
  rw [← hrk] at HR2 ⊢
  clear htb hrk
  have HH := Lib.hid (show Heap w [.box tb [.slice (some ⟨rk, 0, none⟩) n n, .slice none 0 0], rowIt n (some ⟨rk, 0, none⟩) n (([] : List Oct).flatMap octv ++ List.replicate (n - 0) nilv), .box b2 [.slice none 0 0, .slice none 0 0], .box b1 [.slice A n c, .slice B 0 k9]] w2 by
    have h := HR2
    rw [Array.toList_replicate] at h
    exact h)
  clear HR2
  have g0 := (HH.out.boxAt 3 rfl).cell 0 _ rfl
  go_wp2_with fail
  clear g0
  go_loopw [4, 5, 16] (fun _ _ v wr => ∃ (k : Nat) (ss : List Oct), k ≤ n ∧ v = .int .i64 (k : Int) ∧ Hid (ss.length = k ∧ ss.map (·.xs) = (xs.take k).map (·.xs) ∧ ∀ s ∈ ss, s.n = s.xs.length) ∧
    Hid (Heap w (.box tb [.slice (some ⟨rk, 0, none⟩) n n, .slice none 0 0] :: rowIt n (some ⟨rk, 0, none⟩) n (ss.flatMap octv ++ List.replicate (n - k) nilv) :: .box b2 [.slice none 0 0, .slice none 0 0] :: .box b1 [.slice A n c, .slice B 0 k9] :: ss.map secIt) wr)) (fun _ _ v _ => n - (intOf v).toNat)
  case atStart => exact ⟨0, [], Nat.zero_le _, rfl, Lib.hid ⟨rfl, by simp, fun s hs => by cases hs⟩, HH⟩
  case round =>
    clear HH
    obtain ⟨k, ss, hk, rfl, HS, HH⟩ := hrel
    by_cases hlt : k < n
    · have hl : k < xs.length := by rw [← Hn.out]; exact hlt
      obtain ⟨c1, o1, hA1, _, hb1, G0⟩ := rd_flat (size := 1) (fun _ => rfl) (by omega) HA.out.rd hl
      dsimp only at hA1
      subst hA1
      have hx : Oct.At w 0 w.heap.size xs[k] := HA.out.all _ (List.getElem_mem hl)
      have hx64 : xs[k].n ≤ 64 := H2.out _ (List.getElem_mem hl)
      have HT := Lib.hid (show (xs.take (k + 1)).map (·.xs) = (xs.take k).map (·.xs) ++ [xs[k].xs] by rw [List.take_succ_eq_append_getElem hl, List.map_append]; rfl)
      have g0 : wr.cell? ⟨c1, o1 + k, none⟩ = some xs[k].val := by rw [Below.cell HH.out.ext hb1]; simpa using G0 0 _ rfl
      clear G0
      generalize xs[k] = x at *
      obtain ⟨xA, xn, xc, xx⟩ := x
      simp only [Sl.val] at g0
      dsimp only at hx64
      have HX := Lib.hid hx
      have hkn : (k : Int) < (n : Int) := by omega
      clear hx
      go_upto_region 5 with fail
      clear g0
      have HHd := Lib.hid HH.out.drew
      clear HH
      refine wp_region_held_drew (S := Heap w [.box tb [.slice (some ⟨rk, 0, none⟩) n n, .slice none 0 0]]) (by kernel_rfl) (HHd.out.only 0 rfl) (fun hHeld => ?_)
      generalize World.drew wr = wd at *
      refine tS 0 ?_; (try simp only [Act.put, lyA, lyB, lyC])
      refine tG 1 rfl (fun wT hST => sh_run_load1 hST rfl rfl 0 rfl rfl (by kernel_rfl)) hHeld ?_; (try simp only [Act.put, lyA, lyB, lyC])
      refine tS 2 ?_; (try simp only [Act.put, lyA, lyB, lyC])
      refine tS 3 ?_; (try simp only [Act.put, lyA, lyB, lyC])
      clear hHeld
      refine oS 4 (fun K hK => ?_)
      go_simp
      refine (cloneb_any wd wd.heap.size (Nat.le_refl _) xA xn xc xx HX.out.len (Rd.at HX.out.rdb HHd.out.ext (Nat.le_refl _)) (by omega)).mono ?_
      rintro e w5 ⟨v5, rfl, hown, e5⟩
      obtain ⟨A5, c5, rfl, _, _, _⟩ := own_form hown
      have HH5 := Lib.hid (HHd.out.addRow e5 hown)
      clear hown e5 HHd
      go_wp2_with fail
      refine hK.out _ _ (HH5.out.only 1 rfl) (fun hHeld => ?_)
      clear hK K
      (try simp only [Act.put, lyA, lyB, lyC])
      refine tS 5 ?_; (try simp only [Act.put, lyA, lyB, lyC])
      clear hHeld
      refine oS 6 (fun K hK => ?_)
      refine sh_rstore1 (v := .slice A5 xn c5) HH5.out rfl rfl rfl 2 rfl (by omega) rfl (by kernel_rfl) ?_
      intro w6 hh6
      have HH6 := Lib.hid (show Heap w (.box tb [.slice (some ⟨rk, 0, none⟩) n n, .slice none 0 0] :: rowIt n (some ⟨rk, 0, none⟩) n ((ss ++ [(⟨A5, xn, c5, xx⟩ : Oct)]).flatMap octv ++ List.replicate (n - (k + 1)) nilv) :: .box b2 [.slice none 0 0, .slice none 0 0] :: .box b1 [.slice (some ⟨c1, o1, none⟩) n c, .slice B 0 k9] :: (ss ++ [(⟨A5, xn, c5, xx⟩ : Oct)]).map secIt) w6 by
        have h := Heap.last' hh6
        have hr : (ss.flatMap octv ++ List.replicate (n - k) nilv).take k ++ [Value.slice A5 xn c5] ++ (ss.flatMap octv ++ List.replicate (n - k) nilv).drop (k + 1) = (ss ++ [(⟨A5, xn, c5, xx⟩ : Oct)]).flatMap octv ++ List.replicate (n - (k + 1)) nilv := by
          have hl2 : (ss.flatMap octv).length = k := by rw [octv_len]; exact HS.out.1
          rw [List.take_left' hl2, show n - k = (n - (k + 1)) + 1 by omega, List.replicate_succ, ← hl2, List.drop_append, List.flatMap_append]
          simp [octv, Sl.val]
        rw [List.map_append]
        change Heap w (_ :: rowIt n _ n _ :: _) w6 at h
        rw [hr] at h
        exact h)
      clear hh6 HH5
      refine hK.out _ _ (HH6.out.only 0 rfl) (fun hHeld => ?_)
      clear hK K
      (try simp only [Act.put, lyA, lyB, lyC])
      refine wpAnyH_done (by kernel_rfl) ?_ _
      clear hHeld
      go_wp2_with fail
      go_roundw
      case rel =>
        refine ⟨k + 1, ss ++ [(⟨A5, xn, c5, xx⟩ : Oct)], by omega, by go_num, Lib.hid ⟨by rw [List.length_append, HS.out.1]; rfl, by rw [HT.out, List.map_append, HS.out.2.1]; rfl, fun s hs => ?_⟩, HH6⟩
        rcases List.mem_append.1 hs with hs | hs
        · exact HS.out.2.2 s hs
        · simp only [List.mem_singleton] at hs
          subst hs
          exact HX.out.len
      case measure => (first | (simp [intOf]; done) | (simp [intOf]; omega))
    · obtain rfl : k = n := by omega
      have hZ := HS.out.2.1
      rw [List.take_of_length_le (by rw [← Hn.out]; exact Nat.le_refl _)] at hZ
      have HZ := Lib.hid (⟨HS.out.1, hZ, HS.out.2.2⟩ : ss.length = k ∧ ss.map (·.xs) = xs.map (·.xs) ∧ ∀ s ∈ ss, s.n = s.xs.length)
      have HH2 := Lib.hid (show Heap w (.box tb [.slice (some ⟨rk, 0, none⟩) k k, .slice none 0 0] :: rowIt k (some ⟨rk, 0, none⟩) k (ss.flatMap octv) :: .box b2 [.slice none 0 0, .slice none 0 0] :: .box b1 [.slice A k c, .slice B 0 k9] :: ss.map secIt) wr by
        have h := HH.out
        rw [Nat.sub_self, List.replicate_zero, List.append_nil] at h
        exact h)
      clear HH HS hZ
      have HH := HH2
      clear HH2
      have hkk : ¬ (k : Int) < (k : Int) := by omega
      have g1 := (HH.out.boxAt 3 rfl).cell 1 _ rfl
      go_wp2_with fail
      clear g1
      go_loopw [7, 31] (fun _ v wx => v = .int .i64 0 ∧ Hid (Heap w (.box tb [.slice (some ⟨rk, 0, none⟩) k k, .slice none 0 0] :: rowIt k (some ⟨rk, 0, none⟩) k (ss.flatMap octv) :: .box b2 [.slice none 0 0, .slice none 0 0] :: .box b1 [.slice A k c, .slice B 0 k9] :: ss.map secIt) wx)) (fun _ _ _ => 0)
      case atStart => exact ⟨rfl, HH⟩
      case round =>
        clear HH
        obtain ⟨rfl, HH⟩ := hrel
        go_wp2_with (first | (refine shl_load HH.out sizeDv (by kernel_rfl) rfl rfl rfl 0 rfl rfl ?_) | (refine shl_store HH.out sizeDv rfl rfl rfl rfl 2 rfl rfl rfl rfl ?_; clear HH; intro wS HHS; have HH := Lib.hid HHS; clear HHS))
        refine ret_cell sizeDv (by kernel_rfl) HH.out rfl rfl 2 rfl rfl rfl ?_
        refine ⟨⟨⟨some ⟨rk, 0, none⟩, k, k, ss⟩, ⟨none, 0, 0, []⟩⟩, rfl, HZ.out.2.1, rfl, ?_, HZ.out.2.2, HZ.out.1.symm, rfl⟩
        refine HH.out.sub' (fun i => if i = 0 then 1 else i + 3) (fun i j h => by split at h <;> split at h <;> omega) fun i x h => ?_
        cases i with
        | zero => exact h
        | succ i => exact h
set_option maxRecDepth 100000 in
set_option maxHeartbeats 4000000 in
theorem settle_none {w0 w : World} {its : List It} (H : Heap w0 its w) (i db : Nat) (v F : Value) (hi : its[i]? = some (.box db [v, .slice none 0 0])) :
    Calls Tryz.prog 63 #[.pointer (some ⟨db, 0, none⟩), F] w fun e w' => (∃ u, e = .returned u) ∧ Heap w0 its w' := by
  have HI := Lib.hid hi
  have HH := Lib.hid H
  have HSt := Lib.hid (show its.set i (.box db ([v, .slice none 0 0].set 1 (.slice none 0 0))) = its from set_self' hi)
  clear hi H
  go_enter Tryz.func63, Tryz.ntmps63
  have g1 := (HH.out.boxAt i HI.out).cell 1 _ rfl
  go_wp2_with fail
  clear g1
  go_loopw [4, 5, 11] (fun _ _ v wx => v = .int .i64 0 ∧ Hid (Heap w0 its wx)) (fun _ _ _ _ => 0)
  case atStart => exact ⟨rfl, HH⟩
  case round =>
    clear HH
    obtain ⟨rfl, HH⟩ := hrel
    go_wp2_with (refine shl_store1 (v := .slice none 0 0) HH.out rfl rfl rfl rfl i HI.out rfl rfl (by kernel_rfl) ?_; intro wS HHS)
    go_end0
    rw [HSt.out] at HHS
    exact ⟨⟨_, rfl⟩, HHS⟩
set_option maxRecDepth 100000 in
set_option maxHeartbeats 4000000 in
theorem crash_own (d : Dev) (w : World) (h : Dev.At w 0 w.heap.size d) (hck : chkE d = 0) (h3 : d.waits.n = 0) :
    Calls Tryz.prog 23 #[.agg d.cells.toArray, .slice none 0 0] w fun e w' => ∃ d' : Dev, e = .returned (.tuple #[.agg d'.cells.toArray, .int .i64 0]) ∧ d'.secv = d.secv ∧ d'.secs.n = d.secs.n ∧ DvOwn w w' d' := by
  obtain ⟨p1, p2, p3, _⟩ := chk_ok h.secs.len hck
  have HC := Lib.hid (fun W (hW : Ext w W) => chk_any d W ((h.imp (rd_on hW (Nat.le_refl _)))))
  have HCo := Lib.hid (fun W (hW : Ext w W) => copied_own d W ((h.imp (rd_on hW (Nat.le_refl _)))) (by omega) (fun s hs => by have := p3 s hs; omega) h3)
  rw [hck] at HC
  clear p1 p2 p3 h hck h3
  obtain ⟨⟨A, n, c, xs⟩, ⟨B, m, k9, ys⟩⟩ := d
  simp only [Dev.cells, Sl.val] at *
  go_enter Tryz.func23, Tryz.ntmps23
  go_upto_region 1 with fail
  generalize hwH : World.alloc (World.alloc (World.alloc w _) _) _ = w1; have HH := Lib.hid (Heap.three hwH); clear hwH
  go_upto_region 4 with (first | (refine shl_load HH.out sizeDv (by kernel_rfl) rfl rfl rfl 2 rfl rfl ?_) | (go_at_call 39; (with_reducible refine (HC.out _ HH.out.ext).mono ?_); rintro e wC ⟨rfl, eC⟩; have HHn := Lib.hid (HH.out.later eC); clear HH eC; have HH := HHn; clear HHn))
  go_wp2_with (refine shl_load HH.out sizeDv (by kernel_rfl) rfl rfl rfl 2 rfl rfl ?_)
  refine (HCo.out _ HH.out.ext).mono ?_
  rintro e w5 ⟨d', rfl, hv, hn, ho⟩
  obtain ⟨⟨dA, dn, dc, dx⟩, dw⟩ := d'
  obtain rfl : dw = ⟨none, 0, 0, []⟩ := ho.waits
  have HH5 := Lib.hid (HH.out.joinR ho.heap)
  have HD := Lib.hid (⟨ho.len, ho.n, hv, hn⟩ : (∀ s ∈ dx, s.n = s.xs.length) ∧ dn = dx.length ∧ _ ∧ _)
  clear HH ho hv hn HCo HC
  have HH := HH5
  clear HH5
  go_upto_region 5 with (refine shl_store (HH.out.alloc _ _) sizeDv rfl rfl rfl rfl 0 rfl rfl rfl rfl ?_; clear HH; intro wS HHS; have HH := Lib.hid HHS; clear HHS)
  go_wp2_with fail
  refine (settle_none HH.out 0 _ _ _ rfl).mono ?_
  rintro e w7 ⟨⟨u, rfl⟩, h7⟩
  have HH7 := Lib.hid h7
  clear h7 HH
  have HH := HH7
  clear HH7
  go_wp2_with (first | (refine shl_load HH.out sizeDv (by kernel_rfl) rfl rfl rfl 0 rfl rfl ?_) | (refine shl_store HH.out sizeDv rfl rfl rfl rfl 1 rfl rfl rfl rfl ?_; clear HH; intro wS HHS; have HH := Lib.hid HHS; clear HHS))
  refine ret_cell2 sizeDv (by kernel_rfl) HH.out rfl rfl rfl 1 rfl rfl rfl ?_
  exact ⟨⟨⟨dA, dn, dc, dx⟩, ⟨none, 0, 0, []⟩⟩, rfl, HD.out.2.2.1, HD.out.2.2.2, HH.out.tail.tail.tail.tail, HD.out.1, HD.out.2.1, rfl⟩
end Go.Proofs.YtfongpdeflfioaaGreat
/- A page of which an octet is another one is no page. -/
namespace Go.Proofs.YtfongpdeflfioaaGreat
open Go.RowKit Go.Maps Go.Sort Go.Shelf
set_option linter.unusedVariables false
set_option linter.unusedSimpArgs false
theorem oc_set (l : List UInt8) (i j : Nat) (v : UInt8) (hi : i < l.length) : oc (l.set i v) j = if i = j then (v.toNat : Int) else oc l j := by
  unfold oc
  rw [List.getElem?_set]
  by_cases h : i = j
  · subst h; simp [hi]
  · simp [h]
theorem word_ne (l : List UInt8) (i : Nat) (v : UInt8) (hi : i < l.length) (hv : v ≠ l[i]) : word (l.set i v) (4 * (i / 4)) ≠ word l (4 * (i / 4)) := by
  have h0 : (v.toNat : Int) ≠ oc l i := by
    rw [oc_at l i hi]
    intro e
    exact hv (UInt8.toNat_inj.1 (by omega))
  have e : ∀ j, oc (l.set i v) j = if i = j then (v.toNat : Int) else oc l j := fun j => oc_set l i j v hi
  unfold word
  simp only [part, e]
  have hm := Nat.div_add_mod i 4
  have hr := Nat.mod_lt i (show 0 < 4 by decide)
  generalize i / 4 = q at *
  generalize i % 4 = r at *
  rcases (show r = 0 ∨ r = 1 ∨ r = 2 ∨ r = 3 by omega) with h | h | h | h
  · subst h
    rw [if_pos (by omega), if_neg (by omega), if_neg (by omega), if_neg (by omega)]
    rw [show i = 4 * q + 0 by omega] at h0
    omega
  · subst h
    rw [if_neg (by omega), if_pos (by omega), if_neg (by omega), if_neg (by omega)]
    rw [show i = 4 * q + 1 by omega] at h0
    omega
  · subst h
    rw [if_neg (by omega), if_neg (by omega), if_pos (by omega), if_neg (by omega)]
    rw [show i = 4 * q + 2 by omega] at h0
    omega
  · subst h
    rw [if_neg (by omega), if_neg (by omega), if_neg (by omega), if_pos (by omega)]
    rw [show i = 4 * q + 3 by omega] at h0
    omega
theorem word_eq2 (l : List UInt8) (i k : Nat) (v : UInt8) (hi : i < l.length) (hk : k ≠ i / 4) : word (l.set i v) (4 * k) = word l (4 * k) := by
  have e : ∀ j, oc (l.set i v) j = if i = j then (v.toNat : Int) else oc l j := fun j => oc_set l i j v hi
  unfold word
  simp only [part, e]
  rw [if_neg (by omega), if_neg (by omega), if_neg (by omega), if_neg (by omega)]
theorem sum_one (f g : Nat → Int) (q : Nat) : ∀ n, (∀ k, k ≠ q → f k = g k) → f q ≠ g q → ((List.range n).map f).sum - ((List.range n).map g).sum = if q < n then f q - g q else 0
  | 0, _, _ => by simp
  | n + 1, h, hq => by
    have ih := sum_one f g q n h hq
    rw [List.range_succ, List.map_append, List.map_append, List.sum_append, List.sum_append]
    simp only [List.map_cons, List.map_nil, List.sum_cons, List.sum_nil]
    by_cases e : n = q
    · subst e
      rw [if_neg (by omega)] at ih
      rw [if_pos (by omega)]
      omega
    · rw [h n e]
      by_cases h1 : q < n
      · rw [if_pos h1] at ih
        rw [if_pos (by omega)]
        omega
      · rw [if_neg h1] at ih
        rw [if_neg (by omega)]
        omega
theorem feed_a : ∀ (xs : List Int) (s : Su), 0 ≤ s.a → (∀ x ∈ xs, 0 ≤ x ∧ x ≤ 4294967295) → s.a + 4294967295 * xs.length < 18446744073709551616 → (xs.foldl stp s).a = s.a + xs.sum
  | [], s, _, _, _ => by simp
  | x :: xs, s, h0, hx, hb => by
    have h1 := hx x (List.mem_cons_self ..)
    rw [List.length_cons] at hb
    have e : (stp s x).a = s.a + x := by
      show IntKind.u64.wrap (s.a + x) = s.a + x
      exact IntWalk.u64_in _ (by omega)
    have ih := feed_a xs (stp s x) (by rw [e]; omega) (fun y hy => hx y (List.mem_cons_of_mem _ hy)) (by rw [e]; omega)
    rw [List.foldl_cons, ih, e, List.sum_cons]
    omega
theorem feed_a0 (l : List UInt8) (h : l.length = 56) : (feed Su.zero l).a = (words l).sum ∧ 0 ≤ (words l).sum ∧ (words l).sum < 18446744073709551616 := by
  have hl : (words l).length = 14 := by rw [words_length, h]
  have h1 := feed_a (words l) Su.zero (Int.le_refl _) (words_bd l) (by rw [hl]; decide)
  have h2 : ∀ xs : List Int, (∀ x ∈ xs, 0 ≤ x ∧ x ≤ 4294967295) → 0 ≤ xs.sum ∧ xs.sum ≤ 4294967295 * xs.length := fun xs => by
    induction xs with
    | nil => intro _; simp
    | cons x xs ih =>
      intro hx
      have := ih fun y hy => hx y (List.mem_cons_of_mem _ hy)
      have := hx x (List.mem_cons_self ..)
      rw [List.sum_cons, List.length_cons]
      omega
  have h3 := h2 _ (words_bd l)
  rw [hl] at h3
  refine ⟨?_, h3.1, by omega⟩
  rw [feed, h1]
  show (0 : Int) + _ = _
  omega
theorem page_changed (p : List UInt8) (nx : Nat) (hp : p.length ≤ 52) (hn : nx < 8192) (i : Nat) (v : UInt8) (hi : i < (pgB p (nx : Int)).length) (hv : v ≠ (pgB p (nx : Int))[i]) : dcOk ((pgB p (nx : Int)).set i v) = false := by
  have hlen := pgB_len p (nx : Int) hp
  cases hok : dcOk ((pgB p (nx : Int)).set i v) with
  | false => rfl
  | true =>
    exfalso
    generalize hb : (pgB p (nx : Int)).set i v = b at hok
    have h1 := hok
    unfold dcOk at h1
    simp only [Bool.and_eq_true, decide_eq_true_eq] at h1
    obtain ⟨⟨⟨_, h2⟩, _⟩, h4⟩ := h1
    have hd : (dcD b).length ≤ 52 := by rw [dcD, List.length_take]; omega
    have hH := pgH_len p (nx : Int) hp
    have hH' := pgH_len (dcD b) (dcX b : Int) hd
    have e0 : pgB p (nx : Int) = pgH p (nx : Int) ++ puts (feed Su.zero (pgH p (nx : Int))).a 8 := rfl
    have e1 : b = pgH (dcD b) (dcX b : Int) ++ puts (feed Su.zero (pgH (dcD b) (dcX b : Int))).a 8 := h4
    generalize pgH p (nx : Int) = H at *
    generalize pgH (dcD b) (dcX b : Int) = H' at *
    have et : ∀ (L : List UInt8), L.length = 56 → ∀ T, (L ++ T).take 56 = L := fun L hL T => List.take_left' hL
    have ed : ∀ (L : List UInt8), L.length = 56 → ∀ T, (L ++ T).drop 56 = T := fun L hL T => List.drop_left' hL
    have hbi : b[i]? = some v := by rw [← hb, List.getElem?_set_self hi]
    by_cases h56 : i < 56
    · have q1 : H' = H.set i v := by
        rw [← et H' hH' (puts (feed Su.zero H').a 8), ← e1, ← hb, e0, List.take_set, et H hH]
      have q2 : puts (feed Su.zero H').a 8 = puts (feed Su.zero H).a 8 := by
        rw [← ed H' hH' (puts (feed Su.zero H').a 8), ← e1, ← hb, e0, List.drop_set_of_lt h56, ed H hH]
      obtain ⟨a1, a2, a3⟩ := feed_a0 H hH
      obtain ⟨b1, b2, b3⟩ := feed_a0 H' hH'
      have q3 := congrArg val q2
      have q4 : (val (puts (feed Su.zero H').a 8) : Int) = (val (puts (feed Su.zero H).a 8) : Int) := by rw [q3]
      rw [val_puts, val_puts, a1, b1] at q4
      have q5 : (words H').sum = (words H).sum := by
        rw [Int.emod_eq_of_lt b2 (by exact b3), Int.emod_eq_of_lt a2 (by exact a3)] at q4
        exact q4
      have hiH : i < H.length := by omega
      have hvH : v ≠ H[i] := fun e => hv (by
        rw [e]
        have : (H ++ puts (feed Su.zero H).a 8)[i]? = some H[i] := by rw [List.getElem?_append_left hiH, List.getElem?_eq_getElem hiH]
        rw [← e0, List.getElem?_eq_getElem hi] at this
        exact (Option.some.inj this).symm)
      have q6 := sum_one (fun k => word (H.set i v) (4 * k)) (fun k => word H (4 * k)) (i / 4) 14 (fun k hk => word_eq2 H i k v hiH hk) (word_ne H i v hiH hvH)
      rw [if_pos (by omega)] at q6
      have w1 : words H = (List.range 14).map fun k => word H (4 * k) := by rw [words, hH]
      have w2 : words H' = (List.range 14).map fun k => word (H.set i v) (4 * k) := by rw [words, hH', q1]
      rw [w1, w2] at q5
      have := word_ne H i v hiH hvH
      omega
    · have q1 : H' = H := by
        rw [← et H' hH' (puts (feed Su.zero H').a 8), ← e1, ← hb, e0, List.take_set, et H hH]
        exact List.set_eq_of_length_le (by omega)
      have q2 : b = pgB p (nx : Int) := by rw [e1, q1, e0]
      rw [q2, List.getElem?_eq_getElem hi] at hbi
      exact hv (Option.some.inj hbi).symm
theorem bits_xor8 (b y : UInt8) : bits BinOp.xor IntKind.u8 (b.toNat : Int) (y.toNat : Int) = ((b ^^^ y).toNat : Int) := by
  have e : ∀ x : UInt8, BitVec.ofInt IntKind.u8.bits (x.toNat : Int) = BitVec.ofNat IntKind.u8.bits x.toNat := fun x => BitVec.ofInt_natCast _ _
  have h : (BitVec.ofNat IntKind.u8.bits b.toNat ^^^ BitVec.ofNat IntKind.u8.bits y.toNat).toNat = (b ^^^ y).toNat := by
    rw [BitVec.toNat_xor, BitVec.toNat_ofNat, BitVec.toNat_ofNat, UInt8.toNat_xor]
    show (b.toNat % 256) ^^^ (y.toNat % 256) = _
    rw [Nat.mod_eq_of_lt b.toNat_lt, Nat.mod_eq_of_lt y.toNat_lt]
  unfold bits
  rw [e b, e y]
  show IntKind.u8.wrap ((BitVec.ofNat IntKind.u8.bits b.toNat ^^^ BitVec.ofNat IntKind.u8.bits y.toNat).toNat : Int) = _
  rw [h]
  exact IntWalk.u8_in _ (by have := (b ^^^ y).toNat_lt; omega)
theorem xor_ne (b y : UInt8) (h : y ≠ 0) : b ^^^ y ≠ b := by
  intro e
  apply h
  have h2 : b ^^^ (b ^^^ y) = b ^^^ b := by rw [e]
  rw [← UInt8.xor_assoc, UInt8.xor_self, UInt8.zero_xor] at h2
  exact h2
end Go.Proofs.YtfongpdeflfioaaGreat
