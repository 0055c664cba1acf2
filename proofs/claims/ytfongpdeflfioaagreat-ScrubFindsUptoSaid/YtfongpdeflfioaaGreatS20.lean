/- The texts Sab, Ubd, Mpi, Lch, Lbj in one file. -/
import Derived.Test.YtfongpdeflfioaaGreatS19
import Derived.Test.YtfongpdeflfioaaGreatS18
import Derived.Test.YtfongpdeflfioaaGreatS12
import Derived.Test.YtfongpdeflfioaaGreatS4
import Derived.Test.YtfongpdeflfioaaGreatS15
import Derived.Test.YtfongpdeflfioaaGreatS8
import Derived.Test.YtfongpdeflfioaaGreatS2
/- Stores without addresses: which may be, and which a device holds. -/
namespace Go.Proofs.YtfongpdeflfioaaGreat
open Go.RowKit Go.Maps Go.Sort Go.Shelf
set_option linter.unusedVariables false
set_option linter.unusedSimpArgs false
abbrev ObS := ByteArray × List UInt8 × List Int
structure Abs where
  S : List (List UInt8)
  u : Ub
  O : List ObS
  X : List Int
def Sto.abs (s : Sto) : Abs := ⟨s.dev.secv, s.ub, s.objs.xs.map strip, s.idx.xs⟩
def Abs.used (a : Abs) : List Int := a.X ++ a.O.flatMap fun o => o.2.2
def risK (ks : List ByteArray) : Bool := !(List.range ks.length).any fun k => decide ((ks.getD k .empty).size = 0) || decide (96 < (ks.getD k .empty).size) || (decide (0 < k) && !lessB (ks.getD (k - 1) .empty) (ks.getD k .empty))
theorem risB_keys (xs : List Ob) : risB xs = risK (xs.map Ob.key) := by
  rw [risB, risK, badKU, List.length_map]; rfl
structure Abs.ok (a : Abs) : Prop where
  n2 : 2 ≤ a.S.length
  n8 : a.S.length ≤ 8192
  s64 : ∀ s ∈ a.S, s.length = 64
  ub : ubE a.u = 0
  cnt : a.O.length ≤ 256
  cu : (a.O.length : Int) = a.u.objs
  ris : risK (a.O.map fun o => o.1) = true
  fit : ∀ o ∈ a.O, o.2.1.length ≤ 65536 ∧ o.2.2.length = cntP o.2.1.length
  lo : ∀ y ∈ a.used, 2 ≤ y ∧ y < (a.S.length : Int)
  nd : a.used.Nodup
  wE0 : wE (idxS a.O) = 0
  xl : a.O = [] → a.X = []
  xn : a.O ≠ [] → a.X.length = cntP (wB (idxS a.O)).length
theorem uni_of_nodup {l : List Int} (h : l.Nodup) : (uni l).length = l.length := by
  have n1 : (uni l).Nodup := (uni_sorted l).imp fun h => by omega
  exact ((List.perm_ext_iff_of_nodup n1 h).2 fun x => mem_uni _).length_eq
theorem spE_iff (total : Int) (l : List Int) : spE total l = 0 ↔ 2 ≤ total ∧ total ≤ 8192 ∧ (∀ y ∈ l, 2 ≤ y ∧ y < total) ∧ l.Nodup := by
  constructor
  · intro h
    obtain ⟨_, h1, h2, h3, h4⟩ := spE_uni _ _ h
    exact ⟨h1, h2, h3, uni_nodup h4⟩
  · rintro ⟨h1, h2, h3, h4⟩
    unfold spE
    rw [if_neg, if_neg (by rw [uni_of_nodup h4]; simp)]
    rintro (q | q | q)
    · omega
    · omega
    · obtain ⟨y, hy, hb⟩ := List.any_eq_true.1 q
      have := h3 y hy
      unfold badN at hb
      simp at hb
      omega
theorem used_abs (s : Sto) : s.abs.used = usedL s := by
  rw [Abs.used, usedL, locsL]
  show s.idx.xs ++ (s.objs.xs.map strip).flatMap (fun o => o.2.2) = _
  rw [List.flatMap_map]; rfl
theorem secv_len {s : Sto} {w : World} {lo hi : Nat} (h : Sto.At w lo hi s) : s.abs.S.length = s.dev.secs.n := by
  show s.dev.secv.length = _
  rw [Dev.secv, List.length_map, ← h.dev.secs.len]
theorem sck_abs {s : Sto} {w : World} {lo hi : Nat} (h : Sto.At w lo hi s) : sCk s = 0 ↔ s.abs.ok ∧ s.dev.waits.n = 0 := by
  have hI : idxT s.objs.xs = idxS s.abs.O := idxT_strip _ fun x hx => (h.objs.all x hx).data.len
  have hn : s.objs.n = s.abs.O.length := by rw [h.objs.len]; show _ = (s.objs.xs.map strip).length; rw [List.length_map]
  have hx : s.idx.n = s.abs.X.length := h.idx.len
  have hK : s.abs.O.map (fun o => o.1) = s.objs.xs.map Ob.key := by show (s.objs.xs.map strip).map _ = _; rw [List.map_map]; rfl
  have hs := secv_len h
  have hc : sCk s = 0 ↔ sOk s = true := by
    unfold sCk
    split
    · simp_all
    · simp_all
  rw [hc]
  constructor
  · intro hg
    unfold sOk at hg
    simp only [Bool.and_eq_true, decide_eq_true_eq] at hg
    obtain ⟨⟨⟨hhd, hob⟩, hsp⟩, hix⟩ := hg
    unfold headOk at hhd
    simp only [Bool.and_eq_true, decide_eq_true_eq] at hhd
    obtain ⟨⟨hck, hub⟩, hwt⟩ := hhd
    unfold objOk at hob
    simp only [Bool.and_eq_true, decide_eq_true_eq, Bool.not_eq_true'] at hob
    obtain ⟨⟨⟨hn256, hcu⟩, hris⟩, hodd⟩ := hob
    unfold idxOk at hix
    simp only [Bool.and_eq_true, Bool.or_eq_true, decide_eq_true_eq] at hix
    obtain ⟨⟨hw0, hx1⟩, hx2⟩ := hix
    rw [hI] at hw0 hx1
    obtain ⟨p1, p2, p3, _⟩ := chk_ok h.dev.secs.len hck
    obtain ⟨_, _, q3, q4⟩ := (spE_iff _ _).1 hsp
    refine ⟨⟨by omega, by omega, fun b hb => ?_, hub, by omega, by rw [← hn]; exact hcu, by rw [hK, ← risB_keys]; exact hris, fun o ho => ?_, by rw [used_abs, hs]; exact q3, by rw [used_abs]; exact q4, hw0, fun e => ?_, fun e => ?_⟩, hwt⟩
    · obtain ⟨x, hx, rfl⟩ := List.mem_map.1 (show b ∈ s.dev.secs.xs.map _ from hb)
      rw [← (h.dev.secs.all x hx).len]
      exact p3 x hx
    · obtain ⟨x, hx, rfl⟩ := List.mem_map.1 (show o ∈ s.objs.xs.map strip from ho)
      have hq : oddB x = false := by
        cases hb : oddB x
        · rfl
        · rw [List.any_eq_true.2 ⟨x, hx, hb⟩] at hodd; cases hodd
      unfold oddB at hq
      simp at hq
      have h1 := (h.objs.all x hx).data.len
      have h2 := (h.objs.all x hx).locs.len
      show x.data.xs.length ≤ 65536 ∧ x.locs.xs.length = cntP x.data.xs.length
      rw [← h1, ← h2]
      exact ⟨by omega, hq.2⟩
    · have h0 : s.objs.n = 0 := by rw [hn, e]; rfl
      have : s.idx.n = 0 := by omega
      exact List.eq_nil_of_length_eq_zero (by rw [← hx]; exact this)
    · have h0 : ¬ s.objs.n = 0 := fun h => e (List.eq_nil_of_length_eq_zero (by rw [← hn]; exact h))
      rw [← hx]
      omega
  · rintro ⟨hk, hwt⟩
    have hr : risB s.objs.xs = true := by rw [risB_keys, ← hK]; exact hk.ris
    have h0 : s.objs.n = 0 ↔ s.abs.O = [] := by rw [hn, List.length_eq_zero_iff]
    have e1 : chkE s.dev = 0 := all64 h.dev hk.s64 hwt (by have := hk.n2; omega) (by have := hk.n8; omega)
    have e2 : spE (s.dev.secs.n : Int) (usedL s) = 0 := (spE_iff _ _).2 ⟨by have := hk.n2; omega, by have := hk.n8; omega, by rw [← used_abs, ← hs]; exact hk.lo, by rw [← used_abs]; exact hk.nd⟩
    have e3 : s.objs.xs.any oddB = false := by
      rw [List.any_eq_false]
      intro x hx
      have h3 := hk.fit (strip x) (List.mem_map_of_mem hx)
      have h1 := (h.objs.all x hx).data.len
      have h2 := (h.objs.all x hx).locs.len
      have h4 : x.data.xs.length ≤ 65536 ∧ x.locs.xs.length = cntP x.data.xs.length := h3
      rw [← h1, ← h2] at h4
      unfold oddB
      simp
      omega
    have e4 : objOk s = true := by
      unfold objOk
      rw [hr, e3]
      have := hk.cnt
      have := hk.cu
      have h5 : s.abs.u = s.ub := rfl
      rw [h5] at this
      simp
      omega
    have e5 : headOk s = true := by
      unfold headOk
      rw [e1, hwt, show ubE s.ub = 0 from hk.ub]; rfl
    have e6 : idxOk s = true := by
      unfold idxOk
      rw [hI, hk.wE0]
      rcases Classical.em (s.abs.O = []) with h9 | h9
      · have h8 := hk.xl h9
        have h7 : s.objs.n = 0 := h0.2 h9
        have h6 : s.idx.n = 0 := by rw [hx, h8]; rfl
        simp [h7, h6]
      · have h8 := hk.xn h9
        have h7 : ¬ s.objs.n = 0 := fun h => h9 (h0.1 h)
        simp [hx, h8]
        omega
    unfold sOk
    rw [e5, e4, e2, e6]; rfl
structure Abs.holds (a : Abs) : Prop where
  ok : a.ok
  ubs : ∃ x y : Ub, x.wf ∧ y.wf ∧ ubE x = 0 ∧ ubE y = 0 ∧ x.txg % 2 = 0 ∧ y.txg % 2 = 1 ∧ a.S[0]? = some (ueB x) ∧ a.S[1]? = some (ueB y) ∧ a.u = if x.txg < y.txg then y else x
  first : a.u.first = a.X.getD 0 0
  chain : ∀ k (h : k < a.X.length), a.S[(a.X[k]).toNat]? = some (pgB (partO (wB (idxS a.O)) k) (a.X.getD (k + 1) 0))
  objs : ∀ o ∈ a.O, ∀ k (h : k < o.2.2.length), a.S[(o.2.2[k]).toNat]? = some (pgB (partO o.2.1 k) 0)
end Go.Proofs.YtfongpdeflfioaaGreat
/- uber.number, uber.Decode, uber.Newest: of an uberblock's sector. -/
namespace Go.Proofs.YtfongpdeflfioaaGreat
open Go.RowKit Go.Maps Go.Sort Go.Shelf
set_option linter.unusedVariables false
set_option linter.unusedSimpArgs false
theorem unum_ok (w : World) (b o n c k m : Nat) (K M : Int) (s : List UInt8) (hn : n = s.length) (hr : Rd w 0 w.heap.size (some ⟨b, o, none⟩) (bytes s)) (hnc : n ≤ c) (hm : c ≤ maxLen) (hK : K = (k : Int)) (hM : M = (m : Int)) (hk : k + m ≤ n) (hm1 : 1 ≤ m) (v : Int) (hv : numV ((s.drop k).take m) = v) :
    Calls Tryz.prog 132 #[.slice (some ⟨b, o, none⟩) n c, .int .i64 K, .int .i64 M] w fun e w' => e = .returned (.int .i64 v) ∧ Ext w w' := by
  obtain ⟨i0, hi0, hz0, hz1, hz2⟩ := info_parts info5
  simp only [maxLen] at hm
  have HT := Lib.hid (show Rd w 0 w.heap.size (some ⟨b, o + k, none⟩) (bytes ((s.drop k).take m)) by rw [← bytes_take, ← bytes_drop]; exact (hr.step k).take m)
  have hl : m = ((s.drop k).take m).length := by rw [List.length_take, List.length_drop]; omega
  have HC := Lib.hid (fun W (hW : Ext w W) => number_any W (some ⟨b, o + k, none⟩) m (c - k) 0 W.heap.size ((s.drop k).take m) hl (by omega) (Rd.at HT.out hW (Nat.le_refl _)) (Nat.le_refl _))
  rw [hv] at HC
  have hs1 := fun W => run_sl_mid (P := Tryz.prog) W 33 5 i0 Tryz.underlying33 hi0 hz1 b o n c k (k + m) K (K + M) hK (by omega) (by omega) (by omega) (by omega)
  have e1 : k + m - k = m := by omega
  rw [e1] at hs1
  have hK1 : 0 ≤ K := by omega
  have hM1 : 0 ≤ M := by omega
  have hKM : K + M ≤ 9223372036854775807 := by omega
  have HKk := Lib.hid hK
  have HMm := Lib.hid hM
  clear hr hl hv hn hK hM e1 HT
  go_enter Tryz.func132, Tryz.ntmps132
  go_wp2_with (first | (go_at_call 79; refine (HC.out _ (by exact blo)).mono ?_; clear HC; rintro e w1 ⟨rfl, e1⟩))
  go_ret
  exact ⟨rfl, e1⟩
theorem numV_puts4 (x : Int) (h0 : 0 ≤ x) (h1 : x < 4294967296) : numV (puts x 4) = x := by
  have h := val_puts x 4
  rw [Int.emod_eq_of_lt h0 (by omega)] at h
  unfold numV
  rw [puts_length, if_neg (by decide), if_neg (by decide), if_neg (by omega)]
  exact h
theorem ubE_ok {u : Ub} (h : ubE u = 0) : 1 ≤ u.txg ∧ u.txg ≤ 1099511627776 ∧ 0 ≤ u.first ∧ u.first ≠ 1 ∧ u.first < 8192 ∧ 0 ≤ u.objs ∧ u.objs ≤ 1024 ∧ (u.first = 0 ↔ u.objs = 0) := by
  unfold ubE at h
  split at h
  · cases h
  · rename_i h
    simp only [not_or, Classical.not_not] at h
    omega
theorem mid_of (a b c : List UInt8) (i m : Nat) (ha : a.length = i) (hb : b.length = m) : ((a ++ (b ++ c)).drop i).take m = b := by
  subst ha
  subst hb
  simp
theorem ueB_txg {u : Ub} (h : ubE u = 0) : numV (((ueB u).drop 4).take 8) = u.txg := by
  obtain ⟨h1, h2, _⟩ := ubE_ok h
  have e : ∀ S, ueH u ++ S = [103, 100, 110, 49] ++ (puts u.txg 8 ++ (puts u.first 4 ++ puts u.objs 4 ++ List.replicate 12 0 ++ S)) := fun S => by rw [ueH]; simp only [List.append_assoc]
  rw [ueB, e, mid_of _ _ _ 4 8 rfl (puts_length _ _)]
  exact (num_back u.txg (by omega) (by omega)).2 (by omega)
theorem ueB_first {u : Ub} (h : ubE u = 0) : numV (((ueB u).drop 12).take 4) = u.first := by
  obtain ⟨_, _, h1, _, h2, _⟩ := ubE_ok h
  have e : ∀ S, ueH u ++ S = ([103, 100, 110, 49] ++ puts u.txg 8) ++ (puts u.first 4 ++ (puts u.objs 4 ++ List.replicate 12 0 ++ S)) := fun S => by rw [ueH]; simp only [List.append_assoc]
  rw [ueB, e, mid_of _ _ _ 12 4 (by rw [List.length_append, puts_length]; rfl) (puts_length _ _)]
  exact numV_puts4 _ h1 (by omega)
theorem ueB_objs {u : Ub} (h : ubE u = 0) : numV (((ueB u).drop 16).take 4) = u.objs := by
  obtain ⟨_, _, _, _, _, h1, h2, _⟩ := ubE_ok h
  have e : ∀ S, ueH u ++ S = ([103, 100, 110, 49] ++ puts u.txg 8 ++ puts u.first 4) ++ (puts u.objs 4 ++ (List.replicate 12 0 ++ S)) := fun S => by rw [ueH]; simp only [List.append_assoc]
  rw [ueB, e, mid_of _ _ _ 16 4 (by rw [List.length_append, List.length_append, puts_length, puts_length]; rfl) (puts_length _ _)]
  exact numV_puts4 _ h1 (by omega)
set_option maxRecDepth 100000 in
set_option maxHeartbeats 4000000 in
theorem udec_ok (w : World) (A : Option Addr) (c : Nat) (u : Ub) (hu : u.wf) (h0 : ubE u = 0) (hr : Rd w 0 w.heap.size A (bytes (ueB u))) (hnc : 64 ≤ c) (hm : c ≤ maxLen) :
    Calls Tryz.prog 102 #[.slice A 64 c] w fun e w' => e = .returned (.tuple #[.agg u.cells.toArray, .int .i64 0]) ∧ Ext w w' := by
  have HR := Lib.hid hr
  obtain ⟨b, o, rfl, _, _, _⟩ := hr (fun e => by have := congrArg List.length e; rw [bytes_length, ueB_len] at this; simp at this)
  clear hr
  have HN0 := Lib.hid (fun W (hW : Ext w W) => unum_ok W b o 64 c 4 8 4 8 (ueB u) (ueB_len u).symm (Rd.at HR.out hW (Nat.le_refl _)) hnc hm rfl rfl (by decide) (by decide) u.txg (ueB_txg h0))
  have HN1 := Lib.hid (fun W (hW : Ext w W) => unum_ok W b o 64 c 12 4 12 4 (ueB u) (ueB_len u).symm (Rd.at HR.out hW (Nat.le_refl _)) hnc hm rfl rfl (by decide) (by decide) u.first (ueB_first h0))
  have HN2 := Lib.hid (fun W (hW : Ext w W) => unum_ok W b o 64 c 16 4 16 4 (ueB u) (ueB_len u).symm (Rd.at HR.out hW (Nat.le_refl _)) hnc hm rfl rfl (by decide) (by decide) u.objs (ueB_objs h0))
  have HE := Lib.hid (fun W => uenc_ok W u hu h0)
  have HQ := Lib.hid (fun W (hW : Ext w W) A2 c2 (h2 : Rd W 0 W.heap.size A2 (bytes (ueB u))) => bequal_any W (some ⟨b, o, none⟩) A2 64 c 64 c2 (ueB u) (ueB u) (ueB_len u).symm (ueB_len u).symm (Rd.at HR.out hW (Nat.le_refl _)) h2)
  simp only [decide_true] at HQ
  generalize ueB u = B at *
  obtain ⟨t, f, q⟩ := u
  simp only [Ub.cells] at *
  clear hnc hm h0 hu
  go_enter Tryz.func102, Tryz.ntmps102
  go_upto_region 1 with fail
  generalize hwH : World.alloc w _ = w1; have HH := Lib.hid (Heap.one hwH); clear hwH
  go_upto_region 4 with (first | (go_at_call 132; (with_reducible refine (HN0.out _ HH.out.ext).mono ?_); rintro e wC ⟨rfl, eC⟩; have HHn := Lib.hid (HH.out.later eC); clear HH eC; have HH := HHn; clear HHn) | (go_at_call 132; (with_reducible refine (HN1.out _ HH.out.ext).mono ?_); rintro e wC ⟨rfl, eC⟩; have HHn := Lib.hid (HH.out.later eC); clear HH eC; have HH := HHn; clear HHn) | (go_at_call 132; (with_reducible refine (HN2.out _ HH.out.ext).mono ?_); rintro e wC ⟨rfl, eC⟩; have HHn := Lib.hid (HH.out.later eC); clear HH eC; have HH := HHn; clear HHn) | (refine shl_store (HH.out.alloc _ _) sizeUb rfl rfl rfl rfl 0 rfl rfl rfl rfl ?_; clear HH; intro wS HHS; have HH := Lib.hid HHS; clear HHS))
  go_wp2_with (refine shl_load HH.out sizeUb (by kernel_rfl) rfl rfl rfl 0 rfl rfl ?_)
  refine (HE.out _).mono ?_
  rintro e w3 ⟨A3, c3, rfl, hown, e3⟩
  have HH3 := Lib.hid (HH.out.addRow e3 hown)
  clear HH hown e3
  have HH := HH3
  clear HH3
  go_wp2_with fail
  refine (HQ.out _ HH.out.ext A3 c3 ((HH.out.rowRd 0 rfl).m0)).mono ?_
  rintro e w4 ⟨rfl, e4⟩
  have HH4 := Lib.hid (HH.out.later e4)
  clear HH e4
  have HH := HH4
  clear HH4
  go_wp2_with (first | (refine shl_load HH.out sizeUb (by kernel_rfl) rfl rfl rfl 1 rfl rfl ?_) | (refine shl_store HH.out sizeUb rfl rfl rfl rfl 2 rfl rfl rfl rfl ?_; clear HH; intro wS HHS; have HH := Lib.hid HHS; clear HHS))
  refine ret_cell2 sizeUb (by kernel_rfl) HH.out rfl rfl rfl 2 rfl rfl rfl ?_
  exact ⟨rfl, HH.out.ext⟩
set_option maxRecDepth 100000 in
set_option maxHeartbeats 4000000 in
theorem unew_ok (w : World) (A B : Option Addr) (c d : Nat) (x y : Ub) (hx : x.wf) (hy : y.wf) (hx0 : ubE x = 0) (hy0 : ubE y = 0) (hA : Rd w 0 w.heap.size A (bytes (ueB x))) (hB : Rd w 0 w.heap.size B (bytes (ueB y))) (hc : 64 ≤ c) (hm : c ≤ maxLen) (hd : 64 ≤ d) (hm2 : d ≤ maxLen) :
    Calls Tryz.prog 66 #[.slice A 64 c, .slice B 64 d] w fun e w' => e = .returned (.tuple #[.agg (if x.txg < y.txg then y else x).cells.toArray, .int .i64 (if x.txg < y.txg then 1 else 0), .int .i64 0]) ∧ Ext w w' := by
  have HX := Lib.hid (fun W (hW : Ext w W) => udec_ok W A c x hx hx0 (Rd.at hA hW (Nat.le_refl _)) hc hm)
  have HY := Lib.hid (fun W (hW : Ext w W) => udec_ok W B d y hy hy0 (Rd.at hB hW (Nat.le_refl _)) hd hm2)
  clear hA hB hx hy hx0 hy0 hc hm hd hm2
  obtain ⟨t, f, q⟩ := x
  obtain ⟨t2, f2, q2⟩ := y
  simp only [Ub.cells] at *
  by_cases hlt : t < t2
  · rw [if_pos hlt, if_pos hlt]
    go_enter Tryz.func66, Tryz.ntmps66
    go_upto_region 1 with fail
    generalize hwH : World.alloc w _ = w1; have HH := Lib.hid (Heap.one hwH); clear hwH
    go_upto_region 3 with (first | (go_at_call 102; (with_reducible refine (HX.out _ HH.out.ext).mono ?_); rintro e wC ⟨rfl, eC⟩; have HHn := Lib.hid (HH.out.later eC); clear HH eC; have HH := HHn; clear HHn) | (go_at_call 102; (with_reducible refine (HY.out _ HH.out.ext).mono ?_); rintro e wC ⟨rfl, eC⟩; have HHn := Lib.hid (HH.out.later eC); clear HH eC; have HH := HHn; clear HHn) | (refine shl_store (HH.out.alloc _ _) sizeUb rfl rfl rfl rfl 0 rfl rfl rfl rfl ?_; clear HH; intro wS HHS; have HH := Lib.hid HHS; clear HHS))
    have g0 := (HH.out.boxAt 0 rfl).cell 0 _ rfl
    have g1 := (HH.out.boxAt 1 rfl).cell 0 _ rfl
    go_wp2_with (first | (refine shl_load HH.out sizeUb (by kernel_rfl) rfl rfl rfl 0 rfl rfl ?_) | (refine shl_store HH.out sizeUb rfl rfl rfl rfl 2 rfl rfl rfl rfl ?_; clear HH; intro wS HHS; have HH := Lib.hid HHS; clear HHS))
    refine ret_cell3 sizeUb (by kernel_rfl) HH.out rfl rfl rfl rfl 2 rfl rfl rfl ?_
    exact ⟨rfl, HH.out.ext⟩
  · rw [if_neg hlt, if_neg hlt]
    go_enter Tryz.func66, Tryz.ntmps66
    go_upto_region 1 with fail
    generalize hwH : World.alloc w _ = w1; have HH := Lib.hid (Heap.one hwH); clear hwH
    go_upto_region 3 with (first | (go_at_call 102; (with_reducible refine (HX.out _ HH.out.ext).mono ?_); rintro e wC ⟨rfl, eC⟩; have HHn := Lib.hid (HH.out.later eC); clear HH eC; have HH := HHn; clear HHn) | (go_at_call 102; (with_reducible refine (HY.out _ HH.out.ext).mono ?_); rintro e wC ⟨rfl, eC⟩; have HHn := Lib.hid (HH.out.later eC); clear HH eC; have HH := HHn; clear HHn) | (refine shl_store (HH.out.alloc _ _) sizeUb rfl rfl rfl rfl 0 rfl rfl rfl rfl ?_; clear HH; intro wS HHS; have HH := Lib.hid HHS; clear HHS))
    have g0 := (HH.out.boxAt 0 rfl).cell 0 _ rfl
    have g1 := (HH.out.boxAt 1 rfl).cell 0 _ rfl
    go_wp2_with (first | (refine shl_load HH.out sizeUb (by kernel_rfl) rfl rfl rfl 1 rfl rfl ?_) | (refine shl_store HH.out sizeUb rfl rfl rfl rfl 2 rfl rfl rfl rfl ?_; clear HH; intro wS HHS; have HH := Lib.hid HHS; clear HHS))
    refine ret_cell3 sizeUb (by kernel_rfl) HH.out rfl rfl rfl rfl 2 rfl rfl rfl ?_
    exact ⟨rfl, HH.out.ext⟩
end Go.Proofs.YtfongpdeflfioaaGreat
/- A map of ints as an item; pages that come back; store.loader.page. -/
namespace Go.Proofs.YtfongpdeflfioaaGreat
open Go.RowKit Go.Maps Go.Sort Go.Shelf
set_option linter.unusedVariables false
set_option linter.unusedSimpArgs false
section
variable {w0 w w' : World} {its : List It} {b n n' i : Nat} {L L' : List Int}
def It.mapi (b n : Nat) (L : List Int) : It :=
  .any (fun k => k = b) (fun w => MapI w b n L) (fun w k h hk => by subst hk; exact h.lt) (fun w w' _ hk h => by
    obtain ⟨es, clock, hb, hrest⟩ := h
    exact ⟨es, clock, (hk b rfl).trans hb, hrest⟩)
theorem Heap.mapAt (H : Heap w0 its w) (i : Nat) (hi : its[i]? = some (It.mapi b n L)) : MapI w b n L := (H.all i _ hi).2
theorem Heap.allocMap (H : Heap w0 its w) (hw : w.alloc (.map #[] 0) = w') : Heap w0 (It.mapi w.heap.size 0 [] :: its) w' := by
  subst hw
  refine H.add ((Ext.refl w).alloc _) ⟨fun k hk => ?_, World.ownsMap_made _ _ _ _⟩ (fun k hk => ?_)
  · rw [show k = w.heap.size from hk]; exact H.ext.size
  · rw [show k = w.heap.size from hk]; exact Nat.le_refl _
theorem Heap.mapSet (H : Heap w0 its w) (hi : its[i]? = some (It.mapi b n L)) (hm : MapI w' b n' L') (g : w.grownBy w' (some b)) : Heap w0 (its.set i (It.mapi b n' L')) w' := by
  have hb := H.all i _ hi
  refine H.upd hi ⟨g.os, g.tape, g.output, g.size, fun k hk ho => g.block k hk fun e => ho (Option.some.inj e)⟩ ⟨fun k hk => hb.1 k hk, hm⟩ (fun k hk => .inl hk) (fun k hk => .inl hk) (fun k hk => hb.1 k hk)
end
set_option maxRecDepth 100000 in
theorem mapi_look {w : World} {b n : Nat} {L : List Int} (h : MapI w b n L) (y : Int) (hwf : (Lit.int .i64 y).wf = true) :
    (Instr.lookup 118 (.map (some b)) (.int .i64 y) false).run Tryz.prog w = .ok (.bool (decide (y ∈ L))) w := by
  obtain ⟨v, ps, hrun, hv⟩ := h.lookup lawI Tryz.underlying118 (by rfl) (plainElem_bool Tryz.underlying4 false) (Maps.keyOf_int_mk Tryz.underlying3 hwf)
  unfold plainElem at hv
  rw [Tryz.underlying4] at hv
  cases v <;> simp at hv
  rw [dmI_at] at hv
  have h2 := hv.1
  injection h2 with h2
  injection h2 with h2
  rw [hrun, h2]
theorem pgB_back (p : List UInt8) (nx : Nat) (hp : p.length ≤ 52) (hn : nx < 8192) : dcOk (pgB p (nx : Int)) = true ∧ dcD (pgB p (nx : Int)) = p ∧ dcX (pgB p (nx : Int)) = nx := by
  have e : ∀ S, pgH p (nx : Int) ++ S = puts (p.length : Int) 2 ++ (puts (nx : Int) 2 ++ (p ++ (List.replicate (52 - p.length) 0 ++ S))) := fun S => by rw [pgH]; simp only [List.append_assoc]
  have h1 : dcN (pgB p (nx : Int)) = p.length := by
    rw [dcN, pgB, e, List.take_left' (puts_length _ _)]
    exact val_puts_small _ _ (by omega)
  have h2 : dcX (pgB p (nx : Int)) = nx := by
    rw [dcX, pgB, e, mid_of _ _ _ 2 2 (puts_length _ _) (puts_length _ _)]
    exact val_puts_small _ _ (by omega)
  have h3 : dcD (pgB p (nx : Int)) = p := by
    rw [dcD, h1, pgB, e, ← List.append_assoc, mid_of _ _ _ 4 p.length (by rw [List.length_append, puts_length, puts_length]) rfl]
  refine ⟨?_, h3, h2⟩
  unfold dcOk
  rw [h1, h2, h3, pgB_len _ _ hp]
  have h4 : pgE p (nx : Int) = 0 := by unfold pgE; rw [if_neg (by omega), if_neg (by omega)]
  simp [h4, hp]
set_option maxRecDepth 100000 in
set_option maxHeartbeats 4000000 in
theorem lpage_ok {w0 w : World} {its : List It} (rb mb m : Nat) (L : List Int) (secs : Sl Oct) (qv : Value) (i j : Nat) (hi : its[i]? = some (.box rb [secs.val, qv, .map (some mb)])) (hj : its[j]? = some (It.mapi mb m L)) (H : Heap w0 its w)
    (hS : Sl.At w0 0 w0.heap.size octv (Oct.At w0 0 w0.heap.size) secs) (hsn : secs.n ≤ 8192) (hm : m ≤ 1000000) (q : Nat) (h2 : 2 ≤ q) (hq : q < secs.xs.length) (hL : (q : Int) ∉ L) (p : List UInt8) (nx : Nat) (hp : p.length ≤ 52) (h1 : nx < 8192) (hx : (secs.xs[q]).xs = pgB p (nx : Int)) :
    Calls Tryz.prog 103 #[.pointer (some ⟨rb, 0, none⟩), .int .i64 (q : Int)] w fun e w' => ∃ A c, e = .returned (.tuple #[.slice A p.length c, .int .i64 (nx : Int)]) ∧ Heap w0 (.row 5 1 (.slice A p.length c) p.length (bytes p) :: its.set j (It.mapi mb (m + 1) (putI L (q : Int)))) w' := by
  obtain ⟨sb, so, hA, _, hsb, G⟩ := rd_flat (size := 1) (fun _ => rfl) (by omega) hS.rd hq
  have HSO := Lib.hid (hS.all _ (List.getElem_mem hq))
  have hqn : (q : Int) < (secs.n : Int) := by rw [hS.len]; omega
  obtain ⟨sA, sn, sc, sx⟩ := secs
  dsimp only at hA hx hsn hqn HSO hq G
  subst hA
  have g0 := G 0 _ rfl
  simp only [Nat.mul_one, Nat.add_zero] at g0
  have HX := Lib.hid hx
  clear G hx hS
  generalize sx[q] = se at *
  obtain ⟨eA, en, ec, ex⟩ := se
  simp only [Sl.val] at g0 hi
  dsimp only at HX
  have HI := Lib.hid hi
  have HJ := Lib.hid hj
  have HIJ := Lib.hid (show i ≠ j from fun e => by subst e; rw [hi] at hj; cases hj)
  clear hi hj
  obtain ⟨hd1, hd2, hd3⟩ := pgB_back p nx hp h1
  rw [← HX.out] at hd1 hd2 hd3
  have HD1 := Lib.hid hd1
  have HD2 := Lib.hid hd2
  have HD3 := Lib.hid hd3
  have HL := Lib.hid hL
  have HH := Lib.hid H
  have HG := Lib.hid g0
  have h3 : (2 : Int) ≤ (q : Int) := by omega
  clear H hL g0 hd1 hd2 hd3 hp h1 h2
  go_enter Tryz.func103, Tryz.ntmps103
  go_upto_region 1 with fail
  have g0 := (HH.out.boxAt i HI.out).cell 0 _ rfl
  have g2 := (HH.out.boxAt i HI.out).cell 2 _ rfl
  have hlk := mapi_look (HH.out.mapAt j HJ.out) (q : Int) (by
    simp only [Lit.wf, Bool.and_eq_true, decide_eq_true_eq]
    constructor
    · show (-9223372036854775808 : Int) ≤ q; omega
    · show (q : Int) ≤ (9223372036854775807 : Int); omega)
  rw [decide_eq_false HL.out] at hlk
  go_upto_region 2 with (go_at_call 59; (refine (sneed_true _ _).mono ?_); rintro e wN ⟨rfl, rfl⟩)
  clear hlk
  have HW := Lib.hid (show (Lit.int .i64 (q : Int)).wf = true by
    simp only [Lit.wf, Bool.and_eq_true, decide_eq_true_eq]
    constructor
    · show (-9223372036854775808 : Int) ≤ q; omega
    · show (q : Int) ≤ (9223372036854775807 : Int); omega)
  go_upto_region 3 with
    (at_mapUpdate
     refine wpList_mapUpdate_own _ rfl _ _ _ 118 rfl 3 4 lawI Tryz.underlying118 _ mb _ _ rfl (HH.out.mapAt j HJ.out) (by simp only [maxLen]; omega) _ _ _ rfl rfl (Maps.keyOf_int_mk Tryz.underlying3 HW.out) _ [] (plainElem_bool Tryz.underlying4 true) ?_
     intro w4 hm4 hg4)
  have hm5 : MapI w4 mb (m + 1) (putI L (q : Int)) := by
    have h := dmI_put L (q : Int)
    show w4.ownsMap _ _ _ _ _ (dmI _)
    rw [← h]
    exact hm4
  have HH4 := Lib.hid (HH.out.mapSet (i := j) HJ.out hm5 hg4)
  clear HH hm4 hg4 hm5 g0 g2
  have HH := HH4
  clear HH4
  have g0 := (HH.out.boxAt i (by rw [List.getElem?_set_ne (Ne.symm HIJ.out)]; exact HI.out)).cell 0 _ rfl
  have g1 := (Below.cell HH.out.ext hsb).trans HG.out
  go_wp2_with fail
  refine (pgdec_any w4 eA en ec ex HSO.out.len (Oct.At.on HSO.out HH.out.ext (Nat.le_refl _)).rdb HSO.out.le HSO.out.cap).mono ?_
  rintro e w5 ⟨v5, n5, rfl, hown, e5⟩
  rw [if_pos HD1.out, HD2.out] at hown
  rw [if_pos HD1.out, if_pos HD1.out, HD3.out]
  obtain ⟨A5, c5, rfl, _, _, _⟩ := own_form hown
  have hn5 : n5 = p.length := by have h := hown.1; rw [bytes_length, Nat.mul_one] at h; exact h.symm
  subst hn5
  have HH5 := Lib.hid (HH.out.addRow e5 hown)
  clear HH hown e5 g0 g1
  go_wp2_with (go_at_call 59; (refine (sneed_true _ _).mono ?_); rintro e wN ⟨rfl, rfl⟩)
  go_ret2
  exact ⟨A5, c5, rfl, HH5.out⟩
end Go.Proofs.YtfongpdeflfioaaGreat
/- store.loader.chain of a chain that is one. -/
namespace Go.Proofs.YtfongpdeflfioaaGreat
open Go.RowKit Go.Maps Go.Sort Go.Shelf
set_option linter.unusedVariables false
set_option linter.unusedSimpArgs false
theorem infoIn : (Tryz.prog.info? 3).map (fun i => (i.zero, i.size, i.bytes)) = some (some (.int .i64 0), 1, 8) := by kernel_rfl
def sliceN : Value → Nat
  | .slice _ n _ => n
  | _ => 0
def metL (L : List Int) (qs : List Nat) : List Int := qs.foldl (fun L (q : Nat) => putI L (q : Int)) L
theorem metL_snoc (L : List Int) (qs : List Nat) (q : Nat) : metL L (qs ++ [q]) = putI (metL L qs) (q : Int) := by rw [metL, List.foldl_append]; rfl
theorem metL_app (L : List Int) (a b : List Nat) : metL L (a ++ b) = metL (metL L a) b := by rw [metL, List.foldl_append]; rfl
theorem mem_metL {x : Int} : ∀ {qs : List Nat} {L : List Int}, x ∈ metL L qs ↔ x ∈ L ∨ ∃ q ∈ qs, x = (q : Int)
  | [], L => by simp [metL]
  | q :: qs, L => by
    have ih := @mem_metL x qs (putI L (q : Int))
    rw [show metL L (q :: qs) = metL (putI L (q : Int)) qs from rfl, ih, mem_putI]
    constructor
    · rintro ((h | h) | ⟨y, hy, h⟩)
      · exact .inr ⟨q, List.mem_cons_self .., h⟩
      · exact .inl h
      · exact .inr ⟨y, List.mem_cons_of_mem _ hy, h⟩
    · rintro (h | ⟨y, hy, h⟩)
      · exact .inl (.inr h)
      · rcases List.mem_cons.1 hy with rfl | hy
        · exact .inl (.inl h)
        · exact .inr ⟨y, hy, h⟩
theorem flatten_take {α : Type} (ps : List (List α)) (k : Nat) (h : k < ps.length) : (ps.take (k + 1)).flatten = (ps.take k).flatten ++ ps[k] := by
  rw [List.take_succ_eq_append_getElem h, List.flatten_append]; simp
structure ChainOn (sx : List Oct) (L : List Int) (qs : List Nat) (ps : List (List UInt8)) : Prop where
  len : ps.length = qs.length
  lo : ∀ q ∈ qs, 2 ≤ q ∧ q < sx.length ∧ (q : Int) ∉ L
  nodup : qs.Nodup
  fit : ∀ p ∈ ps, p.length ≤ 52
  pages : ∀ k (hk : k < qs.length) (hs : qs[k] < sx.length) (hp : k < ps.length), (sx[qs[k]]).xs = pgB ps[k] ((qs.getD (k + 1) 0 : Nat) : Int)
set_option maxRecDepth 100000 in
set_option maxHeartbeats 8000000 in
theorem lchain_ok {w0 w : World} {its : List It} (rb mb m : Nat) (L : List Int) (secs : Sl Oct) (qv : Value) (i j : Nat) (hi : its[i]? = some (.box rb [secs.val, qv, .map (some mb)])) (hj : its[j]? = some (It.mapi mb m L)) (H : Heap w0 its w)
    (hS : Sl.At w0 0 w0.heap.size octv (Oct.At w0 0 w0.heap.size) secs) (hsn : secs.n ≤ 8192) (hm : m ≤ 900000) (qs : List Nat) (ps : List (List UInt8)) (hc : ChainOn secs.xs L qs ps) (hq9 : qs.length ≤ 8192) :
    Calls Tryz.prog 68 #[.pointer (some ⟨rb, 0, none⟩), .int .i64 ((qs.getD 0 0 : Nat) : Int)] w fun e w' => ∃ A c B d, e = .returned (.tuple #[.slice A ps.flatten.length c, .slice B qs.length d]) ∧
      Heap w0 (.row 3 1 (.slice B qs.length d) qs.length (ints (qs.map Int.ofNat)) :: .row 5 1 (.slice A ps.flatten.length c) ps.flatten.length (bytes ps.flatten) :: its.set j (It.mapi mb (m + qs.length) (metL L qs))) w' := by
  obtain ⟨i0, hi0, hz0, hz1, hz2⟩ := info_parts info5
  obtain ⟨i1, hi1, hx0, hx1, hx2⟩ := info_parts infoIn
  have hjl : j < its.length := (List.getElem?_eq_some_iff.1 hj).1
  have HIJ := Lib.hid (show i ≠ j from fun e => by subst e; rw [hi] at hj; cases hj)
  have HI := Lib.hid (fun k L' => show (its.set j (It.mapi mb k L'))[i]? = some (.box rb [secs.val, qv, .map (some mb)]) by rw [List.getElem?_set_ne (Ne.symm HIJ.out)]; exact hi)
  have HJ := Lib.hid (fun k L' => show (its.set j (It.mapi mb k L'))[j]? = some (It.mapi mb k L') by rw [List.getElem?_set_self hjl])
  have HH := Lib.hid (show Heap w0 (its.set j (It.mapi mb m L)) w by
    have e : its.set j (It.mapi mb m L) = its := by
      obtain ⟨h1, h2⟩ := List.getElem?_eq_some_iff.1 hj
      rw [← h2]; exact List.set_getElem_self _
    rw [e]; exact H)
  have HSt := Lib.hid (fun k L' k2 L2 => show (its.set j (It.mapi mb k L')).set j (It.mapi mb k2 L2) = its.set j (It.mapi mb k2 L2) from List.set_set ..)
  have HC := Lib.hid hc
  have HLn := Lib.hid hc.len
  have hfb : ∀ k, (ps.take k).flatten.length ≤ 52 * 8192 := fun k => by
    have h1 : ∀ l : List (List UInt8), (∀ p ∈ l, p.length ≤ 52) → l.flatten.length ≤ 52 * l.length := fun l => by
      induction l with
      | nil => intro _; simp
      | cons p l ih =>
        intro h
        have := ih fun q hq => h q (List.mem_cons_of_mem _ hq)
        have := h p (List.mem_cons_self ..)
        rw [List.flatten_cons, List.length_append, List.length_cons]
        omega
    have h2 := h1 (ps.take k) fun p hp => hc.fit p (List.mem_of_mem_take hp)
    have h3 : (ps.take k).length ≤ 8192 := by rw [List.length_take, hc.len]; omega
    omega
  have HFb := Lib.hid hfb
  clear hi hj H hc hfb hjl
  go_enter Tryz.func68, Tryz.ntmps68
  go_upto_region 3 with fail
  have HH2 := Lib.hid ((HH.out.row0 (e := 5) (size := 1)).row0 (e := 3) (size := 1))
  clear HH
  go_loopw [1, 6, 7] (fun vat vb vl wr => ∃ (k : Nat) (A : Option Addr) (c : Nat) (B : Option Addr) (d : Nat), k ≤ qs.length ∧ vat = .int .i64 ((qs.getD k 0 : Nat) : Int) ∧ vb = .slice A ((ps.take k).flatten.length) c ∧ vl = .slice B k d ∧
      Hid (Heap w0 (.row 3 1 (.slice B k d) k (ints ((qs.take k).map Int.ofNat)) :: .row 5 1 (.slice A ((ps.take k).flatten.length) c) ((ps.take k).flatten.length) (bytes (ps.take k).flatten) :: its.set j (It.mapi mb (m + k) (metL L (qs.take k)))) wr)) (fun _ _ vl _ => qs.length - sliceN vl)
  case atStart => exact ⟨0, none, 0, none, 0, Nat.zero_le _, rfl, rfl, rfl, HH2⟩
  case round =>
    clear HH2
    obtain ⟨k, A, c, B, d, hk, rfl, rfl, rfl, HH⟩ := hrel
    by_cases hlt : k < qs.length
    · have hkp : k < ps.length := by rw [HLn.out]; exact hlt
      have hfk := HFb.out k
      have HT := Lib.hid (flatten_take ps k hkp)
      have HTq := Lib.hid (List.take_succ_eq_append_getElem hlt)
      obtain ⟨q2, qlt, qnew⟩ := HC.out.lo _ (List.getElem_mem hlt)
      have HPg := Lib.hid (fun (hs : qs[k] < secs.xs.length) => HC.out.pages k hlt hs hkp)
      have HPf := Lib.hid (HC.out.fit _ (List.getElem_mem hkp))
      have HNx := Lib.hid (show qs.getD (k + 1) 0 < 8192 by
        rcases Nat.lt_or_ge (k + 1) qs.length with h | h
        · have h1 := (HC.out.lo _ (List.getElem_mem h)).2.1
          have h2 := hS.len
          rw [List.getD_eq_getElem?_getD, List.getElem?_eq_getElem h]
          show qs[k + 1] < 8192
          omega
        · rw [List.getD_eq_getElem?_getD, List.getElem?_eq_none h]; decide)
      have HQn := Lib.hid (show ((qs[k] : Nat) : Int) ∉ metL L (qs.take k) from fun h => by
        rcases mem_metL.1 h with h | ⟨y, hy, h⟩
        · exact qnew h
        · obtain ⟨a, ha, rfl⟩ := List.getElem_of_mem hy
          rw [List.getElem_take] at h
          have h2 : qs[k] = qs[a]'(by rw [List.length_take] at ha; omega) := by omega
          have h3 := (List.nodup_iff_pairwise_ne.1 HC.out.nodup)
          rw [List.pairwise_iff_getElem] at h3
          exact h3 a k (by rw [List.length_take] at ha; omega) hlt (by rw [List.length_take] at ha; omega) h2.symm)
      rw [show qs.getD k 0 = qs[k] by rw [List.getD_eq_getElem?_getD, List.getElem?_eq_getElem hlt]; rfl]
      have HQl := Lib.hid qlt
      clear qlt qnew
      generalize hps : ps[k] = p at *
      generalize hqq : qs[k] = q at *
      have hq0 : ¬ q = 0 := by omega
      clear hps hqq
      go_wp2_with fail
      refine (lpage_ok rb mb (m + k) _ secs qv (i + 2) (j + 2) (HI.out _ _) (HJ.out _ _) HH.out hS hsn (by omega) q q2 HQl.out HQn.out p (qs.getD (k + 1) 0) HPf.out HNx.out (HPg.out HQl.out)).mono ?_
      rintro e w4 ⟨A4, c4, rfl, h4⟩
      have HH4 := Lib.hid (show Heap w0 (.row 5 1 (.slice A4 p.length c4) p.length (bytes p) :: .row 3 1 (.slice B k d) k (ints ((qs.take k).map Int.ofNat)) :: .row 5 1 (.slice A ((ps.take k).flatten.length) c) ((ps.take k).flatten.length) (bytes (ps.take k).flatten) :: its.set j (It.mapi mb (m + k + 1) (putI (metL L (qs.take k)) (q : Int)))) w4 by
        have h := h4
        rw [show (.row 3 1 (.slice B k d) k (ints ((qs.take k).map Int.ofNat)) :: .row 5 1 (.slice A ((ps.take k).flatten.length) c) ((ps.take k).flatten.length) (bytes (ps.take k).flatten) :: its.set j (It.mapi mb (m + k) (metL L (qs.take k))) : List It).set (j + 2) (It.mapi mb (m + k + 1) (putI (metL L (qs.take k)) (q : Int))) = .row 3 1 (.slice B k d) k (ints ((qs.take k).map Int.ofNat)) :: .row 5 1 (.slice A ((ps.take k).flatten.length) c) ((ps.take k).flatten.length) (bytes (ps.take k).flatten) :: (its.set j (It.mapi mb (m + k) (metL L (qs.take k)))).set j (It.mapi mb (m + k + 1) (putI (metL L (qs.take k)) (q : Int))) from rfl, HSt.out] at h
        exact h)
      clear HH h4
      have HH := HH4
      clear HH4
      have hpf := HPf.out
      have HT2 := Lib.hid (show (ps.take (k + 1)).flatten.length = (ps.take k).flatten.length + p.length by rw [HT.out, List.length_append])
      generalize (ps.take k).flatten = F0 at *
      go_upto_region 5 with fail
      (iterate 60 (first | at_builtin | go_step))
      refine shl_app (e := 5) (size := 1) (bytes := 1) (news := bytes p) (.tmp 18) (.tmp 19) _ rfl rfl Tryz.underlying33 hi0 hz0 hz1 hz2 rfl (by omega) HH.out 2 rfl rfl (m := p.length) rfl (by rw [bytes_length, Nat.mul_one]) (HH.out.rowRd 0 rfl) (bytes_one p) (by simp only [maxLen]; omega) (by omega) ?_
      intro v5 w5 hh5 h5
      obtain ⟨A5, c5, rfl⟩ := h5
      have HH5 := Lib.hid hh5.tail
      clear HH hh5
      (iterate 60 (first | at_builtin | go_step))
      generalize hwA : World.alloc w5 _ = w6
      have HH6 := Lib.hid (HH5.out.allocE hwA)
      clear HH5 hwA
      refine shl_app (e := 3) (size := 1) (bytes := 8) (news := [.int .i64 (q : Int)]) (.tmp 21) (.tmp 23) _ rfl rfl Tryz.underlying29 hi1 hx0 hx1 hx2 rfl (by omega) HH6.out 1 rfl rfl (m := 1) rfl rfl (HH6.out.boxRd 0 rfl) (by simp [Value.oneCell']) (by simp only [maxLen]; omega) (by omega) ?_
      intro v7 w7 hh7 h7
      obtain ⟨B7, d7, rfl⟩ := h7
      have HH7 := Lib.hid hh7.tail
      clear HH6 hh7
      go_wp2_with fail
      go_roundw
      case rel =>
        refine ⟨k + 1, A5, c5, B7, d7, by omega, rfl, by rw [HT2.out], rfl, ?_⟩
        rw [HT2.out, HT.out, HTq.out, List.map_append, ints_append, bytes_append, metL_snoc]
        exact HH7
      case measure => simp [sliceN]; omega
    · obtain rfl : k = qs.length := by omega
      rw [show qs.getD qs.length 0 = 0 by rw [List.getD_eq_getElem?_getD, List.getElem?_eq_none (Nat.le_refl _)]; rfl]
      have ht : ps.take qs.length = ps := List.take_of_length_le (by rw [HLn.out]; exact Nat.le_refl _)
      rw [ht, List.take_length] at HH
      rw [ht]
      clear ht
      go_wp2_with fail
      go_ret2
      exact ⟨A, c, B, d, rfl, HH.out⟩
end Go.Proofs.YtfongpdeflfioaaGreat
/- store.loader.object of an object that is one. -/
namespace Go.Proofs.YtfongpdeflfioaaGreat
open Go.RowKit Go.Maps Go.Sort Go.Shelf
set_option linter.unusedVariables false
set_option linter.unusedSimpArgs false
attribute [local go_sem] Oper.semAt_some
theorem num8_back (n : Nat) (h : n ≤ 1000000) : fV (num8 (n : Int)) = (n : Int) ∧ fE (num8 (n : Int)) = 0 := by
  have h1 : (num8 (n : Int)).size = 8 := by show (puts (n : Int) 8).toArray.size = 8; simp [puts_length]
  have h2 := num_back (n : Int) (by omega) (by omega)
  unfold fV fE
  rw [h1, if_neg (by decide), if_neg (by decide), if_neg (by decide), if_neg (by decide)]
  show numV (puts (n : Int) 8) = _ ∧ numE (puts (n : Int) 8) = _
  exact ⟨h2.2 (by omega), by rw [h2.1, if_neg (by omega)]⟩
theorem numsO_part (l : List Int) (k : Nat) (h : k < l.length) : ((numsO l).drop (k * 8)).take 8 = puts l[k] 8 := by
  have e : l = l.take k ++ (l[k] :: l.drop (k + 1)) := by rw [List.getElem_cons_drop, List.take_append_drop]
  have h1 : numsO l = numsO (l.take k) ++ (puts l[k] 8 ++ numsO (l.drop (k + 1))) := by
    conv => lhs; rw [e]
    rw [numsO, List.flatMap_append, List.flatMap_cons]; rfl
  rw [h1]
  exact mid_of _ _ _ (k * 8) 8 (by rw [numsO_len, List.length_take]; omega) (puts_length _ _)
theorem take_part (d : List UInt8) (k : Nat) : d.take ((k + 1) * 52) = d.take (k * 52) ++ partO d k := by
  rw [partO, show (k + 1) * 52 = k * 52 + 52 by omega, List.take_add]
section
variable {P : Program} {w0 w : World} {its : List It} {fn : Func} {R : Ending → World → Prop} {tmps : Array Value}
theorem leaveM_cell {F : Fence} {m : Nat} {t : TypeId} {x b n : Nat} {vs : List Value} (hs : (P.info? t).map (·.size) = some n) (kt : rowK P t = some true) (H : Heap w0 its w) (hres : fn.results = #[.cell x t])
    (hx : tmps.getD x undef = .pointer (some ⟨b, 0, none⟩)) (i : Nat) (hi : its[i]? = some (.box b vs)) (hl : Nat.ble n vs.length = true)
    (hR : R (.returned (.agg (vs.take n).toArray)) w) : LeavesInM F m P fn tmps R [] .returning w := by
  refine ⟨_, ?_, hR⟩
  have h0 := sh_loadVar (p := 0) H hs kt i hi (by rw [Nat.zero_add]; exact Nat.le_of_ble_eq_true hl)
  have hx' : tmps[x]?.getD undef = .pointer (some ⟨b, 0, none⟩) := by simpa using hx
  rw [List.drop_zero] at h0
  simp only [results, hres]
  simp [asAddr, hx', h0]
theorem Heap.skip6 {a b c1 c2 c3 c4 c5 c6 : It} {l : List It} (H : Heap w0 (a :: b :: c1 :: c2 :: c3 :: c4 :: c5 :: c6 :: l) w) : Heap w0 (a :: b :: l) w :=
  H.sub' (fun k => if k < 2 then k else k + 6) (fun i j h => by
    (try dsimp only at h)
    split at h <;> split at h <;> omega) (fun i x hx => by
    match i with
    | 0 => exact hx
    | 1 => exact hx
    | k + 2 => exact hx)
end
set_option maxRecDepth 100000 in
set_option maxHeartbeats 8000000 in
theorem lobj_ok {w0 w : World} {its : List It} (rb mb m : Nat) (L : List Int) (secs : Sl Oct) (qv : Value) (i j : Nat) (hi : its[i]? = some (.box rb [secs.val, qv, .map (some mb)])) (hj : its[j]? = some (It.mapi mb m L)) (H : Heap w0 its w)
    (hS : Sl.At w0 0 w0.heap.size octv (Oct.At w0 0 w0.heap.size) secs) (hsn : secs.n ≤ 8192) (hm : m ≤ 900000) (key at_ : ByteArray) (d : List UInt8) (qs : List Nat) (hd : d.length ≤ 65536) (hl : qs.length = cntP d.length) (hlo : ∀ q ∈ qs, 2 ≤ q ∧ q < secs.xs.length ∧ (q : Int) ∉ L) (hnd : qs.Nodup)
    (hpg : ∀ k (hk : k < qs.length) (hs : qs[k] < secs.xs.length), (secs.xs[qs[k]]).xs = pgB (partO d k) 0) (hat : at_.data.toList = numsO (qs.map Int.ofNat)) :
    Calls Tryz.prog 71 #[.pointer (some ⟨rb, 0, none⟩), .string key, .string (num8 (d.length : Int)), .string at_] w fun e w' => ∃ A c B dd, e = .returned (.agg #[.string key, .slice A d.length c, .slice B qs.length dd]) ∧
      Heap w0 (.row 3 1 (.slice B qs.length dd) qs.length (ints (qs.map Int.ofNat)) :: .row 5 1 (.slice A d.length c) d.length (bytes d) :: its.set j (It.mapi mb (m + qs.length) (metL L qs))) w' := by
  obtain ⟨i0, hi0, hz0, hz1, hz2⟩ := info_parts info5
  obtain ⟨i1, hi1, hx0, hx1, hx2⟩ := info_parts infoIn
  have hjl : j < its.length := (List.getElem?_eq_some_iff.1 hj).1
  have HIJ := Lib.hid (show i ≠ j from fun e => by subst e; rw [hi] at hj; cases hj)
  have HI := Lib.hid (fun k L' => show (its.set j (It.mapi mb k L'))[i]? = some (.box rb [secs.val, qv, .map (some mb)]) by rw [List.getElem?_set_ne (Ne.symm HIJ.out)]; exact hi)
  have HJ := Lib.hid (fun k L' => show (its.set j (It.mapi mb k L'))[j]? = some (It.mapi mb k L') by rw [List.getElem?_set_self hjl])
  have HH := Lib.hid (show Heap w0 (its.set j (It.mapi mb m L)) w by
    have e : its.set j (It.mapi mb m L) = its := by
      obtain ⟨h1, h2⟩ := List.getElem?_eq_some_iff.1 hj
      rw [← h2]; exact List.set_getElem_self _
    rw [e]; exact H)
  have HSt := Lib.hid (fun k L' k2 L2 => show (its.set j (It.mapi mb k L')).set j (It.mapi mb k2 L2) = its.set j (It.mapi mb k2 L2) from List.set_set ..)
  have HLo := Lib.hid hlo
  have HNd := Lib.hid hnd
  have HPg := Lib.hid hpg
  have HAt := Lib.hid hat
  have HQl := Lib.hid hl
  have hq9 : qs.length ≤ 1261 := by rw [hl]; unfold cntP; omega
  have hsz : at_.size = 8 * qs.length := by
    have h := congrArg List.length hat
    rw [numsO_len, List.length_map] at h
    exact h
  have HFn := Lib.hid (fun W => fnumber_any (num8 (d.length : Int)) W (by show (puts (d.length : Int) 8).toArray.size ≤ _; simp [puts_length]))
  rw [(num8_back d.length (by omega)).1, (num8_back d.length (by omega)).2] at HFn
  have hcv := fun W => run_bytes_of_string (P := Tryz.prog) W 9 33 5 at_ Tryz.underlying9 Tryz.underlying33 Tryz.underlying5
  have HSz := Lib.hid hsz
  have HS8 := Lib.hid (show ((at_.size : Int) % 8 == 0) = true by rw [hsz]; simp)
  clear hi hj H hjl hlo hnd hpg hat hl hsz
  refine (callsIn_wide (n := 1)).1 (callsIn_of_wp_marks Tryz.func71 rfl trivial ?_ rfl)
  simp only [Tryz.ntmps71, List.size_toArray, List.length_cons, List.length_nil, Nat.reduceAdd, Nat.reduceSub, Array.replicate_succ, Array.replicate_zero, List.push_toArray, List.append_toArray, List.nil_append, List.cons_append]
  refine wpIn_wide.2 ?_
  go_upto_region 1 with fail
  generalize hwH : World.alloc (World.alloc w _) _ = w1
  have HH2 := Lib.hid ((HH.out.alloc _ _).allocE hwH)
  clear hwH HH
  have HH := HH2
  clear HH2
  simp only [World.size_alloc] at HH
  obtain ⟨pb, hpb⟩ : ∃ b, b = w.heap.size := ⟨_, rfl⟩
  obtain ⟨ob, hob⟩ : ∃ b, b = w.heap.size + 1 := ⟨_, rfl⟩
  rw [← hob, ← hpb] at HH ⊢
  clear hob hpb
  go_upto_region 2 with (go_at_call 106; (with_reducible refine (HFn.out _).mono ?_); rintro e wC ⟨rfl, eC⟩; have HHn := Lib.hid (HH.out.later eC); clear HH eC; have HH := HHn; clear HHn)
  go_wp2_with fail
  rw [HS8.out]
  refine (sneed_true _ _).mono ?_
  rintro e wN ⟨rfl, rfl⟩
  go_upto_region 4 with (refine shl_store (HH.out.alloc _ _) sizeOb rfl rfl rfl rfl 0 rfl rfl rfl rfl ?_; clear HH; intro wS HHS; have HH := Lib.hid HHS; clear HHS)
  obtain ⟨xb, hxb⟩ : ∃ b, b = wN.heap.size := ⟨_, rfl⟩
  rw [← hxb] at HH ⊢
  clear hxb
  have hG1 : at_.size ≤ grownCap wS at_.size 0 5 := grownCap_ge wS _ _ _
  have hG2 : grownCap wS at_.size 0 5 ≤ maxLen := grownCap_le_maxLen wS at_.size 0 5 (by have := HSz.out; simp only [maxLen]; omega)
  have HRb := Lib.hid (rd_bytesRow wS at_ (grownCap wS at_.size 0 5) 5 ((bytesRow at_ (grownCap wS at_.size 0 5)).size, (bytesRow at_ (grownCap wS at_.size 0 5)).size + 1))
  have HG1 := Lib.hid hG1
  have HG2 := Lib.hid hG2
  clear hG1 hG2
  go_wp2_with fail
  clear hcv
  have HH2 := Lib.hid (HH.out.addRd (Ext.drew ((Ext.refl wS).alloc _)) HRb.out.drew (by simp))
  clear HH HRb
  have HH := HH2
  clear HH2
  generalize World.drew (World.alloc wS _) = wB at *
  obtain ⟨sb, hsb⟩ : ∃ b, b = wS.heap.size := ⟨_, rfl⟩
  rw [← hsb] at HH ⊢
  obtain ⟨gc, hgc⟩ : ∃ c, c = grownCap wS at_.size 0 5 := ⟨_, rfl⟩
  rw [← hgc] at HG1 HG2 ⊢
  clear hsb hgc
  have HZ := Lib.hid (show at_.size = 8 * qs.length from HSz.out)
  refine (chunk_any _ _ at_.size gc 8 (by decide) (by decide)).mono ?_
  rintro e w2 ⟨rfl, rfl⟩
  generalize hwH : World.alloc (World.alloc wB _) _ = w2
  have HH2 := Lib.hid ((HH.out.alloc _ _).allocE hwH)
  clear HH hwH
  have HH := HH2
  clear HH2
  simp only [World.size_alloc] at HH
  obtain ⟨bs, hbs⟩ : ∃ b, b = wB.heap.size := ⟨_, rfl⟩
  obtain ⟨bm, hbm⟩ : ∃ b, b = wB.heap.size + 1 := ⟨_, rfl⟩
  rw [← hbm, ← hbs] at HH ⊢
  clear hbs hbm
  have HH2 := Lib.hid (show Heap w0 (.row 3 1 (.slice none 0 0) 0 [] :: .row 5 1 (.slice none 0 0) 0 [] :: .box bm [.int .i64 8] :: .box bs [.slice (some ⟨sb, 0, none⟩) at_.size gc] :: .rd (some ⟨sb, 0, none⟩) (bytes at_.data.toList) :: .box xb [.string key, .slice none 0 0, .slice none 0 0] :: .box ob [.string ⟨#[]⟩, .slice none 0 0, .slice none 0 0] :: .box pb [.pointer (some ⟨rb, 0, none⟩)] :: its.set j (It.mapi mb m L)) w2 from (HH.out.row0 (e := 5) (size := 1)).row0 (e := 3) (size := 1))
  clear HH
  have HH := HH2
  clear HH2
  have HN := Lib.hid (show chN 8 at_.size = qs.length by rw [HZ.out, chN]; omega)
  go_wp2_with fail
  refine rangeH (P := Tryz.prog) (α := Nat) (N := chN 8 at_.size) (w0 := w0) (gf := 112) (lb := #[.pointer (some ⟨bs, 0, none⟩), .pointer (some ⟨bm, 0, none⟩)]) (encs := fun k => #[chV (some ⟨sb, 0, none⟩) 8 at_.size k]) (ok := fun pre k => k = pre.length) (S := fun xs => xs = List.range (chN 8 at_.size))
    (fun pre L9 => ∃ (A : Option Addr) (c : Nat) (B : Option Addr) (dd : Nat), L9 = .row 3 1 (.slice B pre.length dd) pre.length (ints ((qs.take pre.length).map Int.ofNat)) :: .row 5 1 (.slice A (d.take (pre.length * 52)).length c) (d.take (pre.length * 52)).length (bytes (d.take (pre.length * 52))) :: .box bm [.int .i64 8] :: .box bs [.slice (some ⟨sb, 0, none⟩) at_.size gc] :: .rd (some ⟨sb, 0, none⟩) (bytes at_.data.toList) :: .box xb [.string key, .slice A (d.take (pre.length * 52)).length c, .slice B pre.length dd] :: .box ob [.string ⟨#[]⟩, .slice none 0 0, .slice none 0 0] :: .box pb [.pointer (some ⟨rb, 0, none⟩)] :: its.set j (It.mapi mb (m + pre.length) (metL L (qs.take pre.length)))) false rfl
    (enters_of Tryz.func112 (by kernel_rfl) rfl) (fun _ => rfl) (fun h => by cases h) (chunk_seq (by decide) (by decide) (by have := HZ.out; omega) HG1.out ?cells) ⟨none, 0, none, 0, rfl⟩ HH.out ?a1 ?assign ?body ?done
  case cells =>
    rintro pre L ⟨A, c, B, dd, rfl⟩ W x y HW
    exact ⟨(HW.boxAt 5 rfl).cell 0 _ rfl, (HW.boxAt 4 rfl).cell 0 _ rfl⟩
  case assign =>
    intro l k W K hK
    simp only [chV]
    gi_wp2
    exact hK
  case body =>
    clear HH
    rintro l pre k y1 y2 y3 L9 W hlen hk ⟨A, c, B, dd, rfl⟩ H
    have HKp := Lib.hid hk.symm
    rw [← hk] at hlen H
    clear hk
    rw [HN.out] at hlen
    have HH := Lib.hid H
    clear H
    have hk1 : k < (qs.map Int.ofNat).length := by rw [List.length_map]; exact hlen
    have HTq := Lib.hid (List.take_succ_eq_append_getElem hlen)
    have HTd := Lib.hid (take_part d k)
    obtain ⟨q2, qlt, qnew⟩ := HLo.out _ (List.getElem_mem hlen)
    have HPk := Lib.hid (fun (hs : qs[k] < secs.xs.length) => HPg.out k hlen hs)
    have HQn := Lib.hid (show ((qs[k] : Nat) : Int) ∉ metL L (qs.take k) from fun h => by
      rcases mem_metL.1 h with h | ⟨y, hy, h⟩
      · exact qnew h
      · obtain ⟨a, ha, rfl⟩ := List.getElem_of_mem hy
        rw [List.getElem_take] at h
        have h2 : qs[k] = qs[a]'(by rw [List.length_take] at ha; omega) := by omega
        have h3 := (List.nodup_iff_pairwise_ne.1 HNd.out)
        rw [List.pairwise_iff_getElem] at h3
        exact h3 a k (by rw [List.length_take] at ha; omega) hlen (by rw [List.length_take] at ha; omega) h2.symm)
    have hpart : Rd W w0.heap.size W.heap.size ((some ⟨sb, 0, none⟩ : Option Addr).map (·.add (k * 8))) (bytes (puts ((qs[k] : Nat) : Int) 8)) := by
      have e := numsO_part (qs.map Int.ofNat) k hk1
      rw [← HAt.out, List.getElem_map] at e
      rw [show ((qs[k] : Nat) : Int) = Int.ofNat qs[k] from rfl, ← e, ← bytes_take, ← bytes_drop]
      exact ((HH.out.rdAt 7 rfl).drop _).take _
    have HQl := Lib.hid qlt
    have hq8 : secs.xs.length ≤ 8192 := by rw [← hS.len]; exact hsn
    clear qnew
    generalize qs[k] = q at *
    rw [show ((some ⟨sb, 0, none⟩ : Option Addr).map (·.add (k * 8))) = some ⟨sb, k * 8, none⟩ by show some (Addr.add ⟨sb, 0, none⟩ (k * 8)) = _; rw [add_lit, Nat.zero_add]] at hpart
    have HNm := Lib.hid (number_any W _ (min 8 (at_.size - k * 8)) (min 8 (at_.size - k * 8)) w0.heap.size W.heap.size (puts (q : Int) 8) (by rw [puts_length, HZ.out]; omega) (by omega) hpart (Nat.le_refl _))
    have h9 := num_back (q : Int) (by omega) (by omega)
    rw [h9.2 (by omega), h9.1, if_neg (by omega)] at HNm
    clear hpart h9 qlt hk1
    refine wpIn_block ?_
    refine wpIn_seq ?_
    refine regionIn (by rintro ⟨_, _, h⟩; cases h.1) rfl ?_
    go_wp2_with fail
    refine HNm.out.mono ?_
    rintro e w3 ⟨rfl, e3⟩
    have HH3 := Lib.hid (HH.out.later e3)
    clear HH e3 HNm
    have HH := HH3
    clear HH3
    go_wp2_with fail
    (try simp only [Exit.then])
    refine wpIn_seq ?_
    refine regionIn (by rintro ⟨_, _, h⟩; cases h.1) rfl ?_
    go_wp2_with fail
    refine (sneed_true _ _).mono ?_
    rintro e w4 ⟨rfl, rfl⟩
    go_wp2_with fail
    (try simp only [Exit.then])
    refine wpIn_seq ?_
    refine regionIn (by rintro ⟨_, _, h⟩; cases h.1) rfl ?_
    go_wp2_with (refine shl_load1 HH.out rfl rfl rfl 10 rfl rfl (by decide +kernel) ?_)
    have hkm : m + k ≤ 1000000 := by omega
    refine (lpage_ok rb mb (m + k) _ secs qv (i + 11) (j + 11) (HI.out _ _) (HJ.out _ _) HH.out hS hsn hkm q q2 HQl.out HQn.out (partO d k) 0 (partO_len d k) (by decide) (HPk.out HQl.out)).mono ?_
    rintro e w5 ⟨A5, c5, rfl, h5⟩
    have HP5 := partO_len d k
    generalize partO d k = p at *
    have HH5 := Lib.hid (show Heap w0 (.row 5 1 (.slice A5 p.length c5) p.length (bytes p) :: y1 :: y2 :: y3 :: .row 3 1 (.slice B k dd) k (ints ((qs.take k).map Int.ofNat)) :: .row 5 1 (.slice A (d.take (k * 52)).length c) (d.take (k * 52)).length (bytes (d.take (k * 52))) :: .box bm [.int .i64 8] :: .box bs [.slice (some ⟨sb, 0, none⟩) at_.size gc] :: .rd (some ⟨sb, 0, none⟩) (bytes at_.data.toList) :: .box xb [.string key, .slice A (d.take (k * 52)).length c, .slice B k dd] :: .box ob [.string ⟨#[]⟩, .slice none 0 0, .slice none 0 0] :: .box pb [.pointer (some ⟨rb, 0, none⟩)] :: its.set j (It.mapi mb (m + k + 1) (putI (metL L (qs.take k)) (q : Int)))) w5 by
      rw [← HSt.out (m + k) (metL L (qs.take k))]
      exact h5)
    clear HH h5
    have HH := HH5
    clear HH5
    go_wp2_with fail
    (try simp only [Exit.then])
    refine wpIn_seq ?_
    refine regionIn (by rintro ⟨_, _, h⟩; cases h.1) rfl ?_
    go_wp2_with fail
    refine (sneed_true _ _).mono ?_
    rintro e w6 ⟨rfl, rfl⟩
    go_wp2_with fail
    (try simp only [Exit.then])
    have hDk : (d.take (k * 52)).length ≤ 65536 := by rw [List.length_take]; omega
    generalize d.take (k * 52) = Dk at *
    have HHd := Lib.hid HH.out.drew
    clear HH
    refine rgnMIn (fun z => Nat.blt z 9) (S := fun W => W.cell? ⟨xb, 1, none⟩ = some (.slice A Dk.length c) ∧ W.cell? ⟨xb, 2, none⟩ = some (.slice B k dd)) (by rintro ⟨_, _, h⟩; cases h.1) rfl (by kernel_rfl) ⟨(HHd.out.boxAt 9 rfl).cell 1 _ rfl, (HHd.out.boxAt 9 rfl).cell 2 _ rfl⟩ (fun hHeld => ?_)
    generalize World.drew w6 = wd at *
    refine mS 0 ?_; (try simp only [Act.put, lyA, lyB, lyC])
    refine mS 1 ?_; (try simp only [Act.put, lyA, lyB, lyC])
    refine mS 2 ?_; (try simp only [Act.put, lyA, lyB, lyC])
    refine mS 5 ?_; (try simp only [Act.put, lyA, lyB, lyC])
    refine mS 6 ?_; (try simp only [Act.put, lyA, lyB, lyC])
    refine mS 7 ?_; (try simp only [Act.put, lyA, lyB, lyC])
    clear hHeld
    refine oneM 3 rfl (by kernel_rfl) (by kernel_rfl) (fun K hK => ?_)
    go_simp
    generalize hwA : World.alloc _ _ = w7
    have HH7 := Lib.hid (HHd.out.allocE hwA)
    clear hwA HHd
    refine hK.out _ _ ⟨(HH7.out.boxAt 10 rfl).cell 1 _ rfl, (HH7.out.boxAt 10 rfl).cell 2 _ rfl⟩ (fun hHeld => ?_)
    clear hK K hHeld
    (try simp only [Act.put, lyA, lyB, lyC])
    refine oneM 4 rfl (by kernel_rfl) (by kernel_rfl) (fun K hK => ?_)
    refine sh_app (.tmp 55) (.tmp 57) _ rfl Tryz.underlying29 hi1 hx0 hx1 hx2 rfl (by omega) HH7.out 5 rfl rfl (m := 1) rfl rfl (HH7.out.boxRd 0 rfl) (by simp [Value.oneCell']) (by simp only [maxLen]; omega) (by omega) ?_
    rintro v8 w8 hh8 ⟨B8, d8, rfl⟩
    have HH8 := Lib.hid hh8.tail
    clear hh8 HH7
    refine hK.out _ _ ⟨(HH8.out.boxAt 9 rfl).cell 1 _ rfl, (HH8.out.boxAt 9 rfl).cell 2 _ rfl⟩ (fun hHeld => ?_)
    clear hK K
    (try simp only [Act.put, lyA, lyB, lyC])
    refine pureM 9 (v := ?_) rfl (by kernel_rfl) (by kernel_rfl) (by kernel_rfl) (by kernel_rfl) (fun _ _ _ h => h) (by kernel_rfl) ?_ (fun _ => by assumption) ?_; rotate_left; (focus (intro w; go_simp <;> with_reducible rfl)); (try simp only [Act.put, lyA, lyB, lyC])
    clear hHeld
    refine freeM 8 rfl (by kernel_rfl) (by kernel_rfl) (by kernel_rfl) (fun K hK => ?_)
    refine sh_app (.tmp 60) (.tmp 61) _ rfl Tryz.underlying33 hi0 hz0 hz1 hz2 rfl (by omega) HH8.out 5 rfl rfl (m := p.length) rfl (by rw [bytes_length, Nat.mul_one]) (HH8.out.rowRd 0 rfl) (bytes_one p) (by simp only [maxLen]; omega) (by omega) ?_
    rintro v9 w9 hh9 ⟨A9, c9, rfl⟩
    have HH9 := Lib.hid hh9.tail
    clear hh9 HH8
    refine hK.out _ _ ?_
    clear hK K
    (try simp only [Act.put, lyA, lyB, lyC])
    refine freeM 10 rfl (by kernel_rfl) (by kernel_rfl) (by kernel_rfl) (fun K hK => ?_)
    refine sh_store1 HH9.out rfl rfl rfl 8 rfl (Nat.le_of_ble_eq_true rfl) rfl (by kernel_rfl) ?_
    intro w10 hh10
    have HH10 := Lib.hid hh10
    clear hh10 HH9
    refine hK.out _ _ ?_
    clear hK K
    (try simp only [Act.put, lyA, lyB, lyC])
    refine pureM 11 (v := ?_) rfl (by kernel_rfl) (by kernel_rfl) (by kernel_rfl) (by kernel_rfl) (fun _ _ _ h => h) (by kernel_rfl) ?_ (fun h => absurd h (no_more (by kernel_rfl))) ?_; rotate_left; (focus (intro w; go_simp <;> with_reducible rfl)); (try simp only [Act.put, lyA, lyB, lyC])
    refine freeM 12 rfl (by kernel_rfl) (by kernel_rfl) (by kernel_rfl) (fun K hK => ?_)
    refine sh_store1 HH10.out rfl rfl rfl 8 rfl (Nat.le_of_ble_eq_true rfl) rfl (by kernel_rfl) ?_
    intro w11 hh11
    have HH11 := Lib.hid hh11
    clear hh11 HH10
    refine hK.out _ _ ?_
    clear hK K
    (try simp only [Act.put, lyA, lyB, lyC])
    refine doneM (by kernel_rfl) ?_
    refine ⟨by first | trivial | rfl, _, ⟨A9, c9, B8, d8, rfl⟩, ?_⟩
    rw [List.length_append, List.length_singleton, HKp.out, HTd.out, HTq.out, List.length_append, List.map_append, ints_append, bytes_append, metL_snoc]
    exact HH11.out
  case done =>
    rintro D y xs L9 W rfl ⟨A, c, B, dd, rfl⟩ H
    clear HH
    rw [List.length_range, HN.out] at H
    have hfull : d.take (qs.length * 52) = d := List.take_of_length_le (by have h := HQl.out; unfold cntP at h; omega)
    rw [hfull, List.take_length] at H
    have HH := Lib.hid H
    clear H hfull
    (try simp only [Exit.inBlock, Exit.then])
    go_wp2_with (first | (refine shl_load1 HH.out rfl rfl rfl 7 rfl rfl (by decide +kernel) ?_) | (refine shl_load HH.out sizeOb (by kernel_rfl) rfl rfl rfl 7 rfl rfl ?_) | (refine shl_store HH.out sizeOb rfl rfl rfl rfl 8 rfl rfl rfl rfl ?_; clear HH; intro wS HHS; have HH := Lib.hid HHS; clear HHS) | (go_at_call 59; (refine (sneed_true _ _).mono ?_); rintro e wN ⟨rfl, rfl⟩))
    refine ⟨by simp, .inl ⟨_, _, rfl, run_takeDeferred (HH.out.objAt 1 rfl), ?_⟩⟩
    have H2 := HH.out.putObj 1 rfl (.deferred none)
    refine leaveM_cell sizeOb (by kernel_rfl) H2 rfl rfl 8 rfl rfl ?_
    exact ⟨A, c, B, dd, rfl, H2.tail.tail.skip6⟩
end Go.Proofs.YtfongpdeflfioaaGreat
